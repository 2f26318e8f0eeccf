/-
  The walk of the law FnExactNeverEnters: it returns true, and nothing that was there before has turned.
-/
import Derived.Test.YtokglpdlhacnaaaDoorPbBackAll8
import Derived.Test.YtokglpdlhacnaaaDoorPbBackAll10
import Derived.Test.YtokglpdlhacnaaaDoorPbBackAll11
import Derived.Test.YtokglpdlhacnaaaDoorRows
import Derived.LaidMore
import Derived.Stop.Joined
import Derived.Test.YtokglpdlhacnaaaDoorCards
import Derived.Test.YtokglpdlhacnaaaDoorTie
import Derived.SevenTiedAt
namespace Go.Proofs.YtokglpdlhacnaaaDoor
open Go.RowKit

set_option maxRecDepth 100000 in
set_option maxHeartbeats 4000000 in
theorem lawNeverEnters (sy st : Int) (A : Option Addr) (n c : Nat) (rs : List R3) (q b : Int) (w : World) (hr : S3 w A n rs) (hn : n ≤ 9223372036854775807) (ht : Tab w) :
    Calls Tryd.prog 4 #[.agg #[.int .i64 sy, .int .i64 st, .slice A n c], .int .i64 q, .int .i64 b] w fun e w' => e = .returned (.bool true) ∧ Below w.heap.size w w' := by
  obtain ⟨W0, hW0⟩ : ∃ W, W = w.alloc (.cells #[.int .i64 sy, .int .i64 st, .slice A n c] 37) := ⟨_, rfl⟩
  have b0 : Blk W0 w.heap.size 37 #[.int .i64 sy, .int .i64 st, .slice A n c] := by rw [hW0]; exact Blk.new w _ _
  have z0 : Below w.heap.size w W0 := by rw [hW0]; exact (Below.refl _ _).alloc (Nat.le_refl _) _
  have HW0 := Lib.hid hW0
  clear hW0
  have u0 : W0.cell? ⟨w.heap.size, 0, none⟩ = some (.int .i64 sy) := b0.cell 0
  have u1 : W0.cell? ⟨w.heap.size, 1, none⟩ = some (.int .i64 st) := b0.cell 1
  have u2 : W0.cell? ⟨w.heap.size, 2, none⟩ = some (.slice A n c) := b0.cell 2
  go_enter Tryd.func4, Tryd.ntmps4
  go_wp2_with fail
  rw [← HW0.out]
  refine (szMachine_any _ _ _ _ _ _ _ hn (by omega) (by omega)).mono ?_
  rintro e W1 ⟨z, rfl, hz1, hz2, hz3, z1⟩
  have HZ3 := Lib.hid hz3
  clear hz3
  have b1 := b0.below' z1
  have y1 : Below w.heap.size w W1 := z0.trans (z1.mono z0.size)
  clear u0 u1 u2
  have u0 : W1.cell? ⟨w.heap.size, 0, none⟩ = some (.int .i64 sy) := b1.cell 0
  have u1 : W1.cell? ⟨w.heap.size, 1, none⟩ = some (.int .i64 st) := b1.cell 1
  have u2 : W1.cell? ⟨w.heap.size, 2, none⟩ = some (.slice A n c) := b1.cell 2
  by_cases hneg : z < 0
  · go_wp2_with fail
    go_ret
    exact ⟨rfl, y1⟩
  have hn' : n ≤ 1048576 := by have := HZ3.out (by omega); omega
  -- the reference
  go_wp2_with fail
  refine (toMachine_any _ _ _ _ _ rs _ (hr.below y1) hn').mono ?_
  rintro e W2 ⟨A2, rfl, o2, z2⟩
  have y2 : Below w.heap.size w W2 := y1.trans (z2.mono y1.size)
  clear u0 u1 u2
  go_wp2_with fail
  refine (neverEntersS_any _ _ _ _ _ rs _ _ _ o2.rd hn').mono ?_
  obtain ⟨res, hres⟩ : ∃ res, res = neverF sy st rs q b := ⟨_, rfl⟩
  rw [← hres]
  have HRES := Lib.hid hres
  clear hres
  rintro e W4 ⟨rfl, z4⟩
  have y4 : Below w.heap.size w W4 := y2.trans (z4.mono y2.size)
  have b4 := (b1.below' z2).below' z4
  have u0 : W4.cell? ⟨w.heap.size, 0, none⟩ = some (.int .i64 sy) := b4.cell 0
  have u1 : W4.cell? ⟨w.heap.size, 1, none⟩ = some (.int .i64 st) := b4.cell 1
  have u2 : W4.cell? ⟨w.heap.size, 2, none⟩ = some (.slice A n c) := b4.cell 2
  -- the copy
  go_wp2_with fail
  refine (toMachine_any _ _ _ _ _ rs _ (hr.below y4) hn').mono ?_
  rintro e W5 ⟨A5, rfl, o5, z5⟩
  clear u0 u1 u2
  obtain ⟨W6, hW6⟩ : ∃ W, W = W5.alloc (.cells #[.int .i64 sy, .int .i64 st, .slice A5 n n] 43) := ⟨_, rfl⟩
  have b6 : Blk W6 W5.heap.size 43 #[.int .i64 sy, .int .i64 st, .slice A5 n n] := by rw [hW6]; exact Blk.new W5 _ _
  have z6 : Below W5.heap.size W5 W6 := by rw [hW6]; exact (Below.refl _ _).alloc (Nat.le_refl _) _
  have HW6 := Lib.hid hW6
  clear hW6
  have y5 : Below w.heap.size w W5 := y4.trans (z5.mono y4.size)
  have y6 : Below w.heap.size w W6 := y5.trans (z6.mono y5.size)
  have u0 : W6.cell? ⟨W5.heap.size, 0, none⟩ = some (.int .i64 sy) := b6.cell 0
  have u1 : W6.cell? ⟨W5.heap.size, 1, none⟩ = some (.int .i64 st) := b6.cell 1
  have u2 : W6.cell? ⟨W5.heap.size, 2, none⟩ = some (.slice A5 n n) := b6.cell 2
  have o6 := o5.below z6
  -- the program
  go_wp2_with fail
  rw [← HW6.out]
  try go_wp2_with fail
  refine (neverEntersI_any _ _ _ _ _ rs _ _ _ o6.rd hn' (ht.below y6)).mono ?_
  rw [← HRES.out]
  rintro e W8 ⟨rfl, z8⟩
  have y8 : Below w.heap.size w W8 := y6.trans (z8.mono y6.size)
  have z48 : Below W4.heap.size W4 W8 := (z5.trans (z6.mono z5.size)).trans (z8.mono (by have := z5.size; have := z6.size; omega))
  clear u0 u1 u2
  have b8 := b6.below' z8
  have c8 := b4.below' z48
  have o8 := o6.below z8
  have u0 : W8.cell? ⟨W5.heap.size, 0, none⟩ = some (.int .i64 sy) := b8.cell 0
  have u1 : W8.cell? ⟨W5.heap.size, 1, none⟩ = some (.int .i64 st) := b8.cell 1
  have u2 : W8.cell? ⟨W5.heap.size, 2, none⟩ = some (.slice A5 n n) := b8.cell 2
  have v0 : W8.cell? ⟨w.heap.size, 0, none⟩ = some (.int .i64 sy) := c8.cell 0
  have v1 : W8.cell? ⟨w.heap.size, 1, none⟩ = some (.int .i64 st) := c8.cell 1
  have v2 : W8.cell? ⟨w.heap.size, 2, none⟩ = some (.slice A n c) := c8.cell 2
  obtain ⟨r0, r1⟩ := res
  dsimp only
  go_wp2_with fail
  go_region_held3 (fun w' => w'.cell? ⟨W5.heap.size, 0, none⟩ = some (.int .i64 sy) ∧ w'.cell? ⟨W5.heap.size, 1, none⟩ = some (.int .i64 st) ∧ w'.cell? ⟨W5.heap.size, 2, none⟩ = some (.slice A5 n n) ∧
      w'.cell? ⟨w.heap.size, 0, none⟩ = some (.int .i64 sy) ∧ w'.cell? ⟨w.heap.size, 1, none⟩ = some (.int .i64 st) ∧ w'.cell? ⟨w.heap.size, 2, none⟩ = some (.slice A n c))
    (first
      | (go_keep; done)
      | (exact ⟨(b8.below' z11).cell 0, (b8.below' z11).cell 1, (b8.below' z11).cell 2, (c8.below' z11).cell 0, (c8.below' z11).cell 1, (c8.below' z11).cell 2⟩)
      | (exact ⟨(b8.below' z10).cell 0, (b8.below' z10).cell 1, (b8.below' z10).cell 2, (c8.below' z10).cell 0, (c8.below' z10).cell 1, (c8.below' z10).cell 2⟩))
    (first
      | (go_at_call 21; refine (toMachine_any _ _ _ _ _ rs _ ((hr.below y8).drewN 1) hn').mono ?_; rintro e W10 ⟨A10, rfl, o10, z10'⟩; have z10 : Below W8.heap.size W8 W10 := below_undrew z10')
      | (go_at_call 23; refine (eqMachine_any _ _ _ _ _ rs _ _ _ _ _ rs _ (o8.below z10).rd o10.rd hn').mono ?_; rintro e W11 ⟨rfl, z11'⟩; have z11 : Below W8.heap.size W8 W11 := z10.trans (z11'.mono z10.size)))
  rw [sameMachineB_self]
  go_wp2_with fail
  go_ret
  exact ⟨rfl, y8.trans (z11.mono y8.size)⟩
end Go.Proofs.YtokglpdlhacnaaaDoor

/-
  For every input, FnExactNeverEnters returns true, and each argument reads afterwards as it read before. The three listed tables of the library hold what the program's text lays.
-/
namespace Go.Proofs.YtokglpdlhacnaaaDoor.lawNeverEntersRow
open Go.ChangeShapes Go.WideShapes Go.ChangeAt Go.RowKit Go.Joins Go.Proofs.YtokglpdlhacnaaaDoor

theorem own : ownKnob Tryd.prog.godebug = none := by kernel_rfl
theorem laidOut : laidOutB Tryd.prog = true := by kernel_rfl
theorem readable : ∀ t ∈ Tryd.f4.params.toList, Tryd.prog.readableRec t = true ∧ t < Tryd.prog.types.size := by
  have h : (Tryd.f4.params.toList.all fun t => Tryd.prog.readableRec t && decide (t < Tryd.prog.types.size)) = true := by kernel_rfl
  intro t ht
  have := List.all_eq_true.1 h t ht
  simpa using this

/-- The heap that the program's own start leaves meets the condition. -/
theorem door_met (os : Os) (args : Array Value) : laidMetH Tryd.prog Rows.fnExactNeverEntersRow.laid ((World.doorLaid Tryd.prog 400 os).forCall (fun _ _ => 0) ⟨#[], args, []⟩).memory :=
  laidMetH_of_parts3 (fuel := 8) (laidMet_of_run' 8 (by kernel_rfl) (by kernel_rfl)) (by kernel_rfl) (by kernel_rfl)
/-- What the condition gives the walk. -/
theorem tab_of {W : World} (h : laidMetH Tryd.prog Rows.fnExactNeverEntersRow.laid W) : Tab W := by
  rw [MakeChecks.laidMetH_plain _ _ _ (by kernel_rfl)] at h
  obtain ⟨ps, ⟨g0, t0, cs0, f0, p0, q0, _, _, _, _, ⟨g1, t1, cs1, f1, p1, q1, _, _, _, _, ⟨g2, t2, cs2, f2, p2, q2, hg2, ht2, hv2, hd2, _, _⟩, _⟩, _⟩, _, _⟩ := h
  have hg : Tryd.prog.globalNamed "internal/strconv.uint64pow10" = some 2 := by kernel_rfl
  have hty : (Tryd.prog.globals[2]?).map (·.type) = some 201 := by kernel_rfl
  obtain rfl := Option.some.inj (hg.symm.trans hg2)
  obtain rfl := Option.some.inj (hty.symm.trans ht2)
  unfold Tab Lib.TabIs
  rw [hv2]
  have hc := Lib.cells_of_tab (zs := Lib.pow10Tab) (k := .u64) Tryd.underlying201 Tryd.underlying152 (by kernel_rfl) (by kernel_rfl) hd2
  rw [← hc]

set_option maxRecDepth 100000 in
theorem lifted (os : Os) (started : os.Started) (H : Type) (enc : TypeId × Value → H) :
    ReturnsInHanded {} Tryd.checked os 4 .any (fun w args => (Rows.fnExactNeverEntersSpec.pre enc Tryd.prog Tryd.f4 [] false w args ∧ laidMetH Tryd.prog Rows.fnExactNeverEntersRow.laid w) ∧ sizedMet enc Tryd.prog Tryd.f4 (OpenSpec.ofChange Rows.fnExactNeverEntersSpec) false w args)
      (Rows.fnExactNeverEntersSpec.post enc Tryd.prog Tryd.f4 false true false false) := by
  refine returnsInHanded_of_change_and (C := Tryd.checked) (X := fun w _ => laidMetH Tryd.prog Rows.fnExactNeverEntersRow.laid w) (fun _ _ _ hh h => h.of_heap hh) own started (by kernel_rfl) Tryd.func4
    (ChangeSpec.witness_shaped (enc := enc) (C := Tryd.checked) (os := os) (X := fun w _ => laidMetH Tryd.prog Rows.fnExactNeverEntersRow.laid w) false (World.doorLaid Tryd.prog 400 os) #[.agg #[.int .i64 0, .int .i64 0, .slice none 0 0], .int .i64 0, .int .i64 0] 8 rfl (World.shaped_of_RefB (by kernel_rfl) (by kernel_rfl)) (by kernel_rfl) (by kernel_rfl) (by kernel_rfl) (door_met os _)) ?_
  intro W base args ds gs before hval0 hW _ _ hL _
  have hval : ∀ (j : Nat) t v, Tryd.f4.params[j]? = some t → args[j]? = some v → Value.okWide Tryd.prog W .any base t v := hval0
  have hW' := hW
  obtain ⟨p, q, hA0, hV, hbef, hfz, hnd⟩ := hW
  have hA : DataW.TrodAll enc Tryd.prog W 0 (fun _ => true) true Tryd.f4.params.toList args.toList ds p := hA0
  rw [Tryd.params4] at hA hval
  obtain ⟨v0, vs0, d0, ds0, p0, q0, hargs, rfl, rfl, h0, r0⟩ := trodAll_cons hA
  obtain ⟨v1, vs1, d1, ds1, p1, q1, rfl, rfl, rfl, h1, r1⟩ := trodAll_cons r0
  obtain ⟨v2, vs2, d2, ds2, p2, q2, rfl, rfl, rfl, h2, r2⟩ := trodAll_cons r1
  obtain ⟨rfl, rfl, rfl⟩ := trodAll_nil r2
  obtain rfl : args = #[v0, v1, v2] := by cases args; simp_all
  obtain ⟨rfl, rfl⟩ := trodVars_none hV
  obtain ⟨c00, c01, c02, y00, y01, y02, nn0, rfl, _, _, e00, e01, e02⟩ := open_agg3 Tryd.underlying37 (by kernel_rfl) (by kernel_rfl) (hval 0 37 v0 rfl rfl) h0
  obtain ⟨z00, ez, _, _⟩ := DataW.trod_int Tryd.underlying2 e00
  simp only [List.cons.injEq, and_true] at ez
  subst ez
  obtain ⟨z01, ez, _, _⟩ := DataW.trod_int Tryd.underlying2 e01
  simp only [List.cons.injEq, and_true] at ez
  subst ez
  obtain ⟨A02, n02, k02, x02, rfl, S02, l02, m02⟩ := s3_of_trod Tryd.underlying35 Tryd.underlying138 rfl rfl rfl rfl rfl rfl Tryd.underlying2 (by kernel_rfl) (by kernel_rfl) e02
  obtain ⟨b1, rfl⟩ := okWide_int Tryd.underlying2 (hval 1 2 v1 rfl rfl)
  obtain ⟨b2, rfl⟩ := okWide_int Tryd.underlying2 (hval 2 2 v2 rfl rfl)
  refine (lawNeverEnters z00 z01 A02 n02 k02 x02 b1 b2 W S02 (by omega) (tab_of hL)).mono fun e W' ⟨he, hb⟩ => ?_
  subst he
  exact ⟨_, rfl, law_post laidOut readable rfl (by kernel_rfl) Tryd.underlying4 rfl rfl rfl hW' hb⟩

theorem row_holds : Rows.FnExactNeverEntersSaid :=
  OpenClaim.holds_of_wide 4 Tryd.f4 rfl rfl rfl rfl rfl rfl rfl ⟨rfl, rfl, rfl, rfl, rfl⟩ rfl rfl rfl rfl rfl (by kernel_rfl) Tryd.func4 (by kernel_rfl)
    (of_decide_eq_true (by kernel_rfl)) (by unfold Func.isWrapper; first | (rw [if_pos (by decide +kernel)]; kernel_rfl) | (rw [if_neg (by decide +kernel)]; exact ⟨rfl, rfl⟩))
    (fun os started H enc _ => lifted os started H enc)
end Go.Proofs.YtokglpdlhacnaaaDoor.lawNeverEntersRow

/-
  The tied card of FnExactNeverEnters: for every input it returns true, and each argument reads afterwards as it read before; the three listed tables are tied to the program's text.
-/
namespace Go.Proofs.YtokglpdlhacnaaaDoor.cardNeverEnters
open Go Go.Proofs.YtokglpdlhacnaaaDoor

theorem proved : Rows.FnExactNeverEntersCardSaid :=
  Claim7.holds_tied_plain_at .later [] Rows.fnExactNeverEntersCard.laidKinds true Rows.fnExactNeverEntersCard.stood.harness true
    lawNeverEntersRow.row_holds (fun _ h => by cases h) (by kernel_rfl) (fun _ h => by cases h) fnExactNeverEnters_row_tie rfl ⟨rfl, rfl⟩ (by kernel_rfl) rfl
    (fun f fn hf hfn => by
      obtain rfl : f = 4 := Option.some.inj ((show Tryd.prog.funcNamed Rows.fnExactNeverEntersRow.func = some 4 by kernel_rfl).symm.trans hf) |>.symm
      obtain rfl : fn = Tryd.f4 := (Option.some.inj (Tryd.func4.symm.trans hfn)).symm
      exact ⟨by kernel_rfl, fun j t ht => by
        rw [Tryd.params4] at ht
        have hm : t ∈ [37, 2, 2] := by simpa using Array.mem_of_getElem? ht
        have hall : ([37, 2, 2].all fun u => !Tryd.prog.wantsStandIn u) = true := by kernel_rfl
        exact (show Tryd.prog.wantsStandIn t = false by simpa using List.all_eq_true.1 hall t hm)⟩)
    (by kernel_rfl)
end Go.Proofs.YtokglpdlhacnaaaDoor.cardNeverEnters
