/-
  The walk of the law FnExactStepFormula: it returns true, and nothing that was there before has turned.
-/
import Derived.Test.YtbpofkggoolmpaaPbFmAll5
import Derived.Test.YtbpofkggoolmpaaPbFmAll6
import Derived.Test.YtbpofkggoolmpaaPbFmAll8
import Derived.Test.YtbpofkggoolmpaaPbFmAll17
import Derived.Test.YtbpofkggoolmpaaPbFmAll20
import Derived.Test.YtbpofkggoolmpaaPkStepFormula0
namespace Go.Proofs.Ytbpofkggoolmpaa
open Go.RowKit

set_option maxRecDepth 100000 in
set_option maxHeartbeats 16000000 in
theorem lawStepFormula (sy0 st0 : Int) (A0 : Option Addr) (n0 k0 : Nat) (rs0 : List R3) (d1_0 : Int) (d1_1 : Int) (d1_2 : Int) (A1_0 : Option Addr) (n1_0 c1_0 : Nat) (x1_0 : List Sl) (A1_1 : Option Addr) (n1_1 c1_1 : Nat) (x1_1 : List Sl) (A1_2 : Option Addr) (n1_2 c1_2 : Nat) (x1_2 : List Int) (w : World) (hr0 : S3 w A0 n0 rs0) (h1_0 : SII w A1_0 n1_0 x1_0) (h1_1 : SII w A1_1 n1_1 x1_1) (h1_2 : SI w A1_2 n1_2 x1_2) (hb0 : n0 ≤ 9223372036854775807) (hb1_0 : n1_0 ≤ 9223372036854775807) (hb1_1 : n1_1 ≤ 9223372036854775807) (hb1_2 : n1_2 ≤ 9223372036854775807) (hbr1_0 : ∀ t ∈ x1_0, t.xs.length ≤ 9223372036854775807) (hbr1_1 : ∀ t ∈ x1_1, t.xs.length ≤ 9223372036854775807) :
    Calls Try.prog 3 #[.agg #[.int .i64 sy0, .int .i64 st0, .slice A0 n0 k0], .agg #[.int .i64 d1_0, .int .i64 d1_1, .int .i64 d1_2, .slice A1_0 n1_0 c1_0, .slice A1_1 n1_1 c1_1, .slice A1_2 n1_2 c1_2]] w fun e w' => e = .returned (.bool true) ∧ Below w.heap.size w w' := by
  obtain ⟨W0, hW0⟩ : ∃ W, W = (w.alloc (.cells #[.int .i64 sy0, .int .i64 st0, .slice A0 n0 k0] 24)).alloc (.cells #[.int .i64 d1_0, .int .i64 d1_1, .int .i64 d1_2, .slice A1_0 n1_0 c1_0, .slice A1_1 n1_1 c1_1, .slice A1_2 n1_2 c1_2] 28) := ⟨_, rfl⟩
  have s1 : (w.alloc (.cells #[.int .i64 sy0, .int .i64 st0, .slice A0 n0 k0] 24)).heap.size = w.heap.size + 1 := by simp
  have bb0 : Blk W0 w.heap.size 24 #[.int .i64 sy0, .int .i64 st0, .slice A0 n0 k0] := by rw [hW0]; exact (Blk.new w _ _).alloc _
  have bb1 : Blk W0 (w.heap.size + 1) 28 #[.int .i64 d1_0, .int .i64 d1_1, .int .i64 d1_2, .slice A1_0 n1_0 c1_0, .slice A1_1 n1_1 c1_1, .slice A1_2 n1_2 c1_2] := by rw [hW0, ← s1]; exact Blk.new _ _ _
  have z0 : Below w.heap.size w W0 := by rw [hW0]; exact ((Below.refl _ _).alloc (Nat.le_refl _) _).alloc (by simp) _
  have HW0 := Lib.hid hW0
  clear hW0 s1
  have HBR1_0 := Lib.hid hbr1_0
  clear hbr1_0
  have HBR1_1 := Lib.hid hbr1_1
  clear hbr1_1
  go_enter Try.func3, Try.ntmps3
  go_wp2_with fail
  rw [← HW0.out]
  refine (szMachine_any _ _ _ _ _ _ _ hb0 (by omega) (by omega)).mono ?_
  rintro e W1 ⟨v1, rfl, va1, vb1, vc1, z1⟩
  have VC1 := Lib.hid vc1
  clear vc1
  have yw_W1 : Below w.heap.size w W1 := z0.trans (z1.mono z0.size)
  have uc2 : W1.cell? ⟨(w.heap.size + 1), 0, none⟩ = some (.int .i64 d1_0) := (bb1.below' z1).cell 0
  have uc3 : W1.cell? ⟨(w.heap.size + 1), 1, none⟩ = some (.int .i64 d1_1) := (bb1.below' z1).cell 1
  have uc4 : W1.cell? ⟨(w.heap.size + 1), 2, none⟩ = some (.int .i64 d1_2) := (bb1.below' z1).cell 2
  have uc5 : W1.cell? ⟨(w.heap.size + 1), 3, none⟩ = some (.slice A1_0 n1_0 c1_0) := (bb1.below' z1).cell 3
  have uc6 : W1.cell? ⟨(w.heap.size + 1), 4, none⟩ = some (.slice A1_1 n1_1 c1_1) := (bb1.below' z1).cell 4
  have uc7 : W1.cell? ⟨(w.heap.size + 1), 5, none⟩ = some (.slice A1_2 n1_2 c1_2) := (bb1.below' z1).cell 5
  by_cases hneg1 : v1 < 0
  · go_wp2_with fail
    go_ret
    exact ⟨rfl, yw_W1⟩
  go_wp2_with fail
  refine (szFormula_any _ _ _ _ _ _ x1_0 _ _ _ x1_1 _ _ _ _ _ hb1_0 (h1_0.below yw_W1) HBR1_0.out hb1_1 (h1_1.below yw_W1) HBR1_1.out hb1_2 (by omega) (by omega)).mono ?_
  rintro e W8 ⟨v8, rfl, va8, vb8, vc8, z8⟩
  have VC8 := Lib.hid vc8
  clear vc8
  clear uc2 uc3 uc4 uc5 uc6 uc7
  have yw_W8 : Below w.heap.size w W8 := yw_W1.trans (z8.mono yw_W1.size)
  by_cases hneg8 : v8 < 0
  · go_wp2_with fail
    go_ret
    exact ⟨rfl, yw_W8⟩
  have hsm : n0 ≤ 1048576 ∧ n1_0 ≤ 1048576 ∧ n1_1 ≤ 1048576 ∧ n1_2 ≤ 1048576 ∧ total x1_0 ≤ 1048576 ∧ total x1_1 ≤ 1048576 := by
    have t1 := VC1.out (by omega)
    have t8 := VC8.out (by omega)
    omega
  obtain ⟨p0, p1_0, p1_1, p1_2, pt1_0, pt1_1⟩ := hsm
  have HR1_0 : Hid (∀ t ∈ x1_0, t.xs.length ≤ 1048576) := fun t ht => by have := row_total ht; omega
  clear HBR1_0
  have HR1_1 : Hid (∀ t ∈ x1_1, t.xs.length ≤ 1048576) := fun t ht => by have := row_total ht; omega
  clear HBR1_1
  clear VC1
  clear VC8
  obtain ⟨res, hres⟩ : ∃ res, res = stepFormF sy0 st0 rs0 ⟨d1_0, d1_1, d1_2, nums x1_0, nums x1_1, x1_2⟩ := ⟨_, rfl⟩
  have HRES := Lib.hid hres
  clear hres
  have yW0_W8 : Below W0.heap.size W0 W8 := z1.trans (z8.mono z1.size)
  have KEEPA : Hid (∀ cur, Below W8.heap.size W8 cur → cur.cell? ⟨w.heap.size, 0, none⟩ = some (.int .i64 sy0) ∧ cur.cell? ⟨w.heap.size, 1, none⟩ = some (.int .i64 st0) ∧ cur.cell? ⟨w.heap.size, 2, none⟩ = some (.slice A0 n0 k0) ∧ cur.cell? ⟨(w.heap.size + 1), 0, none⟩ = some (.int .i64 d1_0) ∧ cur.cell? ⟨(w.heap.size + 1), 1, none⟩ = some (.int .i64 d1_1) ∧ cur.cell? ⟨(w.heap.size + 1), 2, none⟩ = some (.int .i64 d1_2) ∧ cur.cell? ⟨(w.heap.size + 1), 3, none⟩ = some (.slice A1_0 n1_0 c1_0) ∧ cur.cell? ⟨(w.heap.size + 1), 4, none⟩ = some (.slice A1_1 n1_1 c1_1) ∧ cur.cell? ⟨(w.heap.size + 1), 5, none⟩ = some (.slice A1_2 n1_2 c1_2)) := Lib.hid (fun cur h =>
    ⟨((bb0.below' yW0_W8).below' h).cell 0, ((bb0.below' yW0_W8).below' h).cell 1, ((bb0.below' yW0_W8).below' h).cell 2, ((bb1.below' yW0_W8).below' h).cell 0, ((bb1.below' yW0_W8).below' h).cell 1, ((bb1.below' yW0_W8).below' h).cell 2, ((bb1.below' yW0_W8).below' h).cell 3, ((bb1.below' yW0_W8).below' h).cell 4, ((bb1.below' yW0_W8).below' h).cell 5⟩)
  have YBA := Lib.hid yw_W8
  go_upto_region 8 with fail
  go_cut [6, 7, 8] (fun s6 s7 s8 wx => FormBox3 W8.heap.size W8 s6 s7 s8 res wx)
  case first =>
    have hp : Below W8.heap.size W8 W8.drew := below_drewN (Below.refl _ _) 1
    refine wp_region_noPanic ?_
    refine wp_region_held_drew (S := (fun w' => w'.cell? ⟨w.heap.size, 0, none⟩ = some (.int .i64 sy0) ∧ w'.cell? ⟨w.heap.size, 1, none⟩ = some (.int .i64 st0) ∧ w'.cell? ⟨w.heap.size, 2, none⟩ = some (.slice A0 n0 k0) ∧ w'.cell? ⟨(w.heap.size + 1), 0, none⟩ = some (.int .i64 d1_0) ∧ w'.cell? ⟨(w.heap.size + 1), 1, none⟩ = some (.int .i64 d1_1) ∧ w'.cell? ⟨(w.heap.size + 1), 2, none⟩ = some (.int .i64 d1_2) ∧ w'.cell? ⟨(w.heap.size + 1), 3, none⟩ = some (.slice A1_0 n1_0 c1_0) ∧ w'.cell? ⟨(w.heap.size + 1), 4, none⟩ = some (.slice A1_1 n1_1 c1_1) ∧ w'.cell? ⟨(w.heap.size + 1), 5, none⟩ = some (.slice A1_2 n1_2 c1_2))) (by kernel_rfl) ?_ (fun hHeld => ?_)
    · exact KEEPA.out _ hp
    generalize W8.drew = Wc at *
    refine wpAnyH_take (i := 0) (v := ?_) rfl (by kernel_rfl) (by kernel_rfl) (by kernel_rfl) (fun _ _ _ h => h) (Or.inl ⟨by rfl, ?_⟩) (by assumption) ?_
    rotate_left
    · intro w hSw
      try dsimp only at hSw
      obtain ⟨hs0_, hs1_, hs2_, hs3_, hs4_, hs5_, hs6_, hs7_, hs8_⟩ := hSw
      go_simp
      try with_reducible rfl
    try simp only [Act.put, List.setIfInBounds_toArray]
    refine wpAnyH_take (i := 2) (v := ?_) rfl (by kernel_rfl) (by kernel_rfl) (by kernel_rfl) (fun _ _ _ h => h) (Or.inl ⟨by rfl, ?_⟩) (by assumption) ?_
    rotate_left
    · intro w hSw
      try dsimp only at hSw
      obtain ⟨hs0_, hs1_, hs2_, hs3_, hs4_, hs5_, hs6_, hs7_, hs8_⟩ := hSw
      go_simp
      try with_reducible rfl
    try simp only [Act.put]
    simp only [List.getElem_toArray, List.getElem_cons_zero, List.getElem_cons_succ, List.setIfInBounds_toArray, List.set_cons_zero, List.set_cons_succ]
    refine wpAnyH_batch (n := 8) (is := [1, 3, 4, 5, 6, 7, 8, 9]) [⟨1, [], (RCall (fun a_ e_ b_ => ToMachine a_ sy0 st0 n0 rs0 e_ b_)), false⟩, ⟨3, [], (RCall (fun a_ e_ b_ => ToFormula a_ d1_0 d1_1 d1_2 n1_0 (nums x1_0) n1_1 (nums x1_1) n1_2 x1_2 e_ b_)), false⟩, ⟨4, [1, 3], (RCall (fun a_ e_ b_ => NewFmI3 a_ res e_ b_)), false⟩, ⟨5, [4], (RKnown (fun vl => ∃ x, vl = [x, x])), true⟩, ⟨6, [5, 4], (RKnown (fun vl => ∃ x0_ x1_ x2_, vl = [x0_, .tuple #[x0_, x1_, x2_], .tuple #[x0_, x1_, x2_]])), true⟩, ⟨7, [5, 4], (RKnown (fun vl => ∃ x0_ x1_ x2_, vl = [x1_, .tuple #[x0_, x1_, x2_], .tuple #[x0_, x1_, x2_]])), true⟩, ⟨8, [5, 4], (RKnown (fun vl => ∃ x0_ x1_ x2_, vl = [x2_, .tuple #[x0_, x1_, x2_], .tuple #[x0_, x1_, x2_]])), true⟩, ⟨9, [], (RMade (fun g => .pointer (some ⟨g, 0, none⟩)) 31 #[.int .i64 0, .int .i64 0, .int .i64 0, .slice none 0 0, .slice none 0 0, .slice none 0 0]), false⟩] rfl rfl (by kernel_rfl) (by decide) (by kernel_rfl) (fun _ _ _ _ h => h) (fun w' hb => ?_) (BStay.all_cons (RCall.stay) <| BStay.all_cons (RCall.stay) <| BStay.all_cons (RCall.stay) <| BStay.all_cons (RKnown.stay) <| BStay.all_cons (RKnown.stay) <| BStay.all_cons (RKnown.stay) <| BStay.all_cons (RKnown.stay) <| BStay.all_cons (RMade.stay) <| BStay.all_nil) ?_ ?_
    · exact KEEPA.out _ (hp.trans (hb.mono hp.size))
    · refine BStep.all_cons (BStep.mk rfl (fun vs l h w1 hz hn hsp K hK => ?_)) ?_
      · simp only [putAll, List.map, Act.put, List.getElem_toArray, List.getElem_cons_zero, List.getElem_cons_succ, List.setIfInBounds_toArray, List.set_cons_zero, List.set_cons_succ] at hK ⊢
        clear hn hsp
        go_simp
        have yq := YBA.out.trans ((hp.trans (hz.mono hp.size)).mono YBA.out.size)
        refine (toMachine_any _ _ _ _ _ rs0 _ (hr0.below yq) p0).mono ?_
        rintro e W2 hT
        obtain ⟨B9, rfl, o9, z9⟩ := id hT
        exact hK _ _ z9 ⟨_, _, _, rfl, hT, rfl, Below.refl _ _⟩
      refine BStep.all_cons (BStep.mk rfl (fun vs l h w1 hz hn hsp K hK => ?_)) ?_
      · simp only [putAll, List.map, Act.put, List.getElem_toArray, List.getElem_cons_zero, List.getElem_cons_succ, List.setIfInBounds_toArray, List.set_cons_zero, List.set_cons_succ] at hK ⊢
        clear hn hsp
        go_simp
        have yq := YBA.out.trans ((hp.trans (hz.mono hp.size)).mono YBA.out.size)
        refine (toFormula_any _ _ _ _ _ _ x1_0 _ _ _ x1_1 _ _ _ x1_2 _ (h1_0.below yq) p1_0 HR1_0.out (h1_1.below yq) p1_1 HR1_1.out (h1_2.below yq) p1_2).mono ?_
        rintro e W2 hT
        obtain ⟨B10_0, us10_0, B10_1, us10_1, B10_2, rfl, o10_0, hn10_0, o10_1, hn10_1, o10_2, z10⟩ := id hT
        exact hK _ _ z10 ⟨_, _, _, rfl, hT, rfl, Below.refl _ _⟩
      refine BStep.all_cons (BStep.mk rfl (fun vs l h w1 hz hn hsp K hK => ?_)) ?_
      · simp only [putAll, List.map, dstAt, Act.put, List.getElem_toArray, List.getElem?_toArray, List.getElem_cons_zero, List.getElem_cons_succ, List.getElem?_cons_zero, List.getElem?_cons_succ, Option.bind_some, List.setIfInBounds_toArray, List.set_cons_zero, List.set_cons_succ] at hK ⊢
        simp only [List.forall_mem_cons, List.map] at hn
        obtain ⟨nn1, nn3, nn4, nn5, nn6, nn7, nn8, nn9, _⟩ := hn
        have q1 := (nn1 (by simp)).2.2.2
        have q3 := (nn3 (by simp)).2.2.2
        obtain ⟨wa9, wb9, v9, ee9, ⟨B9, hv9, o9, z9⟩, _, zb9⟩ := q1
        cases hv9
        simp only [List.head?_cons, Option.some.injEq] at ee9
        replace o9 := o9.below zb9
        obtain ⟨wa10, wb10, v10, ee10, ⟨B10_0, us10_0, B10_1, us10_1, B10_2, hv10, o10_0, hn10_0, o10_1, hn10_1, o10_2, z10⟩, _, zb10⟩ := q3
        cases hv10
        simp only [List.head?_cons, Option.some.injEq] at ee10
        have HN10_0 := Lib.hid hn10_0
        clear hn10_0
        have HN10_1 := Lib.hid hn10_1
        clear hn10_1
        replace o10_0 := o10_0.below zb10
        replace o10_1 := o10_1.below zb10
        replace o10_2 := o10_2.below zb10
        rw [ee9, ee10] at hK ⊢
        go_simp
        (with_reducible refine (stepFormulaS_any _ _ _ _ _ rs0 _ _ _ _ _ _ us10_0 _ _ _ us10_1 _ _ _ x1_2 _ o9.as3 o10_0.sii o10_1.sii o10_2.asI p0 p1_0 p1_1 p1_2 (rows_le HN10_0.out HR1_0.out) (rows_le HN10_1.out HR1_1.out)).mono ?_)
        rw [HN10_0.out, HN10_1.out, ← HRES.out]
        rintro e W2 hT
        obtain ⟨A11r, c11r, ts11r, B11r, d11r, us11r, C11r, k11r, rfl, oF11, z11⟩ := id hT
        exact hK _ _ z11 ⟨_, _, _, rfl, hT, rfl, Below.refl _ _⟩
      refine BStep.all_cons (BStep.pure rfl (fun vs l h w1 hz hn hsp => ?_)) ?_
      · simp only [putAll, List.map, dstAt, Act.put, List.getElem_toArray, List.getElem?_toArray, List.getElem_cons_zero, List.getElem_cons_succ, List.getElem?_cons_zero, List.getElem?_cons_succ, Option.bind_some, List.setIfInBounds_toArray, List.set_cons_zero, List.set_cons_succ]
        simp only [List.forall_mem_cons, List.map] at hn
        obtain ⟨nn1, nn3, nn4, nn5, nn6, nn7, nn8, nn9, _⟩ := hn
        have q4 := (nn4 (by simp)).2.2.2
        exact ⟨_, ⟨_, rfl⟩, fun _ _ => rfl⟩
      refine BStep.all_cons (BStep.pure rfl (fun vs l h w1 hz hn hsp => ?_)) ?_
      · simp only [putAll, List.map, dstAt, Act.put, List.getElem_toArray, List.getElem?_toArray, List.getElem_cons_zero, List.getElem_cons_succ, List.getElem?_cons_zero, List.getElem?_cons_succ, Option.bind_some, List.setIfInBounds_toArray, List.set_cons_zero, List.set_cons_succ]
        simp only [List.forall_mem_cons, List.map] at hn
        obtain ⟨nn1, nn3, nn4, nn5, nn6, nn7, nn8, nn9, _⟩ := hn
        have q5 := (nn5 (by simp)).2.2.2
        have q4 := (nn4 (by simp)).2.2.2
        obtain ⟨y_, ey_⟩ := q5
        simp only [List.cons.injEq, and_true] at ey_
        obtain ⟨ey1, ey2⟩ := ey_
        obtain ⟨wa, wb, v, ee, ⟨A12r, c12r, ts12r, B12r, d12r, us12r, C12r, k12r, hv, oF12, z12⟩, _, zb⟩ := q4
        cases hv
        simp only [List.head?_cons, Option.some.injEq] at ee
        rw [ey1, ← ey2, ee]
        exact ⟨_, ⟨_, _, _, rfl⟩, fun _ _ => rfl⟩
      refine BStep.all_cons (BStep.pure rfl (fun vs l h w1 hz hn hsp => ?_)) ?_
      · simp only [putAll, List.map, dstAt, Act.put, List.getElem_toArray, List.getElem?_toArray, List.getElem_cons_zero, List.getElem_cons_succ, List.getElem?_cons_zero, List.getElem?_cons_succ, Option.bind_some, List.setIfInBounds_toArray, List.set_cons_zero, List.set_cons_succ]
        simp only [List.forall_mem_cons, List.map] at hn
        obtain ⟨nn1, nn3, nn4, nn5, nn6, nn7, nn8, nn9, _⟩ := hn
        have q5 := (nn5 (by simp)).2.2.2
        have q4 := (nn4 (by simp)).2.2.2
        obtain ⟨y_, ey_⟩ := q5
        simp only [List.cons.injEq, and_true] at ey_
        obtain ⟨ey1, ey2⟩ := ey_
        obtain ⟨wa, wb, v, ee, ⟨A13r, c13r, ts13r, B13r, d13r, us13r, C13r, k13r, hv, oF13, z13⟩, _, zb⟩ := q4
        cases hv
        simp only [List.head?_cons, Option.some.injEq] at ee
        rw [ey1, ← ey2, ee]
        exact ⟨_, ⟨_, _, _, rfl⟩, fun _ _ => rfl⟩
      refine BStep.all_cons (BStep.pure rfl (fun vs l h w1 hz hn hsp => ?_)) ?_
      · simp only [putAll, List.map, dstAt, Act.put, List.getElem_toArray, List.getElem?_toArray, List.getElem_cons_zero, List.getElem_cons_succ, List.getElem?_cons_zero, List.getElem?_cons_succ, Option.bind_some, List.setIfInBounds_toArray, List.set_cons_zero, List.set_cons_succ]
        simp only [List.forall_mem_cons, List.map] at hn
        obtain ⟨nn1, nn3, nn4, nn5, nn6, nn7, nn8, nn9, _⟩ := hn
        have q5 := (nn5 (by simp)).2.2.2
        have q4 := (nn4 (by simp)).2.2.2
        obtain ⟨y_, ey_⟩ := q5
        simp only [List.cons.injEq, and_true] at ey_
        obtain ⟨ey1, ey2⟩ := ey_
        obtain ⟨wa, wb, v, ee, ⟨A14r, c14r, ts14r, B14r, d14r, us14r, C14r, k14r, hv, oF14, z14⟩, _, zb⟩ := q4
        cases hv
        simp only [List.head?_cons, Option.some.injEq] at ee
        rw [ey1, ← ey2, ee]
        exact ⟨_, ⟨_, _, _, rfl⟩, fun _ _ => rfl⟩
      refine BStep.all_cons (BStep.mk rfl (fun vs l h w1 hz hn hsp K hK => ?_)) ?_
      · simp only [putAll, List.map, Act.put, List.getElem_toArray, List.getElem_cons_zero, List.getElem_cons_succ, List.setIfInBounds_toArray, List.set_cons_zero, List.set_cons_succ] at hK ⊢
        clear hn hsp
        go_simp
        exact hK _ _ ((Below.refl _ _).alloc (Nat.le_refl _) _) ⟨_, rfl, Blk.new _ _ _, Nat.le_refl _, by simp⟩
      exact BStep.all_nil
    · intro vs l h w1 hz ht hsp
      simp only [Through, List.forall_mem_cons, List.map] at ht
      simp only [putAll, markAll, dstAt, Act.put, List.getElem?_toArray, List.getElem?_cons_zero, List.getElem?_cons_succ, Option.bind_some, List.setIfInBounds_toArray, List.set_cons_zero, List.set_cons_succ]
      obtain ⟨⟨_, _, _, _⟩, ⟨_, _, _, _⟩, ⟨hl_, hh_, hx_, wa, wb, v, em, ⟨A11r, c11r, ts11r, B11r, d11r, us11r, C11r, k11r, hv, oF11, zz_⟩, ew_, zb⟩, ⟨_, _, _, y_, ey_⟩, ⟨_, _, _, p0_0, p0_1, p0_2, ex0_⟩, ⟨_, _, _, p1_0, p1_1, p1_2, ex1_⟩, ⟨_, _, _, p2_0, p2_1, p2_2, ex2_⟩, ⟨ka_, _, ma_, gB, eB, hB, gB1, gB2⟩, _⟩ := ht
      cases hv
      simp only [List.head?_cons, Option.some.injEq, List.cons.injEq, and_true] at em eB ey_ ex0_ ex1_ ex2_
      obtain ⟨ey1, ey2⟩ := ey_
      obtain ⟨ea0, eb0, ec0⟩ := ex0_
      rw [em] at ec0
      cases ec0
      obtain ⟨ea1, eb1, ec1⟩ := ex1_
      rw [em] at ec1
      cases ec1
      obtain ⟨ea2, eb2, ec2⟩ := ex2_
      rw [em] at ec2
      cases ec2
      rw [ea0, ea1, ea2, eB]
      have hsz := hp.size
      have lB : W8.heap.size ≤ gB := by omega
      have hpz : Below W8.heap.size W8 w1 := hp.trans (hz.mono hp.size)
      replace oF11 := (oF11.below zb).mono (lo' := W8.heap.size) (by omega)
      try simp only [putAll, markAll, dstAt, Act.put, List.getElem_toArray, List.getElem?_toArray, List.getElem_cons_zero, List.getElem_cons_succ, List.getElem?_cons_zero, List.getElem?_cons_succ, Option.bind_some, List.setIfInBounds_toArray, List.set_cons_zero, List.set_cons_succ]
      refine wpAnyH_ready (rs := [10]) (by kernel_rfl) (by simp) ?_
      refine AllReadyH.cons rfl (fun K hK => ?_) ?_
      · have xx0 := hB.cell 0
        have xx1 := hB.cell 1
        have xx2 := hB.cell 2
        have xx3 := hB.cell 3
        have xx4 := hB.cell 4
        have xx5 := hB.cell 5
        have ff0 := hB.frozen 0
        have ff1 := hB.frozen 1
        have ff2 := hB.frozen 2
        have ff3 := hB.frozen 3
        have ff4 := hB.frozen 4
        have ff5 := hB.frozen 5
        go_simp
        have hpf := form_below hpz lB (.int .i64 res.1.q) (.int .i64 res.1.h) (.int .i64 res.1.a) (.slice A11r ts11r.length c11r) (.slice B11r us11r.length d11r) (.slice C11r res.1.O.length k11r)
        have hbf := form_set hB (.int .i64 res.1.q) (.int .i64 res.1.h) (.int .i64 res.1.a) (.slice A11r ts11r.length c11r) (.slice B11r us11r.length d11r) (.slice C11r res.1.O.length k11r)
        have oF11 := form_far2 hB oF11 (.int .i64 res.1.q) (.int .i64 res.1.h) (.int .i64 res.1.a) (.slice A11r ts11r.length c11r) (.slice B11r us11r.length d11r) (.slice C11r res.1.O.length k11r)
        refine hK.out _ _ ?_ (fun hHeld => ?_)
        · exact KEEPA.out _ hpf
        clear hK K
        try simp only [Act.put, List.setIfInBounds_toArray]
        try simp only [putAll, markAll, dstAt, Act.put, List.getElem_toArray, List.getElem?_toArray, List.getElem_cons_zero, List.getElem_cons_succ, List.getElem?_cons_zero, List.getElem?_cons_succ, Option.bind_some, List.setIfInBounds_toArray, List.set_cons_zero, List.set_cons_succ]
        refine wpAnyH_ready (rs := [11]) (by kernel_rfl) (by simp) ?_
        refine AllReadyH.cons rfl (fun K hK => ?_) ?_
        · go_simp
          refine hK.out _ _ ?_ (fun hHeld => ?_)
          · exact KEEPA.out _ hpf
          clear hK K
          try simp only [Act.put, List.setIfInBounds_toArray, List.set_cons_zero, List.set_cons_succ]
          try simp only [putAll, markAll, dstAt, Act.put, List.getElem_toArray, List.getElem?_toArray, List.getElem_cons_zero, List.getElem_cons_succ, List.getElem?_cons_zero, List.getElem?_cons_succ, Option.bind_some, List.setIfInBounds_toArray, List.set_cons_zero, List.set_cons_succ]
          refine wpAnyH_ready (rs := [12]) (by kernel_rfl) (by simp) ?_
          refine AllReadyH.cons rfl (fun K hK => ?_) ?_
          · go_simp
            refine hK.out _ _ ?_ (fun hHeld => ?_)
            · exact KEEPA.out _ hpf
            clear hK K
            try simp only [Act.put, List.setIfInBounds_toArray, List.set_cons_zero, List.set_cons_succ]
            refine wpAnyH_done (by kernel_rfl) ?_ _
            refine NoPanic.normal ?_
            go_wp2_with fail
            go_meet
            exact ⟨_, A11r, c11r, ts11r, B11r, d11r, us11r, C11r, k11r, rfl, rfl, rfl, lB, hbf, oF11, hpf⟩
          exact AllReadyH.nil
        exact AllReadyH.nil
      exact AllReadyH.nil
  case rest =>
    obtain ⟨g15, A15r, c15r, ts15r, B15r, d15r, us15r, C15r, k15r, rfl, rfl, rfl, hg15, bx15, oF15, z15⟩ := hcut
    clear KEEPA YBA
    obtain ⟨W15, hWc⟩ : ∃ W, W = wc := ⟨_, rfl⟩
    rw [← hWc] at oF15 z15 bx15
    rw [← hWc]
    clear hWc
    have hlen : FmLen res.1 := by rw [HRES.out]; exact stepFormF_len sy0 st0 rs0 ⟨d1_0, d1_1, d1_2, nums x1_0, nums x1_1, x1_2⟩
    have lx0 := hlen
    have LX0 := Lib.hid lx0
    clear lx0
    have yW0_W15 : Below W0.heap.size W0 W15 := yW0_W8.trans (z15.mono yW0_W8.size)
    have uc16 : W15.cell? ⟨w.heap.size, 0, none⟩ = some (.int .i64 sy0) := (bb0.below' yW0_W15).cell 0
    have uc17 : W15.cell? ⟨w.heap.size, 1, none⟩ = some (.int .i64 st0) := (bb0.below' yW0_W15).cell 1
    have uc18 : W15.cell? ⟨w.heap.size, 2, none⟩ = some (.slice A0 n0 k0) := (bb0.below' yW0_W15).cell 2
    go_wp2_with fail
    have yw_W15 : Below w.heap.size w W15 := yw_W8.trans (z15.mono yw_W8.size)
    refine (toMachine_any _ _ _ _ _ rs0 _ (hr0.below yw_W15) p0).mono ?_
    rintro e W19 ⟨B19, rfl, o19, z19⟩
    clear uc16 uc17 uc18
    obtain ⟨W20, hW20⟩ : ∃ W, W = W19.alloc (.cells #[.int .i64 sy0, .int .i64 st0, .slice B19 n0 n0] 36) := ⟨_, rfl⟩
    have cb0 : Blk W20 W19.heap.size 36 #[.int .i64 sy0, .int .i64 st0, .slice B19 n0 n0] := by rw [hW20]; exact Blk.new W19 _ _
    have z20 : Below W19.heap.size W19 W20 := by rw [hW20]; exact (Below.refl _ _).alloc (Nat.le_refl _) _
    have HW20 := Lib.hid hW20
    clear hW20
    have yW0_W19 : Below W0.heap.size W0 W19 := yW0_W15.trans (z19.mono yW0_W15.size)
    have yW0_W20 : Below W0.heap.size W0 W20 := yW0_W19.trans (z20.mono yW0_W19.size)
    have uc21 : W20.cell? ⟨(w.heap.size + 1), 0, none⟩ = some (.int .i64 d1_0) := (bb1.below' yW0_W20).cell 0
    have uc22 : W20.cell? ⟨(w.heap.size + 1), 1, none⟩ = some (.int .i64 d1_1) := (bb1.below' yW0_W20).cell 1
    have uc23 : W20.cell? ⟨(w.heap.size + 1), 2, none⟩ = some (.int .i64 d1_2) := (bb1.below' yW0_W20).cell 2
    have uc24 : W20.cell? ⟨(w.heap.size + 1), 3, none⟩ = some (.slice A1_0 n1_0 c1_0) := (bb1.below' yW0_W20).cell 3
    have uc25 : W20.cell? ⟨(w.heap.size + 1), 4, none⟩ = some (.slice A1_1 n1_1 c1_1) := (bb1.below' yW0_W20).cell 4
    have uc26 : W20.cell? ⟨(w.heap.size + 1), 5, none⟩ = some (.slice A1_2 n1_2 c1_2) := (bb1.below' yW0_W20).cell 5
    go_upto_region 10 with fail
    rw [← HW20.out]
    go_wp2_with fail
    have yw_W19 : Below w.heap.size w W19 := yw_W15.trans (z19.mono yw_W15.size)
    have yw_W20 : Below w.heap.size w W20 := yw_W19.trans (z20.mono yw_W19.size)
    refine (toFormula_any _ _ _ _ _ _ x1_0 _ _ _ x1_1 _ _ _ x1_2 _ (h1_0.below yw_W20) p1_0 HR1_0.out (h1_1.below yw_W20) p1_1 HR1_1.out (h1_2.below yw_W20) p1_2).mono ?_
    rintro e W27 ⟨B27_0, us27_0, B27_1, us27_1, B27_2, rfl, o27_0, hn27_0, o27_1, hn27_1, o27_2, z27⟩
    have HN27_0 := Lib.hid hn27_0; clear hn27_0; have HN27_1 := Lib.hid hn27_1; clear hn27_1
    clear uc21 uc22 uc23 uc24 uc25 uc26
    obtain ⟨W28, hW28⟩ : ∃ W, W = W27.alloc (.cells #[.int .i64 d1_0, .int .i64 d1_1, .int .i64 d1_2, .slice B27_0 n1_0 n1_0, .slice B27_1 n1_1 n1_1, .slice B27_2 n1_2 n1_2] 31) := ⟨_, rfl⟩
    have cb1 : Blk W28 W27.heap.size 31 #[.int .i64 d1_0, .int .i64 d1_1, .int .i64 d1_2, .slice B27_0 n1_0 n1_0, .slice B27_1 n1_1 n1_1, .slice B27_2 n1_2 n1_2] := by rw [hW28]; exact Blk.new W27 _ _
    have z28 : Below W27.heap.size W27 W28 := by rw [hW28]; exact (Below.refl _ _).alloc (Nat.le_refl _) _
    have HW28 := Lib.hid hW28
    clear hW28
    have yW20_W28 : Below W20.heap.size W20 W28 := z27.trans (z28.mono z27.size)
    have uc29 : W28.cell? ⟨W19.heap.size, 0, none⟩ = some (.int .i64 sy0) := (cb0.below' yW20_W28).cell 0
    have uc30 : W28.cell? ⟨W19.heap.size, 1, none⟩ = some (.int .i64 st0) := (cb0.below' yW20_W28).cell 1
    have uc31 : W28.cell? ⟨W19.heap.size, 2, none⟩ = some (.slice B19 n0 n0) := (cb0.below' yW20_W28).cell 2
    have uc32 : W28.cell? ⟨W27.heap.size, 0, none⟩ = some (.int .i64 d1_0) := cb1.cell 0
    have uc33 : W28.cell? ⟨W27.heap.size, 1, none⟩ = some (.int .i64 d1_1) := cb1.cell 1
    have uc34 : W28.cell? ⟨W27.heap.size, 2, none⟩ = some (.int .i64 d1_2) := cb1.cell 2
    have uc35 : W28.cell? ⟨W27.heap.size, 3, none⟩ = some (.slice B27_0 n1_0 n1_0) := cb1.cell 3
    have uc36 : W28.cell? ⟨W27.heap.size, 4, none⟩ = some (.slice B27_1 n1_1 n1_1) := cb1.cell 4
    have uc37 : W28.cell? ⟨W27.heap.size, 5, none⟩ = some (.slice B27_2 n1_2 n1_2) := cb1.cell 5
    go_upto_region 11 with fail
    rw [← HW28.out]
    go_wp2_with fail
    have yW19_W27 : Below W19.heap.size W19 W27 := z20.trans (z27.mono z20.size)
    have yW19_W28 : Below W19.heap.size W19 W28 := yW19_W27.trans (z28.mono yW19_W27.size)
    refine (stepFormulaI_any _ _ _ _ _ rs0 _ _ _ _ _ _ us27_0 _ _ _ us27_1 _ _ _ x1_2 _ (o19.below yW19_W28).as3 (o27_0.below z28).sii (o27_1.below z28).sii (o27_2.below z28).asI p0 p1_0 p1_1 p1_2 (rows_le HN27_0.out HR1_0.out) (rows_le HN27_1.out HR1_1.out)).mono ?_
    rw [HN27_0.out, HN27_1.out, ← HRES.out]
    rintro e W38 ⟨A38r, c38r, ts38r, B38r, d38r, us38r, C38r, k38r, rfl, oF38, z38⟩
    clear uc29 uc30 uc31 uc32 uc33 uc34 uc35 uc36 uc37
    obtain ⟨W39, hW39⟩ : ∃ W, W = W38.alloc (.cells #[.int .i64 res.1.q, .int .i64 res.1.h, .int .i64 res.1.a, .slice A38r ts38r.length c38r, .slice B38r us38r.length d38r, .slice C38r res.1.O.length k38r] 31) := ⟨_, rfl⟩
    have ib : Blk W39 W38.heap.size 31 #[.int .i64 res.1.q, .int .i64 res.1.h, .int .i64 res.1.a, .slice A38r ts38r.length c38r, .slice B38r us38r.length d38r, .slice C38r res.1.O.length k38r] := by rw [hW39]; exact Blk.new W38 _ _
    have z39 : Below W38.heap.size W38 W39 := by rw [hW39]; exact (Below.refl _ _).alloc (Nat.le_refl _) _
    have HW39 := Lib.hid hW39
    clear hW39
    go_upto_region 12 with fail
    rw [← HW39.out]
    have uc40 : W39.cell? ⟨W38.heap.size, 0, none⟩ = some (.int .i64 res.1.q) := ib.cell 0
    have uc41 : W39.cell? ⟨W38.heap.size, 1, none⟩ = some (.int .i64 res.1.h) := ib.cell 1
    have uc42 : W39.cell? ⟨W38.heap.size, 2, none⟩ = some (.int .i64 res.1.a) := ib.cell 2
    have uc43 : W39.cell? ⟨W38.heap.size, 3, none⟩ = some (.slice A38r ts38r.length c38r) := ib.cell 3
    have uc44 : W39.cell? ⟨W38.heap.size, 4, none⟩ = some (.slice B38r us38r.length d38r) := ib.cell 4
    have uc45 : W39.cell? ⟨W38.heap.size, 5, none⟩ = some (.slice C38r res.1.O.length k38r) := ib.cell 5
    have yW15_W20 : Below W15.heap.size W15 W20 := z19.trans (z20.mono z19.size)
    have yW15_W27 : Below W15.heap.size W15 W27 := yW15_W20.trans (z27.mono yW15_W20.size)
    have yW15_W28 : Below W15.heap.size W15 W28 := yW15_W27.trans (z28.mono yW15_W27.size)
    have yW15_W38 : Below W15.heap.size W15 W38 := yW15_W28.trans (z38.mono yW15_W28.size)
    have yW15_W39 : Below W15.heap.size W15 W39 := yW15_W38.trans (z39.mono yW15_W38.size)
    have uc46 : W39.cell? ⟨g15, 0, none⟩ = some (.int .i64 res.1.q) := (bx15.below' yW15_W39).cell 0
    have uc47 : W39.cell? ⟨g15, 1, none⟩ = some (.int .i64 res.1.h) := (bx15.below' yW15_W39).cell 1
    have uc48 : W39.cell? ⟨g15, 2, none⟩ = some (.int .i64 res.1.a) := (bx15.below' yW15_W39).cell 2
    have uc49 : W39.cell? ⟨g15, 3, none⟩ = some (.slice A15r ts15r.length c15r) := (bx15.below' yW15_W39).cell 3
    have uc50 : W39.cell? ⟨g15, 4, none⟩ = some (.slice B15r us15r.length d15r) := (bx15.below' yW15_W39).cell 4
    have uc51 : W39.cell? ⟨g15, 5, none⟩ = some (.slice C15r res.1.O.length k15r) := (bx15.below' yW15_W39).cell 5
    go_wp2_with fail
    refine (eqFormula_r (oF38.below z39) (oF15.below yW15_W39) LX0.out).mono ?_
    rintro e W52 ⟨rfl, z52⟩
    skip
    clear uc40 uc41 uc42 uc43 uc44 uc45 uc46 uc47 uc48 uc49 uc50 uc51
    have yW20_W38 : Below W20.heap.size W20 W38 := yW20_W28.trans (z38.mono yW20_W28.size)
    have yW20_W39 : Below W20.heap.size W20 W39 := yW20_W38.trans (z39.mono yW20_W38.size)
    have yW20_W52 : Below W20.heap.size W20 W52 := yW20_W39.trans (z52.mono yW20_W39.size)
    have uc53 : W52.cell? ⟨W19.heap.size, 0, none⟩ = some (.int .i64 sy0) := (cb0.below' yW20_W52).cell 0
    have uc54 : W52.cell? ⟨W19.heap.size, 1, none⟩ = some (.int .i64 st0) := (cb0.below' yW20_W52).cell 1
    have uc55 : W52.cell? ⟨W19.heap.size, 2, none⟩ = some (.slice B19 n0 n0) := (cb0.below' yW20_W52).cell 2
    have yW0_W27 : Below W0.heap.size W0 W27 := yW0_W20.trans (z27.mono yW0_W20.size)
    have yW0_W28 : Below W0.heap.size W0 W28 := yW0_W27.trans (z28.mono yW0_W27.size)
    have yW0_W38 : Below W0.heap.size W0 W38 := yW0_W28.trans (z38.mono yW0_W28.size)
    have yW0_W39 : Below W0.heap.size W0 W39 := yW0_W38.trans (z39.mono yW0_W38.size)
    have yW0_W52 : Below W0.heap.size W0 W52 := yW0_W39.trans (z52.mono yW0_W39.size)
    have uc56 : W52.cell? ⟨w.heap.size, 0, none⟩ = some (.int .i64 sy0) := (bb0.below' yW0_W52).cell 0
    have uc57 : W52.cell? ⟨w.heap.size, 1, none⟩ = some (.int .i64 st0) := (bb0.below' yW0_W52).cell 1
    have uc58 : W52.cell? ⟨w.heap.size, 2, none⟩ = some (.slice A0 n0 k0) := (bb0.below' yW0_W52).cell 2
    have yw_W27 : Below w.heap.size w W27 := yw_W20.trans (z27.mono yw_W20.size)
    have yw_W28 : Below w.heap.size w W28 := yw_W27.trans (z28.mono yw_W27.size)
    have yw_W38 : Below w.heap.size w W38 := yw_W28.trans (z38.mono yw_W28.size)
    have yw_W39 : Below w.heap.size w W39 := yw_W38.trans (z39.mono yw_W38.size)
    have yw_W52 : Below w.heap.size w W52 := yw_W39.trans (z52.mono yw_W39.size)
    have yW19_W38 : Below W19.heap.size W19 W38 := yW19_W28.trans (z38.mono yW19_W28.size)
    have yW19_W39 : Below W19.heap.size W19 W39 := yW19_W38.trans (z39.mono yW19_W38.size)
    have yW19_W52 : Below W19.heap.size W19 W52 := yW19_W39.trans (z52.mono yW19_W39.size)
    go_wp2_with fail
    go_region_held3 (fun w' => w'.cell? ⟨W19.heap.size, 0, none⟩ = some (.int .i64 sy0) ∧ w'.cell? ⟨W19.heap.size, 1, none⟩ = some (.int .i64 st0) ∧ w'.cell? ⟨W19.heap.size, 2, none⟩ = some (.slice B19 n0 n0) ∧ w'.cell? ⟨w.heap.size, 0, none⟩ = some (.int .i64 sy0) ∧ w'.cell? ⟨w.heap.size, 1, none⟩ = some (.int .i64 st0) ∧ w'.cell? ⟨w.heap.size, 2, none⟩ = some (.slice A0 n0 k0))
      (first
        | (go_keep; done)
        | (exact ⟨((cb0.below' yW20_W52).below' zz60).cell 0, ((cb0.below' yW20_W52).below' zz60).cell 1, ((cb0.below' yW20_W52).below' zz60).cell 2, ((bb0.below' yW0_W52).below' zz60).cell 0, ((bb0.below' yW0_W52).below' zz60).cell 1, ((bb0.below' yW0_W52).below' zz60).cell 2⟩)
        | (exact ⟨((cb0.below' yW20_W52).below' zz59).cell 0, ((cb0.below' yW20_W52).below' zz59).cell 1, ((cb0.below' yW20_W52).below' zz59).cell 2, ((bb0.below' yW0_W52).below' zz59).cell 0, ((bb0.below' yW0_W52).below' zz59).cell 1, ((bb0.below' yW0_W52).below' zz59).cell 2⟩))
      (first
        | (go_at_call 14; refine (toMachine_any _ _ _ _ _ rs0 _ ((hr0.below yw_W52).drewN 1) p0).mono ?_; rintro e W59 ⟨B59, rfl, o59, z59⟩; have zz59 : Below W52.heap.size W52 W59 := below_undrew z59)
        | (go_at_call 18; refine (eqMachine_any _ _ _ _ _ rs0 _ _ _ _ _ rs0 _ ((o19.below yW19_W52).below zz59).rd o59.rd p0).mono ?_; rintro e W60 ⟨rfl, z60⟩; have zz60 : Below W52.heap.size W52 W60 := zz59.trans (z60.mono zz59.size)))
    rw [sameMachineB_self]
    clear uc53 uc54 uc55 uc56 uc57 uc58
    clear o59 z59 zz59 z60
    have yW28_W39 : Below W28.heap.size W28 W39 := z38.trans (z39.mono z38.size)
    have yW28_W52 : Below W28.heap.size W28 W52 := yW28_W39.trans (z52.mono yW28_W39.size)
    have yW28_W60 : Below W28.heap.size W28 W60 := yW28_W52.trans (zz60.mono yW28_W52.size)
    have uc61 : W60.cell? ⟨W27.heap.size, 0, none⟩ = some (.int .i64 d1_0) := (cb1.below' yW28_W60).cell 0
    have uc62 : W60.cell? ⟨W27.heap.size, 1, none⟩ = some (.int .i64 d1_1) := (cb1.below' yW28_W60).cell 1
    have uc63 : W60.cell? ⟨W27.heap.size, 2, none⟩ = some (.int .i64 d1_2) := (cb1.below' yW28_W60).cell 2
    have uc64 : W60.cell? ⟨W27.heap.size, 3, none⟩ = some (.slice B27_0 n1_0 n1_0) := (cb1.below' yW28_W60).cell 3
    have uc65 : W60.cell? ⟨W27.heap.size, 4, none⟩ = some (.slice B27_1 n1_1 n1_1) := (cb1.below' yW28_W60).cell 4
    have uc66 : W60.cell? ⟨W27.heap.size, 5, none⟩ = some (.slice B27_2 n1_2 n1_2) := (cb1.below' yW28_W60).cell 5
    have yW0_W60 : Below W0.heap.size W0 W60 := yW0_W52.trans (zz60.mono yW0_W52.size)
    have uc67 : W60.cell? ⟨(w.heap.size + 1), 0, none⟩ = some (.int .i64 d1_0) := (bb1.below' yW0_W60).cell 0
    have uc68 : W60.cell? ⟨(w.heap.size + 1), 1, none⟩ = some (.int .i64 d1_1) := (bb1.below' yW0_W60).cell 1
    have uc69 : W60.cell? ⟨(w.heap.size + 1), 2, none⟩ = some (.int .i64 d1_2) := (bb1.below' yW0_W60).cell 2
    have uc70 : W60.cell? ⟨(w.heap.size + 1), 3, none⟩ = some (.slice A1_0 n1_0 c1_0) := (bb1.below' yW0_W60).cell 3
    have uc71 : W60.cell? ⟨(w.heap.size + 1), 4, none⟩ = some (.slice A1_1 n1_1 c1_1) := (bb1.below' yW0_W60).cell 4
    have uc72 : W60.cell? ⟨(w.heap.size + 1), 5, none⟩ = some (.slice A1_2 n1_2 c1_2) := (bb1.below' yW0_W60).cell 5
    have yw_W60 : Below w.heap.size w W60 := yw_W52.trans (zz60.mono yw_W52.size)
    have yW27_W38 : Below W27.heap.size W27 W38 := z28.trans (z38.mono z28.size)
    have yW27_W39 : Below W27.heap.size W27 W39 := yW27_W38.trans (z39.mono yW27_W38.size)
    have yW27_W52 : Below W27.heap.size W27 W52 := yW27_W39.trans (z52.mono yW27_W39.size)
    have yW27_W60 : Below W27.heap.size W27 W60 := yW27_W52.trans (zz60.mono yW27_W52.size)
    go_wp2_with fail
    go_region_held3 (fun w' => w'.cell? ⟨W27.heap.size, 0, none⟩ = some (.int .i64 d1_0) ∧ w'.cell? ⟨W27.heap.size, 1, none⟩ = some (.int .i64 d1_1) ∧ w'.cell? ⟨W27.heap.size, 2, none⟩ = some (.int .i64 d1_2) ∧ w'.cell? ⟨W27.heap.size, 3, none⟩ = some (.slice B27_0 n1_0 n1_0) ∧ w'.cell? ⟨W27.heap.size, 4, none⟩ = some (.slice B27_1 n1_1 n1_1) ∧ w'.cell? ⟨W27.heap.size, 5, none⟩ = some (.slice B27_2 n1_2 n1_2) ∧ w'.cell? ⟨(w.heap.size + 1), 0, none⟩ = some (.int .i64 d1_0) ∧ w'.cell? ⟨(w.heap.size + 1), 1, none⟩ = some (.int .i64 d1_1) ∧ w'.cell? ⟨(w.heap.size + 1), 2, none⟩ = some (.int .i64 d1_2) ∧ w'.cell? ⟨(w.heap.size + 1), 3, none⟩ = some (.slice A1_0 n1_0 c1_0) ∧ w'.cell? ⟨(w.heap.size + 1), 4, none⟩ = some (.slice A1_1 n1_1 c1_1) ∧ w'.cell? ⟨(w.heap.size + 1), 5, none⟩ = some (.slice A1_2 n1_2 c1_2))
      (first
        | (go_keep; done)
        | (exact ⟨((cb1.below' yW28_W60).below' zz74).cell 0, ((cb1.below' yW28_W60).below' zz74).cell 1, ((cb1.below' yW28_W60).below' zz74).cell 2, ((cb1.below' yW28_W60).below' zz74).cell 3, ((cb1.below' yW28_W60).below' zz74).cell 4, ((cb1.below' yW28_W60).below' zz74).cell 5, ((bb1.below' yW0_W60).below' zz74).cell 0, ((bb1.below' yW0_W60).below' zz74).cell 1, ((bb1.below' yW0_W60).below' zz74).cell 2, ((bb1.below' yW0_W60).below' zz74).cell 3, ((bb1.below' yW0_W60).below' zz74).cell 4, ((bb1.below' yW0_W60).below' zz74).cell 5⟩)
        | (exact ⟨((cb1.below' yW28_W60).below' zz73).cell 0, ((cb1.below' yW28_W60).below' zz73).cell 1, ((cb1.below' yW28_W60).below' zz73).cell 2, ((cb1.below' yW28_W60).below' zz73).cell 3, ((cb1.below' yW28_W60).below' zz73).cell 4, ((cb1.below' yW28_W60).below' zz73).cell 5, ((bb1.below' yW0_W60).below' zz73).cell 0, ((bb1.below' yW0_W60).below' zz73).cell 1, ((bb1.below' yW0_W60).below' zz73).cell 2, ((bb1.below' yW0_W60).below' zz73).cell 3, ((bb1.below' yW0_W60).below' zz73).cell 4, ((bb1.below' yW0_W60).below' zz73).cell 5⟩))
      (first
        | (go_at_call 15; refine (toFormula_any _ _ _ _ _ _ x1_0 _ _ _ x1_1 _ _ _ x1_2 _ ((h1_0.below yw_W60).drewN 1) p1_0 HR1_0.out ((h1_1.below yw_W60).drewN 1) p1_1 HR1_1.out ((h1_2.below yw_W60).drewN 1) p1_2).mono ?_; rintro e W73 ⟨B73_0, us73_0, B73_1, us73_1, B73_2, rfl, o73_0, hn73_0, o73_1, hn73_1, o73_2, z73⟩; have zz73 : Below W60.heap.size W60 W73 := below_undrew z73; have HN73_0 := Lib.hid hn73_0; clear hn73_0; have HN73_1 := Lib.hid hn73_1; clear hn73_1)
        | (go_at_call 17; refine (eqFormula_any _ _ _ _ _ _ us27_0 _ _ _ us27_1 _ _ _ x1_2 _ _ _ _ _ _ us73_0 _ _ _ us73_1 _ _ _ x1_2 _ ((o27_0.below yW27_W60).below zz73).sii o73_0.sii p1_0 (rows_le HN27_0.out HR1_0.out) ((o27_1.below yW27_W60).below zz73).sii o73_1.sii p1_1 (rows_le HN27_1.out HR1_1.out) ((o27_2.below yW27_W60).below zz73).asI o73_2.asI p1_2).mono ?_; rintro e W74 ⟨rfl, z74⟩; have zz74 : Below W60.heap.size W60 W74 := zz73.trans (z74.mono zz73.size)))
    rw [HN27_0.out, HN73_0.out, HN27_1.out, HN73_1.out, sameFormulaB_self]
    clear uc61 uc62 uc63 uc64 uc65 uc66 uc67 uc68 uc69 uc70 uc71 uc72
    clear o73_0 o73_1 o73_2 z73 zz73 z74
    have TM0 : Hid (229 ∈ [229, 2]) := Lib.hid (by decide)
    have TI0 : Hid (2 ∈ [229, 2]) := Lib.hid (by decide)
    have TN_Machine : Hid (36 ∉ [229, 2]) := Lib.hid (by decide)
    have TL_Machine : Hid (24 ∉ [229, 2]) := Lib.hid (by decide)
    have TN_SS : Hid (26 ∉ [229, 2]) := Lib.hid (by decide)
    have TN_Formula : Hid (31 ∉ [229, 2]) := Lib.hid (by decide)
    have TL_Formula : Hid (28 ∉ [229, 2]) := Lib.hid (by decide)
    have hs_W1 : W0.heap.size ≤ W1.heap.size := z1.size
    have hs_W8 : W1.heap.size ≤ W8.heap.size := z8.size
    have hs_W15 : W8.heap.size ≤ W15.heap.size := z15.size
    have hs_W19 : W15.heap.size ≤ W19.heap.size := z19.size
    have hs_W20 : W19.heap.size ≤ W20.heap.size := z20.size
    have hs_W27 : W20.heap.size ≤ W27.heap.size := z27.size
    have hs_W28 : W27.heap.size ≤ W28.heap.size := z28.size
    have hs_W38 : W28.heap.size ≤ W38.heap.size := z38.size
    have hs_W39 : W38.heap.size ≤ W39.heap.size := z39.size
    have hs_W52 : W39.heap.size ≤ W52.heap.size := z52.size
    have hs_W60 : W52.heap.size ≤ W60.heap.size := zz60.size
    have hs_W74 : W60.heap.size ≤ W74.heap.size := zz74.size
    have yW19_W60 : Below W19.heap.size W19 W60 := yW19_W52.trans (zz60.mono yW19_W52.size)
    have yW19_W74 : Below W19.heap.size W19 W74 := yW19_W60.trans (zz74.mono yW19_W60.size)
    have m0 : Mk W74 W15.heap.size W28.heap.size 229 3 B19 n0 := (((o19.below yW19_W74)).mono (by omega)).mk (fun b hb => by have := o19.blk_lt b hb; omega)
    have yW27_W74 : Below W27.heap.size W27 W74 := yW27_W60.trans (zz74.mono yW27_W60.size)
    have m1_0 : MkII W74 W15.heap.size W28.heap.size 26 2 B27_0 n1_0 n1_0 us27_0 := by
      have h1 := (o27_0.below yW27_W74)
      exact ⟨h1.1.mono (by omega), fun t ht => ((h1.2.1 t ht).mono (by omega)).mk (fun b hb => by have := (o27_0.2.1 t ht).blk_lt b hb; omega)⟩
    have pu1_0 : total us27_0 ≤ 1048576 := by rw [total_same HN27_0.out]; exact pt1_0
    have m1_1 : MkII W74 W15.heap.size W28.heap.size 26 2 B27_1 n1_1 n1_1 us27_1 := by
      have h1 := (o27_1.below yW27_W74)
      exact ⟨h1.1.mono (by omega), fun t ht => ((h1.2.1 t ht).mono (by omega)).mk (fun b hb => by have := (o27_1.2.1 t ht).blk_lt b hb; omega)⟩
    have pu1_1 : total us27_1 ≤ 1048576 := by rw [total_same HN27_1.out]; exact pt1_1
    have m1_2 : Mk W74 W15.heap.size W28.heap.size 2 1 B27_2 n1_2 := (((o27_2.below yW27_W74)).mono (by omega)).mk (fun b hb => by have := o27_2.blk_lt b hb; omega)
    have yW0_W74 : Below W0.heap.size W0 W74 := yW0_W60.trans (zz74.mono yW0_W60.size)
    have yW20_W60 : Below W20.heap.size W20 W60 := yW20_W52.trans (zz60.mono yW20_W52.size)
    have yW20_W74 : Below W20.heap.size W20 W74 := yW20_W60.trans (zz74.mono yW20_W60.size)
    have yW28_W74 : Below W28.heap.size W28 W74 := yW28_W60.trans (zz74.mono yW28_W60.size)
    have yw_W74 : Below w.heap.size w W74 := yw_W60.trans (zz74.mono yw_W60.size)
    have yW38_W52 : Below W38.heap.size W38 W52 := z39.trans (z52.mono z39.size)
    have yW38_W60 : Below W38.heap.size W38 W60 := yW38_W52.trans (zz60.mono yW38_W52.size)
    have yW38_W74 : Below W38.heap.size W38 W74 := yW38_W60.trans (zz74.mono yW38_W60.size)
    have yW15_W52 : Below W15.heap.size W15 W52 := yW15_W39.trans (z52.mono yW15_W39.size)
    have yW15_W60 : Below W15.heap.size W15 W60 := yW15_W52.trans (zz60.mono yW15_W52.size)
    have yW15_W74 : Below W15.heap.size W15 W74 := yW15_W60.trans (zz74.mono yW15_W60.size)
    have io0 := (oF38.below yW38_W74)
    have so0 := (oF15.below yW15_W74)
    have yW39_W60 : Below W39.heap.size W39 W60 := z52.trans (zz60.mono z52.size)
    have yW39_W74 : Below W39.heap.size W39 W74 := yW39_W60.trans (zz74.mono yW39_W60.size)
    have ibm := (ib.below' yW39_W74)
    have sbm := (bx15.below' yW15_W74)
    have bm0 := (bb0.below' yW0_W74)
    have cm0 := (cb0.below' yW20_W74)
    have bm1 := (bb1.below' yW0_W74)
    have cm1 := (cb1.below' yW28_W74)
    have cq0 := cm0
    have uc75 : W74.cell? ⟨W19.heap.size, 0, none⟩ = some (.int .i64 sy0) := cq0.cell 0
    have uc76 : W74.cell? ⟨W19.heap.size, 1, none⟩ = some (.int .i64 st0) := cq0.cell 1
    have uc77 : W74.cell? ⟨W19.heap.size, 2, none⟩ = some (.slice B19 n0 n0) := cq0.cell 2
    go_wp2_with fail
    refine (markMachine_m [229, 2] _ _ _ _ _ _ _ W15.heap.size W28.heap.size m0 p0 TM0.out TN_Machine.out (by omega) (by omega)).mono ?_
    rintro e W78 ⟨rfl, f78⟩
    clear uc75 uc76 uc77
    have cq1 := cm1.mkf f78 TN_Formula.out
    have uc79 : W78.cell? ⟨W27.heap.size, 0, none⟩ = some (.int .i64 d1_0) := cq1.cell 0
    have uc80 : W78.cell? ⟨W27.heap.size, 1, none⟩ = some (.int .i64 d1_1) := cq1.cell 1
    have uc81 : W78.cell? ⟨W27.heap.size, 2, none⟩ = some (.int .i64 d1_2) := cq1.cell 2
    have uc82 : W78.cell? ⟨W27.heap.size, 3, none⟩ = some (.slice B27_0 n1_0 n1_0) := cq1.cell 3
    have uc83 : W78.cell? ⟨W27.heap.size, 4, none⟩ = some (.slice B27_1 n1_1 n1_1) := cq1.cell 4
    have uc84 : W78.cell? ⟨W27.heap.size, 5, none⟩ = some (.slice B27_2 n1_2 n1_2) := cq1.cell 5
    go_wp2_with fail
    refine (markFormula_m [229, 2] _ _ _ _ _ _ us27_0 _ _ _ us27_1 _ _ _ _ _ W15.heap.size W28.heap.size (m1_0.mkf f78 TN_SS.out) p1_0 pu1_0 (m1_1.mkf f78 TN_SS.out) p1_1 pu1_1 (m1_2.mkf f78) p1_2 TI0.out TN_SS.out TN_Formula.out (by omega) (by omega)).mono ?_
    rintro e W85 ⟨rfl, f85⟩
    clear uc79 uc80 uc81 uc82 uc83 uc84
    have ff85 := f78.trans f85
    have io0 := io0.mkf_far ff85 (fun b hb => .inr hb)
    have so0 := FmR.mkf_below oF15 (Nat.le_refl _) so0 ff85
    have ibm := ibm.mkf ff85 TN_Formula.out
    have sbm := sbm.mkf ff85 TN_Formula.out
    have bm0 := bm0.mkf ff85 TL_Machine.out
    have bm1 := bm1.mkf ff85 TL_Formula.out
    have yM : Below w.heap.size w W85 := yw_W74.trans (ff85.below yw_W15.size yw_W74.size)
    have hs_W85 : W74.heap.size ≤ W85.heap.size := ff85.size
    clear ff85
    have uc86 : W85.cell? ⟨W38.heap.size, 0, none⟩ = some (.int .i64 res.1.q) := ibm.cell 0
    have uc87 : W85.cell? ⟨W38.heap.size, 1, none⟩ = some (.int .i64 res.1.h) := ibm.cell 1
    have uc88 : W85.cell? ⟨W38.heap.size, 2, none⟩ = some (.int .i64 res.1.a) := ibm.cell 2
    have uc89 : W85.cell? ⟨W38.heap.size, 3, none⟩ = some (.slice A38r ts38r.length c38r) := ibm.cell 3
    have uc90 : W85.cell? ⟨W38.heap.size, 4, none⟩ = some (.slice B38r us38r.length d38r) := ibm.cell 4
    have uc91 : W85.cell? ⟨W38.heap.size, 5, none⟩ = some (.slice C38r res.1.O.length k38r) := ibm.cell 5
    have uc92 : W85.cell? ⟨g15, 0, none⟩ = some (.int .i64 res.1.q) := sbm.cell 0
    have uc93 : W85.cell? ⟨g15, 1, none⟩ = some (.int .i64 res.1.h) := sbm.cell 1
    have uc94 : W85.cell? ⟨g15, 2, none⟩ = some (.int .i64 res.1.a) := sbm.cell 2
    have uc95 : W85.cell? ⟨g15, 3, none⟩ = some (.slice A15r ts15r.length c15r) := sbm.cell 3
    have uc96 : W85.cell? ⟨g15, 4, none⟩ = some (.slice B15r us15r.length d15r) := sbm.cell 4
    have uc97 : W85.cell? ⟨g15, 5, none⟩ = some (.slice C15r res.1.O.length k15r) := sbm.cell 5
    have gneg : ¬ ((1 : Int) + ((n0 * 3 : Nat) : Int) + ((total us27_0 + total us27_1 + n1_2 : Nat) : Int) < 0) := by omega
    go_wp2_with fail
    refine (eqFormula_r io0 so0 LX0.out).mono ?_
    rintro e W98 ⟨rfl, z98⟩
    skip
    clear uc86 uc87 uc88 uc89 uc90 uc91 uc92 uc93 uc94 uc95 uc96 uc97
    clear gneg
    have hs_W98 : W85.heap.size ≤ W98.heap.size := z98.size
    have uc99 : W98.cell? ⟨W38.heap.size, 0, none⟩ = some (.int .i64 res.1.q) := (ibm.below' z98).cell 0
    have uc100 : W98.cell? ⟨W38.heap.size, 1, none⟩ = some (.int .i64 res.1.h) := (ibm.below' z98).cell 1
    have uc101 : W98.cell? ⟨W38.heap.size, 2, none⟩ = some (.int .i64 res.1.a) := (ibm.below' z98).cell 2
    have uc102 : W98.cell? ⟨W38.heap.size, 3, none⟩ = some (.slice A38r ts38r.length c38r) := (ibm.below' z98).cell 3
    have uc103 : W98.cell? ⟨W38.heap.size, 4, none⟩ = some (.slice B38r us38r.length d38r) := (ibm.below' z98).cell 4
    have uc104 : W98.cell? ⟨W38.heap.size, 5, none⟩ = some (.slice C38r res.1.O.length k38r) := (ibm.below' z98).cell 5
    go_wp2_with fail
    refine (markFormula_r (hi := W38.heap.size) (io0.below z98) LX0.out (fun b hb => (oF38.blk_ge b hb).2) (by omega)).mono ?_
    rintro e W105 ⟨rfl, eF, t105⟩
    clear uc99 uc100 uc101 uc102 uc103 uc104
    have so0 := FmR.touch_below oF15 (by omega) (so0.below z98) t105
    have bm0 := (bm0.below' z98).touch t105 (.inl (by have := bb0.lt; omega))
    have bm1 := (bm1.below' z98).touch t105 (.inl (by have := bb1.lt; omega))
    have ibm := (ibm.below' z98).touch t105 (.inr (Nat.le_refl _))
    have sbm := (sbm.below' z98).touch t105 (.inl (by have := bx15.lt; omega))
    have yw_W98 : Below w.heap.size w W98 := yM.trans (z98.mono yM.size)
    have hlow : w.heap.size ≤ W28.heap.size := by have := yw_W15.size; omega
    have yN : Below w.heap.size w W105 := yw_W98.trans (t105.below hlow yw_W98.size)
    have hs_W105 : W98.heap.size ≤ W105.heap.size := t105.size
    clear t105
    have uc106 : W105.cell? ⟨W38.heap.size, 0, none⟩ = some (.int .i64 res.1.q) := ibm.cell 0
    have uc107 : W105.cell? ⟨W38.heap.size, 1, none⟩ = some (.int .i64 res.1.h) := ibm.cell 1
    have uc108 : W105.cell? ⟨W38.heap.size, 2, none⟩ = some (.int .i64 res.1.a) := ibm.cell 2
    have uc109 : W105.cell? ⟨W38.heap.size, 3, none⟩ = some (.slice A38r ts38r.length c38r) := ibm.cell 3
    have uc110 : W105.cell? ⟨W38.heap.size, 4, none⟩ = some (.slice B38r us38r.length d38r) := ibm.cell 4
    have uc111 : W105.cell? ⟨W38.heap.size, 5, none⟩ = some (.slice C38r res.1.O.length k38r) := ibm.cell 5
    go_wp2_with fail
    refine (heldFormula_r eF).mono ?_
    rintro e W112 ⟨rfl, z112⟩
    clear uc106 uc107 uc108 uc109 uc110 uc111
    have gneg : ¬ ((1 : Int) + (fmTot res.1 : Int) < 0) := by omega
    have uc113 : W112.cell? ⟨w.heap.size, 0, none⟩ = some (.int .i64 sy0) := (bm0.below' z112).cell 0
    have uc114 : W112.cell? ⟨w.heap.size, 1, none⟩ = some (.int .i64 st0) := (bm0.below' z112).cell 1
    have uc115 : W112.cell? ⟨w.heap.size, 2, none⟩ = some (.slice A0 n0 k0) := (bm0.below' z112).cell 2
    have uc116 : W112.cell? ⟨(w.heap.size + 1), 0, none⟩ = some (.int .i64 d1_0) := (bm1.below' z112).cell 0
    have uc117 : W112.cell? ⟨(w.heap.size + 1), 1, none⟩ = some (.int .i64 d1_1) := (bm1.below' z112).cell 1
    have uc118 : W112.cell? ⟨(w.heap.size + 1), 2, none⟩ = some (.int .i64 d1_2) := (bm1.below' z112).cell 2
    have uc119 : W112.cell? ⟨(w.heap.size + 1), 3, none⟩ = some (.slice A1_0 n1_0 c1_0) := (bm1.below' z112).cell 3
    have uc120 : W112.cell? ⟨(w.heap.size + 1), 4, none⟩ = some (.slice A1_1 n1_1 c1_1) := (bm1.below' z112).cell 4
    have uc121 : W112.cell? ⟨(w.heap.size + 1), 5, none⟩ = some (.slice A1_2 n1_2 c1_2) := (bm1.below' z112).cell 5
    clear uc113 uc114 uc115 uc116 uc117 uc118 uc119 uc120 uc121
    have yw_W112 : Below w.heap.size w W112 := yN.trans (z112.mono yN.size)
    have KEEPB : Hid (∀ cur, Below W112.heap.size W112 cur → cur.cell? ⟨w.heap.size, 0, none⟩ = some (.int .i64 sy0) ∧ cur.cell? ⟨w.heap.size, 1, none⟩ = some (.int .i64 st0) ∧ cur.cell? ⟨w.heap.size, 2, none⟩ = some (.slice A0 n0 k0) ∧ cur.cell? ⟨(w.heap.size + 1), 0, none⟩ = some (.int .i64 d1_0) ∧ cur.cell? ⟨(w.heap.size + 1), 1, none⟩ = some (.int .i64 d1_1) ∧ cur.cell? ⟨(w.heap.size + 1), 2, none⟩ = some (.int .i64 d1_2) ∧ cur.cell? ⟨(w.heap.size + 1), 3, none⟩ = some (.slice A1_0 n1_0 c1_0) ∧ cur.cell? ⟨(w.heap.size + 1), 4, none⟩ = some (.slice A1_1 n1_1 c1_1) ∧ cur.cell? ⟨(w.heap.size + 1), 5, none⟩ = some (.slice A1_2 n1_2 c1_2)) := Lib.hid (fun cur h =>
      ⟨((bm0.below' z112).below' h).cell 0, ((bm0.below' z112).below' h).cell 1, ((bm0.below' z112).below' h).cell 2, ((bm1.below' z112).below' h).cell 0, ((bm1.below' z112).below' h).cell 1, ((bm1.below' z112).below' h).cell 2, ((bm1.below' z112).below' h).cell 3, ((bm1.below' z112).below' h).cell 4, ((bm1.below' z112).below' h).cell 5⟩)
    have YBB := Lib.hid yw_W112
    go_upto_region 31 with fail
    go_cut [17, 18, 19] (fun s17 s18 s19 wx => FormBox3 W112.heap.size W112 s17 s18 s19 res wx)
    case first =>
      have hp : Below W112.heap.size W112 W112.drew := below_drewN (Below.refl _ _) 1
      refine wp_region_noPanic ?_
      refine wp_region_held_drew (S := (fun w' => w'.cell? ⟨w.heap.size, 0, none⟩ = some (.int .i64 sy0) ∧ w'.cell? ⟨w.heap.size, 1, none⟩ = some (.int .i64 st0) ∧ w'.cell? ⟨w.heap.size, 2, none⟩ = some (.slice A0 n0 k0) ∧ w'.cell? ⟨(w.heap.size + 1), 0, none⟩ = some (.int .i64 d1_0) ∧ w'.cell? ⟨(w.heap.size + 1), 1, none⟩ = some (.int .i64 d1_1) ∧ w'.cell? ⟨(w.heap.size + 1), 2, none⟩ = some (.int .i64 d1_2) ∧ w'.cell? ⟨(w.heap.size + 1), 3, none⟩ = some (.slice A1_0 n1_0 c1_0) ∧ w'.cell? ⟨(w.heap.size + 1), 4, none⟩ = some (.slice A1_1 n1_1 c1_1) ∧ w'.cell? ⟨(w.heap.size + 1), 5, none⟩ = some (.slice A1_2 n1_2 c1_2))) (by kernel_rfl) ?_ (fun hHeld => ?_)
      · exact KEEPB.out _ hp
      generalize W112.drew = Wc at *
      refine wpAnyH_take (i := 0) (v := ?_) rfl (by kernel_rfl) (by kernel_rfl) (by kernel_rfl) (fun _ _ _ h => h) (Or.inl ⟨by rfl, ?_⟩) (by assumption) ?_
      rotate_left
      · intro w hSw
        try dsimp only at hSw
        obtain ⟨hs0_, hs1_, hs2_, hs3_, hs4_, hs5_, hs6_, hs7_, hs8_⟩ := hSw
        go_simp
        try with_reducible rfl
      try simp only [Act.put, List.setIfInBounds_toArray]
      refine wpAnyH_take (i := 2) (v := ?_) rfl (by kernel_rfl) (by kernel_rfl) (by kernel_rfl) (fun _ _ _ h => h) (Or.inl ⟨by rfl, ?_⟩) (by assumption) ?_
      rotate_left
      · intro w hSw
        try dsimp only at hSw
        obtain ⟨hs0_, hs1_, hs2_, hs3_, hs4_, hs5_, hs6_, hs7_, hs8_⟩ := hSw
        go_simp
        try with_reducible rfl
      try simp only [Act.put]
      simp only [List.getElem_toArray, List.getElem_cons_zero, List.getElem_cons_succ, List.setIfInBounds_toArray, List.set_cons_zero, List.set_cons_succ]
      refine wpAnyH_batch (n := 8) (is := [1, 3, 4, 5, 6, 7, 8, 9]) [⟨1, [], (RCall (fun a_ e_ b_ => ToMachine a_ sy0 st0 n0 rs0 e_ b_)), false⟩, ⟨3, [], (RCall (fun a_ e_ b_ => ToFormula a_ d1_0 d1_1 d1_2 n1_0 (nums x1_0) n1_1 (nums x1_1) n1_2 x1_2 e_ b_)), false⟩, ⟨4, [1, 3], (RCall (fun a_ e_ b_ => NewFmI3 a_ res e_ b_)), false⟩, ⟨5, [4], (RKnown (fun vl => ∃ x, vl = [x, x])), true⟩, ⟨6, [5, 4], (RKnown (fun vl => ∃ x0_ x1_ x2_, vl = [x0_, .tuple #[x0_, x1_, x2_], .tuple #[x0_, x1_, x2_]])), true⟩, ⟨7, [5, 4], (RKnown (fun vl => ∃ x0_ x1_ x2_, vl = [x1_, .tuple #[x0_, x1_, x2_], .tuple #[x0_, x1_, x2_]])), true⟩, ⟨8, [5, 4], (RKnown (fun vl => ∃ x0_ x1_ x2_, vl = [x2_, .tuple #[x0_, x1_, x2_], .tuple #[x0_, x1_, x2_]])), true⟩, ⟨9, [], (RMade (fun g => .pointer (some ⟨g, 0, none⟩)) 31 #[.int .i64 0, .int .i64 0, .int .i64 0, .slice none 0 0, .slice none 0 0, .slice none 0 0]), false⟩] rfl rfl (by kernel_rfl) (by decide) (by kernel_rfl) (fun _ _ _ _ h => h) (fun w' hb => ?_) (BStay.all_cons (RCall.stay) <| BStay.all_cons (RCall.stay) <| BStay.all_cons (RCall.stay) <| BStay.all_cons (RKnown.stay) <| BStay.all_cons (RKnown.stay) <| BStay.all_cons (RKnown.stay) <| BStay.all_cons (RKnown.stay) <| BStay.all_cons (RMade.stay) <| BStay.all_nil) ?_ ?_
      · exact KEEPB.out _ (hp.trans (hb.mono hp.size))
      · refine BStep.all_cons (BStep.mk rfl (fun vs l h w1 hz hn hsp K hK => ?_)) ?_
        · simp only [putAll, List.map, Act.put, List.getElem_toArray, List.getElem_cons_zero, List.getElem_cons_succ, List.setIfInBounds_toArray, List.set_cons_zero, List.set_cons_succ] at hK ⊢
          clear hn hsp
          go_simp
          have yq := YBB.out.trans ((hp.trans (hz.mono hp.size)).mono YBB.out.size)
          refine (toMachine_any _ _ _ _ _ rs0 _ (hr0.below yq) p0).mono ?_
          rintro e W2 hT
          obtain ⟨B122, rfl, o122, z122⟩ := id hT
          exact hK _ _ z122 ⟨_, _, _, rfl, hT, rfl, Below.refl _ _⟩
        refine BStep.all_cons (BStep.mk rfl (fun vs l h w1 hz hn hsp K hK => ?_)) ?_
        · simp only [putAll, List.map, Act.put, List.getElem_toArray, List.getElem_cons_zero, List.getElem_cons_succ, List.setIfInBounds_toArray, List.set_cons_zero, List.set_cons_succ] at hK ⊢
          clear hn hsp
          go_simp
          have yq := YBB.out.trans ((hp.trans (hz.mono hp.size)).mono YBB.out.size)
          refine (toFormula_any _ _ _ _ _ _ x1_0 _ _ _ x1_1 _ _ _ x1_2 _ (h1_0.below yq) p1_0 HR1_0.out (h1_1.below yq) p1_1 HR1_1.out (h1_2.below yq) p1_2).mono ?_
          rintro e W2 hT
          obtain ⟨B123_0, us123_0, B123_1, us123_1, B123_2, rfl, o123_0, hn123_0, o123_1, hn123_1, o123_2, z123⟩ := id hT
          exact hK _ _ z123 ⟨_, _, _, rfl, hT, rfl, Below.refl _ _⟩
        refine BStep.all_cons (BStep.mk rfl (fun vs l h w1 hz hn hsp K hK => ?_)) ?_
        · simp only [putAll, List.map, dstAt, Act.put, List.getElem_toArray, List.getElem?_toArray, List.getElem_cons_zero, List.getElem_cons_succ, List.getElem?_cons_zero, List.getElem?_cons_succ, Option.bind_some, List.setIfInBounds_toArray, List.set_cons_zero, List.set_cons_succ] at hK ⊢
          simp only [List.forall_mem_cons, List.map] at hn
          obtain ⟨nn1, nn3, nn4, nn5, nn6, nn7, nn8, nn9, _⟩ := hn
          have q1 := (nn1 (by simp)).2.2.2
          have q3 := (nn3 (by simp)).2.2.2
          obtain ⟨wa122, wb122, v122, ee122, ⟨B122, hv122, o122, z122⟩, _, zb122⟩ := q1
          cases hv122
          simp only [List.head?_cons, Option.some.injEq] at ee122
          replace o122 := o122.below zb122
          obtain ⟨wa123, wb123, v123, ee123, ⟨B123_0, us123_0, B123_1, us123_1, B123_2, hv123, o123_0, hn123_0, o123_1, hn123_1, o123_2, z123⟩, _, zb123⟩ := q3
          cases hv123
          simp only [List.head?_cons, Option.some.injEq] at ee123
          have HN123_0 := Lib.hid hn123_0
          clear hn123_0
          have HN123_1 := Lib.hid hn123_1
          clear hn123_1
          replace o123_0 := o123_0.below zb123
          replace o123_1 := o123_1.below zb123
          replace o123_2 := o123_2.below zb123
          rw [ee122, ee123] at hK ⊢
          go_simp
          (with_reducible refine (stepFormulaI_any _ _ _ _ _ rs0 _ _ _ _ _ _ us123_0 _ _ _ us123_1 _ _ _ x1_2 _ o122.as3 o123_0.sii o123_1.sii o123_2.asI p0 p1_0 p1_1 p1_2 (rows_le HN123_0.out HR1_0.out) (rows_le HN123_1.out HR1_1.out)).mono ?_)
          rw [HN123_0.out, HN123_1.out, ← HRES.out]
          rintro e W2 hT
          obtain ⟨A124r, c124r, ts124r, B124r, d124r, us124r, C124r, k124r, rfl, oF124, z124⟩ := id hT
          exact hK _ _ z124 ⟨_, _, _, rfl, hT, rfl, Below.refl _ _⟩
        refine BStep.all_cons (BStep.pure rfl (fun vs l h w1 hz hn hsp => ?_)) ?_
        · simp only [putAll, List.map, dstAt, Act.put, List.getElem_toArray, List.getElem?_toArray, List.getElem_cons_zero, List.getElem_cons_succ, List.getElem?_cons_zero, List.getElem?_cons_succ, Option.bind_some, List.setIfInBounds_toArray, List.set_cons_zero, List.set_cons_succ]
          simp only [List.forall_mem_cons, List.map] at hn
          obtain ⟨nn1, nn3, nn4, nn5, nn6, nn7, nn8, nn9, _⟩ := hn
          have q4 := (nn4 (by simp)).2.2.2
          exact ⟨_, ⟨_, rfl⟩, fun _ _ => rfl⟩
        refine BStep.all_cons (BStep.pure rfl (fun vs l h w1 hz hn hsp => ?_)) ?_
        · simp only [putAll, List.map, dstAt, Act.put, List.getElem_toArray, List.getElem?_toArray, List.getElem_cons_zero, List.getElem_cons_succ, List.getElem?_cons_zero, List.getElem?_cons_succ, Option.bind_some, List.setIfInBounds_toArray, List.set_cons_zero, List.set_cons_succ]
          simp only [List.forall_mem_cons, List.map] at hn
          obtain ⟨nn1, nn3, nn4, nn5, nn6, nn7, nn8, nn9, _⟩ := hn
          have q5 := (nn5 (by simp)).2.2.2
          have q4 := (nn4 (by simp)).2.2.2
          obtain ⟨y_, ey_⟩ := q5
          simp only [List.cons.injEq, and_true] at ey_
          obtain ⟨ey1, ey2⟩ := ey_
          obtain ⟨wa, wb, v, ee, ⟨A125r, c125r, ts125r, B125r, d125r, us125r, C125r, k125r, hv, oF125, z125⟩, _, zb⟩ := q4
          cases hv
          simp only [List.head?_cons, Option.some.injEq] at ee
          rw [ey1, ← ey2, ee]
          exact ⟨_, ⟨_, _, _, rfl⟩, fun _ _ => rfl⟩
        refine BStep.all_cons (BStep.pure rfl (fun vs l h w1 hz hn hsp => ?_)) ?_
        · simp only [putAll, List.map, dstAt, Act.put, List.getElem_toArray, List.getElem?_toArray, List.getElem_cons_zero, List.getElem_cons_succ, List.getElem?_cons_zero, List.getElem?_cons_succ, Option.bind_some, List.setIfInBounds_toArray, List.set_cons_zero, List.set_cons_succ]
          simp only [List.forall_mem_cons, List.map] at hn
          obtain ⟨nn1, nn3, nn4, nn5, nn6, nn7, nn8, nn9, _⟩ := hn
          have q5 := (nn5 (by simp)).2.2.2
          have q4 := (nn4 (by simp)).2.2.2
          obtain ⟨y_, ey_⟩ := q5
          simp only [List.cons.injEq, and_true] at ey_
          obtain ⟨ey1, ey2⟩ := ey_
          obtain ⟨wa, wb, v, ee, ⟨A126r, c126r, ts126r, B126r, d126r, us126r, C126r, k126r, hv, oF126, z126⟩, _, zb⟩ := q4
          cases hv
          simp only [List.head?_cons, Option.some.injEq] at ee
          rw [ey1, ← ey2, ee]
          exact ⟨_, ⟨_, _, _, rfl⟩, fun _ _ => rfl⟩
        refine BStep.all_cons (BStep.pure rfl (fun vs l h w1 hz hn hsp => ?_)) ?_
        · simp only [putAll, List.map, dstAt, Act.put, List.getElem_toArray, List.getElem?_toArray, List.getElem_cons_zero, List.getElem_cons_succ, List.getElem?_cons_zero, List.getElem?_cons_succ, Option.bind_some, List.setIfInBounds_toArray, List.set_cons_zero, List.set_cons_succ]
          simp only [List.forall_mem_cons, List.map] at hn
          obtain ⟨nn1, nn3, nn4, nn5, nn6, nn7, nn8, nn9, _⟩ := hn
          have q5 := (nn5 (by simp)).2.2.2
          have q4 := (nn4 (by simp)).2.2.2
          obtain ⟨y_, ey_⟩ := q5
          simp only [List.cons.injEq, and_true] at ey_
          obtain ⟨ey1, ey2⟩ := ey_
          obtain ⟨wa, wb, v, ee, ⟨A127r, c127r, ts127r, B127r, d127r, us127r, C127r, k127r, hv, oF127, z127⟩, _, zb⟩ := q4
          cases hv
          simp only [List.head?_cons, Option.some.injEq] at ee
          rw [ey1, ← ey2, ee]
          exact ⟨_, ⟨_, _, _, rfl⟩, fun _ _ => rfl⟩
        refine BStep.all_cons (BStep.mk rfl (fun vs l h w1 hz hn hsp K hK => ?_)) ?_
        · simp only [putAll, List.map, Act.put, List.getElem_toArray, List.getElem_cons_zero, List.getElem_cons_succ, List.setIfInBounds_toArray, List.set_cons_zero, List.set_cons_succ] at hK ⊢
          clear hn hsp
          go_simp
          exact hK _ _ ((Below.refl _ _).alloc (Nat.le_refl _) _) ⟨_, rfl, Blk.new _ _ _, Nat.le_refl _, by simp⟩
        exact BStep.all_nil
      · intro vs l h w1 hz ht hsp
        simp only [Through, List.forall_mem_cons, List.map] at ht
        simp only [putAll, markAll, dstAt, Act.put, List.getElem?_toArray, List.getElem?_cons_zero, List.getElem?_cons_succ, Option.bind_some, List.setIfInBounds_toArray, List.set_cons_zero, List.set_cons_succ]
        obtain ⟨⟨_, _, _, _⟩, ⟨_, _, _, _⟩, ⟨hl_, hh_, hx_, wa, wb, v, em, ⟨A124r, c124r, ts124r, B124r, d124r, us124r, C124r, k124r, hv, oF124, zz_⟩, ew_, zb⟩, ⟨_, _, _, y_, ey_⟩, ⟨_, _, _, p0_0, p0_1, p0_2, ex0_⟩, ⟨_, _, _, p1_0, p1_1, p1_2, ex1_⟩, ⟨_, _, _, p2_0, p2_1, p2_2, ex2_⟩, ⟨ka_, _, ma_, gB, eB, hB, gB1, gB2⟩, _⟩ := ht
        cases hv
        simp only [List.head?_cons, Option.some.injEq, List.cons.injEq, and_true] at em eB ey_ ex0_ ex1_ ex2_
        obtain ⟨ey1, ey2⟩ := ey_
        obtain ⟨ea0, eb0, ec0⟩ := ex0_
        rw [em] at ec0
        cases ec0
        obtain ⟨ea1, eb1, ec1⟩ := ex1_
        rw [em] at ec1
        cases ec1
        obtain ⟨ea2, eb2, ec2⟩ := ex2_
        rw [em] at ec2
        cases ec2
        rw [ea0, ea1, ea2, eB]
        have hsz := hp.size
        have lB : W112.heap.size ≤ gB := by omega
        have hpz : Below W112.heap.size W112 w1 := hp.trans (hz.mono hp.size)
        replace oF124 := (oF124.below zb).mono (lo' := W112.heap.size) (by omega)
        try simp only [putAll, markAll, dstAt, Act.put, List.getElem_toArray, List.getElem?_toArray, List.getElem_cons_zero, List.getElem_cons_succ, List.getElem?_cons_zero, List.getElem?_cons_succ, Option.bind_some, List.setIfInBounds_toArray, List.set_cons_zero, List.set_cons_succ]
        refine wpAnyH_ready (rs := [10]) (by kernel_rfl) (by simp) ?_
        refine AllReadyH.cons rfl (fun K hK => ?_) ?_
        · have xx0 := hB.cell 0
          have xx1 := hB.cell 1
          have xx2 := hB.cell 2
          have xx3 := hB.cell 3
          have xx4 := hB.cell 4
          have xx5 := hB.cell 5
          have ff0 := hB.frozen 0
          have ff1 := hB.frozen 1
          have ff2 := hB.frozen 2
          have ff3 := hB.frozen 3
          have ff4 := hB.frozen 4
          have ff5 := hB.frozen 5
          go_simp
          have hpf := form_below hpz lB (.int .i64 res.1.q) (.int .i64 res.1.h) (.int .i64 res.1.a) (.slice A124r ts124r.length c124r) (.slice B124r us124r.length d124r) (.slice C124r res.1.O.length k124r)
          have hbf := form_set hB (.int .i64 res.1.q) (.int .i64 res.1.h) (.int .i64 res.1.a) (.slice A124r ts124r.length c124r) (.slice B124r us124r.length d124r) (.slice C124r res.1.O.length k124r)
          have oF124 := form_far2 hB oF124 (.int .i64 res.1.q) (.int .i64 res.1.h) (.int .i64 res.1.a) (.slice A124r ts124r.length c124r) (.slice B124r us124r.length d124r) (.slice C124r res.1.O.length k124r)
          refine hK.out _ _ ?_ (fun hHeld => ?_)
          · exact KEEPB.out _ hpf
          clear hK K
          try simp only [Act.put, List.setIfInBounds_toArray]
          try simp only [putAll, markAll, dstAt, Act.put, List.getElem_toArray, List.getElem?_toArray, List.getElem_cons_zero, List.getElem_cons_succ, List.getElem?_cons_zero, List.getElem?_cons_succ, Option.bind_some, List.setIfInBounds_toArray, List.set_cons_zero, List.set_cons_succ]
          refine wpAnyH_ready (rs := [11]) (by kernel_rfl) (by simp) ?_
          refine AllReadyH.cons rfl (fun K hK => ?_) ?_
          · go_simp
            refine hK.out _ _ ?_ (fun hHeld => ?_)
            · exact KEEPB.out _ hpf
            clear hK K
            try simp only [Act.put, List.setIfInBounds_toArray, List.set_cons_zero, List.set_cons_succ]
            try simp only [putAll, markAll, dstAt, Act.put, List.getElem_toArray, List.getElem?_toArray, List.getElem_cons_zero, List.getElem_cons_succ, List.getElem?_cons_zero, List.getElem?_cons_succ, Option.bind_some, List.setIfInBounds_toArray, List.set_cons_zero, List.set_cons_succ]
            refine wpAnyH_ready (rs := [12]) (by kernel_rfl) (by simp) ?_
            refine AllReadyH.cons rfl (fun K hK => ?_) ?_
            · go_simp
              refine hK.out _ _ ?_ (fun hHeld => ?_)
              · exact KEEPB.out _ hpf
              clear hK K
              try simp only [Act.put, List.setIfInBounds_toArray, List.set_cons_zero, List.set_cons_succ]
              refine wpAnyH_done (by kernel_rfl) ?_ _
              refine NoPanic.normal ?_
              go_wp2_with fail
              go_meet
              exact ⟨_, A124r, c124r, ts124r, B124r, d124r, us124r, C124r, k124r, rfl, rfl, rfl, lB, hbf, oF124, hpf⟩
            exact AllReadyH.nil
          exact AllReadyH.nil
        exact AllReadyH.nil
    case rest =>
      obtain ⟨g128, A128r, c128r, ts128r, B128r, d128r, us128r, C128r, k128r, rfl, rfl, rfl, hg128, bx128, oF128, z128⟩ := hcut
      clear KEEPB YBB
      obtain ⟨W128, hWc⟩ : ∃ W, W = wc := ⟨_, rfl⟩
      rw [← hWc] at oF128 z128 bx128
      rw [← hWc]
      clear hWc
      have uc129 : W128.cell? ⟨g128, 0, none⟩ = some (.int .i64 res.1.q) := bx128.cell 0
      have uc130 : W128.cell? ⟨g128, 1, none⟩ = some (.int .i64 res.1.h) := bx128.cell 1
      have uc131 : W128.cell? ⟨g128, 2, none⟩ = some (.int .i64 res.1.a) := bx128.cell 2
      have uc132 : W128.cell? ⟨g128, 3, none⟩ = some (.slice A128r ts128r.length c128r) := bx128.cell 3
      have uc133 : W128.cell? ⟨g128, 4, none⟩ = some (.slice B128r us128r.length d128r) := bx128.cell 4
      have uc134 : W128.cell? ⟨g128, 5, none⟩ = some (.slice C128r res.1.O.length k128r) := bx128.cell 5
      have yW105_W128 : Below W105.heap.size W105 W128 := z112.trans (z128.mono z112.size)
      have uc135 : W128.cell? ⟨g15, 0, none⟩ = some (.int .i64 res.1.q) := (sbm.below' yW105_W128).cell 0
      have uc136 : W128.cell? ⟨g15, 1, none⟩ = some (.int .i64 res.1.h) := (sbm.below' yW105_W128).cell 1
      have uc137 : W128.cell? ⟨g15, 2, none⟩ = some (.int .i64 res.1.a) := (sbm.below' yW105_W128).cell 2
      have uc138 : W128.cell? ⟨g15, 3, none⟩ = some (.slice A15r ts15r.length c15r) := (sbm.below' yW105_W128).cell 3
      have uc139 : W128.cell? ⟨g15, 4, none⟩ = some (.slice B15r us15r.length d15r) := (sbm.below' yW105_W128).cell 4
      have uc140 : W128.cell? ⟨g15, 5, none⟩ = some (.slice C15r res.1.O.length k15r) := (sbm.below' yW105_W128).cell 5
      go_wp2_with fail
      refine (eqFormula_r oF128 (so0.below yW105_W128) LX0.out).mono ?_
      rintro e W141 ⟨rfl, z141⟩
      skip
      clear uc129 uc130 uc131 uc132 uc133 uc134 uc135 uc136 uc137 uc138 uc139 uc140
      have yW105_W141 : Below W105.heap.size W105 W141 := yW105_W128.trans (z141.mono yW105_W128.size)
      have uc142 : W141.cell? ⟨W38.heap.size, 0, none⟩ = some (.int .i64 res.1.q) := (ibm.below' yW105_W141).cell 0
      have uc143 : W141.cell? ⟨W38.heap.size, 1, none⟩ = some (.int .i64 res.1.h) := (ibm.below' yW105_W141).cell 1
      have uc144 : W141.cell? ⟨W38.heap.size, 2, none⟩ = some (.int .i64 res.1.a) := (ibm.below' yW105_W141).cell 2
      have uc145 : W141.cell? ⟨W38.heap.size, 3, none⟩ = some (.slice A38r ts38r.length c38r) := (ibm.below' yW105_W141).cell 3
      have uc146 : W141.cell? ⟨W38.heap.size, 4, none⟩ = some (.slice B38r us38r.length d38r) := (ibm.below' yW105_W141).cell 4
      have uc147 : W141.cell? ⟨W38.heap.size, 5, none⟩ = some (.slice C38r res.1.O.length k38r) := (ibm.below' yW105_W141).cell 5
      go_wp2_with fail
      refine (heldFormula_r (eF.below yW105_W141)).mono ?_
      rintro e W148 ⟨rfl, z148⟩
      clear uc142 uc143 uc144 uc145 uc146 uc147
      have yw_W128 : Below w.heap.size w W128 := yw_W112.trans (z128.mono yw_W112.size)
      have yw_W141 : Below w.heap.size w W141 := yw_W128.trans (z141.mono yw_W128.size)
      have yw_W148 : Below w.heap.size w W148 := yw_W141.trans (z148.mono yw_W141.size)
      go_wp2_with fail
      go_ret
      exact ⟨rfl, yw_W148⟩
end Go.Proofs.Ytbpofkggoolmpaa
