/-
  The walk of the law FnExactRunFormula: it returns true, and nothing that was there before has turned.
-/
import Derived.Test.YtbpofkggoolmpaaPbFmAll5
import Derived.Test.YtbpofkggoolmpaaPbFmAll6
import Derived.Test.YtbpofkggoolmpaaPbFmAll8
import Derived.Test.YtbpofkggoolmpaaPbFmAll20
import Derived.Test.YtbpofkggoolmpaaPkRunFormula0
namespace Go.Proofs.Ytbpofkggoolmpaa
open Go.RowKit

set_option maxRecDepth 100000 in
set_option maxHeartbeats 16000000 in
theorem lawRunFormula (sy0 st0 : Int) (A0 : Option Addr) (n0 k0 : Nat) (rs0 : List R3) (d1_0 : Int) (d1_1 : Int) (d1_2 : Int) (A1_0 : Option Addr) (n1_0 c1_0 : Nat) (x1_0 : List Sl) (A1_1 : Option Addr) (n1_1 c1_1 : Nat) (x1_1 : List Sl) (A1_2 : Option Addr) (n1_2 c1_2 : Nat) (x1_2 : List Int) (b2 : Int) (w : World) (hr0 : S3 w A0 n0 rs0) (h1_0 : SII w A1_0 n1_0 x1_0) (h1_1 : SII w A1_1 n1_1 x1_1) (h1_2 : SI w A1_2 n1_2 x1_2)  (hb0 : n0 ≤ 9223372036854775807) (hb1_0 : n1_0 ≤ 9223372036854775807) (hb1_1 : n1_1 ≤ 9223372036854775807) (hb1_2 : n1_2 ≤ 9223372036854775807) (hbr1_0 : ∀ t ∈ x1_0, t.xs.length ≤ 9223372036854775807) (hbr1_1 : ∀ t ∈ x1_1, t.xs.length ≤ 9223372036854775807)  :
    Calls Try.prog 4 #[.agg #[.int .i64 sy0, .int .i64 st0, .slice A0 n0 k0], .agg #[.int .i64 d1_0, .int .i64 d1_1, .int .i64 d1_2, .slice A1_0 n1_0 c1_0, .slice A1_1 n1_1 c1_1, .slice A1_2 n1_2 c1_2], .int .i64 b2] w fun e w' => e = .returned (.bool true) ∧ Below w.heap.size w w' := by
  obtain ⟨W0, hW0⟩ : ∃ W, W = (w.alloc (.cells #[.int .i64 sy0, .int .i64 st0, .slice A0 n0 k0] 24)).alloc (.cells #[.int .i64 d1_0, .int .i64 d1_1, .int .i64 d1_2, .slice A1_0 n1_0 c1_0, .slice A1_1 n1_1 c1_1, .slice A1_2 n1_2 c1_2] 28) := ⟨_, rfl⟩
  have s1 : (w.alloc (.cells #[.int .i64 sy0, .int .i64 st0, .slice A0 n0 k0] 24)).heap.size = w.heap.size + 1 := by simp
  have bb0 : Blk W0 w.heap.size 24 #[.int .i64 sy0, .int .i64 st0, .slice A0 n0 k0] := by rw [hW0]; exact (Blk.new w _ _).alloc _
  have bb1 : Blk W0 (w.heap.size + 1) 28 #[.int .i64 d1_0, .int .i64 d1_1, .int .i64 d1_2, .slice A1_0 n1_0 c1_0, .slice A1_1 n1_1 c1_1, .slice A1_2 n1_2 c1_2] := by rw [hW0, ← s1]; exact Blk.new _ _ _
  have z0 : Below w.heap.size w W0 := by rw [hW0]; exact ((Below.refl _ _).alloc (Nat.le_refl _) _).alloc (by simp) _
  have HW0 := Lib.hid hW0
  clear hW0 s1
  have HBR1_0 := Lib.hid hbr1_0
  clear hbr1_0
  have HBR1_1 := Lib.hid hbr1_1
  clear hbr1_1
  go_enter Try.func4, Try.ntmps4
  go_wp2_with fail
  rw [← HW0.out]
  refine (szMachine_any _ _ _ _ _ _ _ hb0 (by omega) (by omega)).mono ?_
  rintro e W1 ⟨v1, rfl, va1, vb1, vc1, z1⟩
  have VC1 := Lib.hid vc1
  clear vc1
  have yw_W1 : Below w.heap.size w W1 := z0.trans (z1.mono z0.size)
  have uc2 : W1.cell? ⟨(w.heap.size + 1), 0, none⟩ = some (.int .i64 d1_0) := (bb1.below' z1).cell 0
  have uc3 : W1.cell? ⟨(w.heap.size + 1), 1, none⟩ = some (.int .i64 d1_1) := (bb1.below' z1).cell 1
  have uc4 : W1.cell? ⟨(w.heap.size + 1), 2, none⟩ = some (.int .i64 d1_2) := (bb1.below' z1).cell 2
  have uc5 : W1.cell? ⟨(w.heap.size + 1), 3, none⟩ = some (.slice A1_0 n1_0 c1_0) := (bb1.below' z1).cell 3
  have uc6 : W1.cell? ⟨(w.heap.size + 1), 4, none⟩ = some (.slice A1_1 n1_1 c1_1) := (bb1.below' z1).cell 4
  have uc7 : W1.cell? ⟨(w.heap.size + 1), 5, none⟩ = some (.slice A1_2 n1_2 c1_2) := (bb1.below' z1).cell 5
  by_cases hneg1 : v1 < 0
  · go_wp2_with fail
    go_ret
    exact ⟨rfl, yw_W1⟩
  go_wp2_with fail
  refine (szFormula_any _ _ _ _ _ _ x1_0 _ _ _ x1_1 _ _ _ _ _ hb1_0 (h1_0.below yw_W1) HBR1_0.out hb1_1 (h1_1.below yw_W1) HBR1_1.out hb1_2 (by omega) (by omega)).mono ?_
  rintro e W8 ⟨v8, rfl, va8, vb8, vc8, z8⟩
  have VC8 := Lib.hid vc8
  clear vc8
  clear uc2 uc3 uc4 uc5 uc6 uc7
  have yw_W8 : Below w.heap.size w W8 := yw_W1.trans (z8.mono yw_W1.size)
  by_cases hneg8 : v8 < 0
  · go_wp2_with fail
    go_ret
    exact ⟨rfl, yw_W8⟩
  have hsm : n0 ≤ 1048576 ∧ n1_0 ≤ 1048576 ∧ n1_1 ≤ 1048576 ∧ n1_2 ≤ 1048576 ∧ total x1_0 ≤ 1048576 ∧ total x1_1 ≤ 1048576 := by
    have t1 := VC1.out (by omega)
    have t8 := VC8.out (by omega)
    omega
  obtain ⟨p0, p1_0, p1_1, p1_2, pt1_0, pt1_1⟩ := hsm
  have HR1_0 : Hid (∀ t ∈ x1_0, t.xs.length ≤ 1048576) := fun t ht => by have := row_total ht; omega
  clear HBR1_0
  have HR1_1 : Hid (∀ t ∈ x1_1, t.xs.length ≤ 1048576) := fun t ht => by have := row_total ht; omega
  clear HBR1_1
  clear VC1
  clear VC8
  obtain ⟨res, hres⟩ : ∃ res, res = runFormF sy0 st0 rs0 ⟨d1_0, d1_1, d1_2, nums x1_0, nums x1_1, x1_2⟩ b2 := ⟨_, rfl⟩
  have HRES := Lib.hid hres
  clear hres
  have yW0_W8 : Below W0.heap.size W0 W8 := z1.trans (z8.mono z1.size)
  have KEEPA : Hid (∀ cur, Below W8.heap.size W8 cur → cur.cell? ⟨w.heap.size, 0, none⟩ = some (.int .i64 sy0) ∧ cur.cell? ⟨w.heap.size, 1, none⟩ = some (.int .i64 st0) ∧ cur.cell? ⟨w.heap.size, 2, none⟩ = some (.slice A0 n0 k0) ∧ cur.cell? ⟨(w.heap.size + 1), 0, none⟩ = some (.int .i64 d1_0) ∧ cur.cell? ⟨(w.heap.size + 1), 1, none⟩ = some (.int .i64 d1_1) ∧ cur.cell? ⟨(w.heap.size + 1), 2, none⟩ = some (.int .i64 d1_2) ∧ cur.cell? ⟨(w.heap.size + 1), 3, none⟩ = some (.slice A1_0 n1_0 c1_0) ∧ cur.cell? ⟨(w.heap.size + 1), 4, none⟩ = some (.slice A1_1 n1_1 c1_1) ∧ cur.cell? ⟨(w.heap.size + 1), 5, none⟩ = some (.slice A1_2 n1_2 c1_2)) := Lib.hid (fun cur h =>
    ⟨((bb0.below' yW0_W8).below' h).cell 0, ((bb0.below' yW0_W8).below' h).cell 1, ((bb0.below' yW0_W8).below' h).cell 2, ((bb1.below' yW0_W8).below' h).cell 0, ((bb1.below' yW0_W8).below' h).cell 1, ((bb1.below' yW0_W8).below' h).cell 2, ((bb1.below' yW0_W8).below' h).cell 3, ((bb1.below' yW0_W8).below' h).cell 4, ((bb1.below' yW0_W8).below' h).cell 5⟩)
  have YBA := Lib.hid yw_W8
  go_upto_region 8 with fail
  go_cut [8, 9] (fun s8 s9 wx => FormBox W8.heap.size W8 s8 s9 res wx)
  case first =>
    have hp : Below W8.heap.size W8 W8.drew := below_drewN (Below.refl _ _) 1
    refine wp_region_noPanic ?_
    refine wp_region_held_drew (S := (fun w' => w'.cell? ⟨w.heap.size, 0, none⟩ = some (.int .i64 sy0) ∧ w'.cell? ⟨w.heap.size, 1, none⟩ = some (.int .i64 st0) ∧ w'.cell? ⟨w.heap.size, 2, none⟩ = some (.slice A0 n0 k0) ∧ w'.cell? ⟨(w.heap.size + 1), 0, none⟩ = some (.int .i64 d1_0) ∧ w'.cell? ⟨(w.heap.size + 1), 1, none⟩ = some (.int .i64 d1_1) ∧ w'.cell? ⟨(w.heap.size + 1), 2, none⟩ = some (.int .i64 d1_2) ∧ w'.cell? ⟨(w.heap.size + 1), 3, none⟩ = some (.slice A1_0 n1_0 c1_0) ∧ w'.cell? ⟨(w.heap.size + 1), 4, none⟩ = some (.slice A1_1 n1_1 c1_1) ∧ w'.cell? ⟨(w.heap.size + 1), 5, none⟩ = some (.slice A1_2 n1_2 c1_2))) (by kernel_rfl) ?_ (fun hHeld => ?_)
    · exact KEEPA.out _ hp
    generalize W8.drew = Wc at *
    refine wpAnyH_take (i := 0) (v := ?_) rfl (by kernel_rfl) (by kernel_rfl) (by kernel_rfl) (fun _ _ _ h => h) (Or.inl ⟨by rfl, ?_⟩) (by assumption) ?_
    rotate_left
    · intro w hSw
      try dsimp only at hSw
      obtain ⟨hs0_, hs1_, hs2_, hs3_, hs4_, hs5_, hs6_, hs7_, hs8_⟩ := hSw
      go_simp
      try with_reducible rfl
    try simp only [Act.put, List.setIfInBounds_toArray]
    refine wpAnyH_take (i := 2) (v := ?_) rfl (by kernel_rfl) (by kernel_rfl) (by kernel_rfl) (fun _ _ _ h => h) (Or.inl ⟨by rfl, ?_⟩) (by assumption) ?_
    rotate_left
    · intro w hSw
      try dsimp only at hSw
      obtain ⟨hs0_, hs1_, hs2_, hs3_, hs4_, hs5_, hs6_, hs7_, hs8_⟩ := hSw
      go_simp
      try with_reducible rfl
    try simp only [Act.put]
    refine wpAnyH_take (i := 4) (v := ?_) rfl (by kernel_rfl) (by kernel_rfl) (by kernel_rfl) (fun _ _ _ h => h) (Or.inl ⟨by rfl, ?_⟩) (by assumption) ?_
    rotate_left
    · intro w hSw
      try dsimp only at hSw
      obtain ⟨hs0_, hs1_, hs2_, hs3_, hs4_, hs5_, hs6_, hs7_, hs8_⟩ := hSw
      go_simp
      try with_reducible rfl
    try simp only [Act.put]
    simp only [List.getElem_toArray, List.getElem_cons_zero, List.getElem_cons_succ, List.setIfInBounds_toArray, List.set_cons_zero, List.set_cons_succ]
    refine wpAnyH_batch (n := 7) (is := [1, 3, 5, 6, 7, 8, 9]) [⟨1, [], (RCall (fun a_ e_ b_ => ToMachine a_ sy0 st0 n0 rs0 e_ b_)), false⟩, ⟨3, [], (RCall (fun a_ e_ b_ => ToFormula a_ d1_0 d1_1 d1_2 n1_0 (nums x1_0) n1_1 (nums x1_1) n1_2 x1_2 e_ b_)), false⟩, ⟨5, [1, 3], (RCall (fun a_ e_ b_ => NewFmI a_ res e_ b_)), false⟩, ⟨6, [5], (RKnown (fun vl => ∃ x, vl = [x, x])), true⟩, ⟨7, [6, 5], (RKnown (fun vl => ∃ x0_ x1_, vl = [x0_, .tuple #[x0_, x1_], .tuple #[x0_, x1_]])), true⟩, ⟨8, [6, 5], (RKnown (fun vl => ∃ x0_ x1_, vl = [x1_, .tuple #[x0_, x1_], .tuple #[x0_, x1_]])), true⟩, ⟨9, [], (RMade (fun g => .pointer (some ⟨g, 0, none⟩)) 31 #[.int .i64 0, .int .i64 0, .int .i64 0, .slice none 0 0, .slice none 0 0, .slice none 0 0]), false⟩] rfl rfl (by kernel_rfl) (by decide) (by kernel_rfl) (fun _ _ _ _ h => h) (fun w' hb => ?_) (BStay.all_cons (RCall.stay) <| BStay.all_cons (RCall.stay) <| BStay.all_cons (RCall.stay) <| BStay.all_cons (RKnown.stay) <| BStay.all_cons (RKnown.stay) <| BStay.all_cons (RKnown.stay) <| BStay.all_cons (RMade.stay) <| BStay.all_nil) ?_ ?_
    · exact KEEPA.out _ (hp.trans (hb.mono hp.size))
    · refine BStep.all_cons (BStep.mk rfl (fun vs l h w1 hz hn hsp K hK => ?_)) ?_
      · simp only [putAll, List.map, Act.put, List.getElem_toArray, List.getElem_cons_zero, List.getElem_cons_succ, List.setIfInBounds_toArray, List.set_cons_zero, List.set_cons_succ] at hK ⊢
        clear hn hsp
        go_simp
        have yq := YBA.out.trans ((hp.trans (hz.mono hp.size)).mono YBA.out.size)
        refine (toMachine_any _ _ _ _ _ rs0 _ (hr0.below yq) p0).mono ?_
        rintro e W2 hT
        obtain ⟨B9, rfl, o9, z9⟩ := id hT
        exact hK _ _ z9 ⟨_, _, _, rfl, hT, rfl, Below.refl _ _⟩
      refine BStep.all_cons (BStep.mk rfl (fun vs l h w1 hz hn hsp K hK => ?_)) ?_
      · simp only [putAll, List.map, Act.put, List.getElem_toArray, List.getElem_cons_zero, List.getElem_cons_succ, List.setIfInBounds_toArray, List.set_cons_zero, List.set_cons_succ] at hK ⊢
        clear hn hsp
        go_simp
        have yq := YBA.out.trans ((hp.trans (hz.mono hp.size)).mono YBA.out.size)
        refine (toFormula_any _ _ _ _ _ _ x1_0 _ _ _ x1_1 _ _ _ x1_2 _ (h1_0.below yq) p1_0 HR1_0.out (h1_1.below yq) p1_1 HR1_1.out (h1_2.below yq) p1_2).mono ?_
        rintro e W2 hT
        obtain ⟨B10_0, us10_0, B10_1, us10_1, B10_2, rfl, o10_0, hn10_0, o10_1, hn10_1, o10_2, z10⟩ := id hT
        exact hK _ _ z10 ⟨_, _, _, rfl, hT, rfl, Below.refl _ _⟩
      refine BStep.all_cons (BStep.mk rfl (fun vs l h w1 hz hn hsp K hK => ?_)) ?_
      · simp only [putAll, List.map, dstAt, Act.put, List.getElem_toArray, List.getElem?_toArray, List.getElem_cons_zero, List.getElem_cons_succ, List.getElem?_cons_zero, List.getElem?_cons_succ, Option.bind_some, List.setIfInBounds_toArray, List.set_cons_zero, List.set_cons_succ] at hK ⊢
        simp only [List.forall_mem_cons, List.map] at hn
        obtain ⟨nn1, nn3, nn5, nn6, nn7, nn8, nn9, _⟩ := hn
        have q1 := (nn1 (by simp)).2.2.2
        have q3 := (nn3 (by simp)).2.2.2
        obtain ⟨wa9, wb9, v9, ee9, ⟨B9, hv9, o9, z9⟩, _, zb9⟩ := q1
        cases hv9
        simp only [List.head?_cons, Option.some.injEq] at ee9
        replace o9 := o9.below zb9
        obtain ⟨wa10, wb10, v10, ee10, ⟨B10_0, us10_0, B10_1, us10_1, B10_2, hv10, o10_0, hn10_0, o10_1, hn10_1, o10_2, z10⟩, _, zb10⟩ := q3
        cases hv10
        simp only [List.head?_cons, Option.some.injEq] at ee10
        have HN10_0 := Lib.hid hn10_0
        clear hn10_0
        have HN10_1 := Lib.hid hn10_1
        clear hn10_1
        replace o10_0 := o10_0.below zb10
        replace o10_1 := o10_1.below zb10
        replace o10_2 := o10_2.below zb10
        rw [ee9, ee10] at hK ⊢
        go_simp
        (with_reducible refine (runFormulaS_any _ _ _ _ _ rs0 _ _ _ _ _ _ us10_0 _ _ _ us10_1 _ _ _ x1_2 _ _ o9.as3 o10_0.sii o10_1.sii o10_2.asI p0 p1_0 p1_1 p1_2 (rows_le HN10_0.out HR1_0.out) (rows_le HN10_1.out HR1_1.out)).mono ?_)
        rw [HN10_0.out, HN10_1.out, ← HRES.out]
        rintro e W2 hT
        obtain ⟨A11r, c11r, ts11r, B11r, d11r, us11r, C11r, k11r, rfl, oF11, z11⟩ := id hT
        exact hK _ _ z11 ⟨_, _, _, rfl, hT, rfl, Below.refl _ _⟩
      refine BStep.all_cons (BStep.pure rfl (fun vs l h w1 hz hn hsp => ?_)) ?_
      · simp only [putAll, List.map, dstAt, Act.put, List.getElem_toArray, List.getElem?_toArray, List.getElem_cons_zero, List.getElem_cons_succ, List.getElem?_cons_zero, List.getElem?_cons_succ, Option.bind_some, List.setIfInBounds_toArray, List.set_cons_zero, List.set_cons_succ]
        simp only [List.forall_mem_cons, List.map] at hn
        obtain ⟨nn1, nn3, nn5, nn6, nn7, nn8, nn9, _⟩ := hn
        have q5 := (nn5 (by simp)).2.2.2
        exact ⟨_, ⟨_, rfl⟩, fun _ _ => rfl⟩
      refine BStep.all_cons (BStep.pure rfl (fun vs l h w1 hz hn hsp => ?_)) ?_
      · simp only [putAll, List.map, dstAt, Act.put, List.getElem_toArray, List.getElem?_toArray, List.getElem_cons_zero, List.getElem_cons_succ, List.getElem?_cons_zero, List.getElem?_cons_succ, Option.bind_some, List.setIfInBounds_toArray, List.set_cons_zero, List.set_cons_succ]
        simp only [List.forall_mem_cons, List.map] at hn
        obtain ⟨nn1, nn3, nn5, nn6, nn7, nn8, nn9, _⟩ := hn
        have q6 := (nn6 (by simp)).2.2.2
        have q5 := (nn5 (by simp)).2.2.2
        obtain ⟨y_, ey_⟩ := q6
        simp only [List.cons.injEq, and_true] at ey_
        obtain ⟨ey1, ey2⟩ := ey_
        obtain ⟨wa, wb, v, ee, ⟨A12r, c12r, ts12r, B12r, d12r, us12r, C12r, k12r, hv, oF12, z12⟩, _, zb⟩ := q5
        cases hv
        simp only [List.head?_cons, Option.some.injEq] at ee
        rw [ey1, ← ey2, ee]
        exact ⟨_, ⟨_, _, rfl⟩, fun _ _ => rfl⟩
      refine BStep.all_cons (BStep.pure rfl (fun vs l h w1 hz hn hsp => ?_)) ?_
      · simp only [putAll, List.map, dstAt, Act.put, List.getElem_toArray, List.getElem?_toArray, List.getElem_cons_zero, List.getElem_cons_succ, List.getElem?_cons_zero, List.getElem?_cons_succ, Option.bind_some, List.setIfInBounds_toArray, List.set_cons_zero, List.set_cons_succ]
        simp only [List.forall_mem_cons, List.map] at hn
        obtain ⟨nn1, nn3, nn5, nn6, nn7, nn8, nn9, _⟩ := hn
        have q6 := (nn6 (by simp)).2.2.2
        have q5 := (nn5 (by simp)).2.2.2
        obtain ⟨y_, ey_⟩ := q6
        simp only [List.cons.injEq, and_true] at ey_
        obtain ⟨ey1, ey2⟩ := ey_
        obtain ⟨wa, wb, v, ee, ⟨A13r, c13r, ts13r, B13r, d13r, us13r, C13r, k13r, hv, oF13, z13⟩, _, zb⟩ := q5
        cases hv
        simp only [List.head?_cons, Option.some.injEq] at ee
        rw [ey1, ← ey2, ee]
        exact ⟨_, ⟨_, _, rfl⟩, fun _ _ => rfl⟩
      refine BStep.all_cons (BStep.mk rfl (fun vs l h w1 hz hn hsp K hK => ?_)) ?_
      · simp only [putAll, List.map, Act.put, List.getElem_toArray, List.getElem_cons_zero, List.getElem_cons_succ, List.setIfInBounds_toArray, List.set_cons_zero, List.set_cons_succ] at hK ⊢
        clear hn hsp
        go_simp
        exact hK _ _ ((Below.refl _ _).alloc (Nat.le_refl _) _) ⟨_, rfl, Blk.new _ _ _, Nat.le_refl _, by simp⟩
      exact BStep.all_nil
    · intro vs l h w1 hz ht hsp
      simp only [Through, List.forall_mem_cons, List.map] at ht
      simp only [putAll, markAll, dstAt, Act.put, List.getElem?_toArray, List.getElem?_cons_zero, List.getElem?_cons_succ, Option.bind_some, List.setIfInBounds_toArray, List.set_cons_zero, List.set_cons_succ]
      obtain ⟨⟨_, _, _, _⟩, ⟨_, _, _, _⟩, ⟨hl_, hh_, hx_, wa, wb, v, em, ⟨A11r, c11r, ts11r, B11r, d11r, us11r, C11r, k11r, hv, oF11, zz_⟩, ew_, zb⟩, ⟨_, _, _, y_, ey_⟩, ⟨_, _, _, p0_0, p0_1, ex0_⟩, ⟨_, _, _, p1_0, p1_1, ex1_⟩, ⟨ka_, _, ma_, gB, eB, hB, gB1, gB2⟩, _⟩ := ht
      cases hv
      simp only [List.head?_cons, Option.some.injEq, List.cons.injEq, and_true] at em eB ey_ ex0_ ex1_
      obtain ⟨ey1, ey2⟩ := ey_
      obtain ⟨ea0, eb0, ec0⟩ := ex0_
      rw [em] at ec0
      cases ec0
      obtain ⟨ea1, eb1, ec1⟩ := ex1_
      rw [em] at ec1
      cases ec1
      rw [ea0, ea1, eB]
      have hsz := hp.size
      have lB : W8.heap.size ≤ gB := by omega
      have hpz : Below W8.heap.size W8 w1 := hp.trans (hz.mono hp.size)
      replace oF11 := (oF11.below zb).mono (lo' := W8.heap.size) (by omega)
      try simp only [putAll, markAll, dstAt, Act.put, List.getElem_toArray, List.getElem?_toArray, List.getElem_cons_zero, List.getElem_cons_succ, List.getElem?_cons_zero, List.getElem?_cons_succ, Option.bind_some, List.setIfInBounds_toArray, List.set_cons_zero, List.set_cons_succ]
      refine wpAnyH_ready (rs := [10]) (by kernel_rfl) (by simp) ?_
      refine AllReadyH.cons rfl (fun K hK => ?_) ?_
      · have xx0 := hB.cell 0
        have xx1 := hB.cell 1
        have xx2 := hB.cell 2
        have xx3 := hB.cell 3
        have xx4 := hB.cell 4
        have xx5 := hB.cell 5
        have ff0 := hB.frozen 0
        have ff1 := hB.frozen 1
        have ff2 := hB.frozen 2
        have ff3 := hB.frozen 3
        have ff4 := hB.frozen 4
        have ff5 := hB.frozen 5
        go_simp
        have hpf := form_below hpz lB (.int .i64 res.1.q) (.int .i64 res.1.h) (.int .i64 res.1.a) (.slice A11r ts11r.length c11r) (.slice B11r us11r.length d11r) (.slice C11r res.1.O.length k11r)
        have hbf := form_set hB (.int .i64 res.1.q) (.int .i64 res.1.h) (.int .i64 res.1.a) (.slice A11r ts11r.length c11r) (.slice B11r us11r.length d11r) (.slice C11r res.1.O.length k11r)
        have oF11 := form_far2 hB oF11 (.int .i64 res.1.q) (.int .i64 res.1.h) (.int .i64 res.1.a) (.slice A11r ts11r.length c11r) (.slice B11r us11r.length d11r) (.slice C11r res.1.O.length k11r)
        refine hK.out _ _ ?_ (fun hHeld => ?_)
        · exact KEEPA.out _ hpf
        clear hK K
        try simp only [Act.put, List.setIfInBounds_toArray]
        try simp only [putAll, markAll, dstAt, Act.put, List.getElem_toArray, List.getElem?_toArray, List.getElem_cons_zero, List.getElem_cons_succ, List.getElem?_cons_zero, List.getElem?_cons_succ, Option.bind_some, List.setIfInBounds_toArray, List.set_cons_zero, List.set_cons_succ]
        refine wpAnyH_ready (rs := [11]) (by kernel_rfl) (by simp) ?_
        refine AllReadyH.cons rfl (fun K hK => ?_) ?_
        · go_simp
          refine hK.out _ _ ?_ (fun hHeld => ?_)
          · exact KEEPA.out _ hpf
          clear hK K
          try simp only [Act.put, List.setIfInBounds_toArray, List.set_cons_zero, List.set_cons_succ]
          refine wpAnyH_done (by kernel_rfl) ?_ _
          refine NoPanic.normal ?_
          go_wp2_with fail
          go_meet
          exact ⟨_, A11r, c11r, ts11r, B11r, d11r, us11r, C11r, k11r, rfl, rfl, lB, hbf, oF11, hpf⟩
        exact AllReadyH.nil
      exact AllReadyH.nil
  case rest =>
    obtain ⟨g14, A14r, c14r, ts14r, B14r, d14r, us14r, C14r, k14r, rfl, rfl, hg14, bx14, oF14, z14⟩ := hcut
    clear KEEPA YBA
    obtain ⟨W14, hWc⟩ : ∃ W, W = wc := ⟨_, rfl⟩
    rw [← hWc] at oF14 z14 bx14
    rw [← hWc]
    clear hWc
    have hlen : FmLen res.1 := by rw [HRES.out]; exact runFormF_len sy0 st0 rs0 ⟨d1_0, d1_1, d1_2, nums x1_0, nums x1_1, x1_2⟩ b2
    have lx0 := hlen
    have LX0 := Lib.hid lx0
    clear lx0
    have yW0_W14 : Below W0.heap.size W0 W14 := yW0_W8.trans (z14.mono yW0_W8.size)
    have uc15 : W14.cell? ⟨w.heap.size, 0, none⟩ = some (.int .i64 sy0) := (bb0.below' yW0_W14).cell 0
    have uc16 : W14.cell? ⟨w.heap.size, 1, none⟩ = some (.int .i64 st0) := (bb0.below' yW0_W14).cell 1
    have uc17 : W14.cell? ⟨w.heap.size, 2, none⟩ = some (.slice A0 n0 k0) := (bb0.below' yW0_W14).cell 2
    go_wp2_with fail
    have yw_W14 : Below w.heap.size w W14 := yw_W8.trans (z14.mono yw_W8.size)
    refine (toMachine_any _ _ _ _ _ rs0 _ (hr0.below yw_W14) p0).mono ?_
    rintro e W18 ⟨B18, rfl, o18, z18⟩
    clear uc15 uc16 uc17
    obtain ⟨W19, hW19⟩ : ∃ W, W = W18.alloc (.cells #[.int .i64 sy0, .int .i64 st0, .slice B18 n0 n0] 36) := ⟨_, rfl⟩
    have cb0 : Blk W19 W18.heap.size 36 #[.int .i64 sy0, .int .i64 st0, .slice B18 n0 n0] := by rw [hW19]; exact Blk.new W18 _ _
    have z19 : Below W18.heap.size W18 W19 := by rw [hW19]; exact (Below.refl _ _).alloc (Nat.le_refl _) _
    have HW19 := Lib.hid hW19
    clear hW19
    have yW0_W18 : Below W0.heap.size W0 W18 := yW0_W14.trans (z18.mono yW0_W14.size)
    have yW0_W19 : Below W0.heap.size W0 W19 := yW0_W18.trans (z19.mono yW0_W18.size)
    have uc20 : W19.cell? ⟨(w.heap.size + 1), 0, none⟩ = some (.int .i64 d1_0) := (bb1.below' yW0_W19).cell 0
    have uc21 : W19.cell? ⟨(w.heap.size + 1), 1, none⟩ = some (.int .i64 d1_1) := (bb1.below' yW0_W19).cell 1
    have uc22 : W19.cell? ⟨(w.heap.size + 1), 2, none⟩ = some (.int .i64 d1_2) := (bb1.below' yW0_W19).cell 2
    have uc23 : W19.cell? ⟨(w.heap.size + 1), 3, none⟩ = some (.slice A1_0 n1_0 c1_0) := (bb1.below' yW0_W19).cell 3
    have uc24 : W19.cell? ⟨(w.heap.size + 1), 4, none⟩ = some (.slice A1_1 n1_1 c1_1) := (bb1.below' yW0_W19).cell 4
    have uc25 : W19.cell? ⟨(w.heap.size + 1), 5, none⟩ = some (.slice A1_2 n1_2 c1_2) := (bb1.below' yW0_W19).cell 5
    go_upto_region 10 with fail
    rw [← HW19.out]
    go_wp2_with fail
    have yw_W18 : Below w.heap.size w W18 := yw_W14.trans (z18.mono yw_W14.size)
    have yw_W19 : Below w.heap.size w W19 := yw_W18.trans (z19.mono yw_W18.size)
    refine (toFormula_any _ _ _ _ _ _ x1_0 _ _ _ x1_1 _ _ _ x1_2 _ (h1_0.below yw_W19) p1_0 HR1_0.out (h1_1.below yw_W19) p1_1 HR1_1.out (h1_2.below yw_W19) p1_2).mono ?_
    rintro e W26 ⟨B26_0, us26_0, B26_1, us26_1, B26_2, rfl, o26_0, hn26_0, o26_1, hn26_1, o26_2, z26⟩
    have HN26_0 := Lib.hid hn26_0; clear hn26_0; have HN26_1 := Lib.hid hn26_1; clear hn26_1
    clear uc20 uc21 uc22 uc23 uc24 uc25
    obtain ⟨W27, hW27⟩ : ∃ W, W = W26.alloc (.cells #[.int .i64 d1_0, .int .i64 d1_1, .int .i64 d1_2, .slice B26_0 n1_0 n1_0, .slice B26_1 n1_1 n1_1, .slice B26_2 n1_2 n1_2] 31) := ⟨_, rfl⟩
    have cb1 : Blk W27 W26.heap.size 31 #[.int .i64 d1_0, .int .i64 d1_1, .int .i64 d1_2, .slice B26_0 n1_0 n1_0, .slice B26_1 n1_1 n1_1, .slice B26_2 n1_2 n1_2] := by rw [hW27]; exact Blk.new W26 _ _
    have z27 : Below W26.heap.size W26 W27 := by rw [hW27]; exact (Below.refl _ _).alloc (Nat.le_refl _) _
    have HW27 := Lib.hid hW27
    clear hW27
    have yW19_W27 : Below W19.heap.size W19 W27 := z26.trans (z27.mono z26.size)
    have uc28 : W27.cell? ⟨W18.heap.size, 0, none⟩ = some (.int .i64 sy0) := (cb0.below' yW19_W27).cell 0
    have uc29 : W27.cell? ⟨W18.heap.size, 1, none⟩ = some (.int .i64 st0) := (cb0.below' yW19_W27).cell 1
    have uc30 : W27.cell? ⟨W18.heap.size, 2, none⟩ = some (.slice B18 n0 n0) := (cb0.below' yW19_W27).cell 2
    have uc31 : W27.cell? ⟨W26.heap.size, 0, none⟩ = some (.int .i64 d1_0) := cb1.cell 0
    have uc32 : W27.cell? ⟨W26.heap.size, 1, none⟩ = some (.int .i64 d1_1) := cb1.cell 1
    have uc33 : W27.cell? ⟨W26.heap.size, 2, none⟩ = some (.int .i64 d1_2) := cb1.cell 2
    have uc34 : W27.cell? ⟨W26.heap.size, 3, none⟩ = some (.slice B26_0 n1_0 n1_0) := cb1.cell 3
    have uc35 : W27.cell? ⟨W26.heap.size, 4, none⟩ = some (.slice B26_1 n1_1 n1_1) := cb1.cell 4
    have uc36 : W27.cell? ⟨W26.heap.size, 5, none⟩ = some (.slice B26_2 n1_2 n1_2) := cb1.cell 5
    go_upto_region 11 with fail
    rw [← HW27.out]
    go_wp2_with fail
    have yW18_W26 : Below W18.heap.size W18 W26 := z19.trans (z26.mono z19.size)
    have yW18_W27 : Below W18.heap.size W18 W27 := yW18_W26.trans (z27.mono yW18_W26.size)
    refine (runFormulaI_any _ _ _ _ _ rs0 _ _ _ _ _ _ us26_0 _ _ _ us26_1 _ _ _ x1_2 _ _ (o18.below yW18_W27).as3 (o26_0.below z27).sii (o26_1.below z27).sii (o26_2.below z27).asI p0 p1_0 p1_1 p1_2 (rows_le HN26_0.out HR1_0.out) (rows_le HN26_1.out HR1_1.out)).mono ?_
    rw [HN26_0.out, HN26_1.out, ← HRES.out]
    rintro e W37 ⟨A37r, c37r, ts37r, B37r, d37r, us37r, C37r, k37r, rfl, oF37, z37⟩
    clear uc28 uc29 uc30 uc31 uc32 uc33 uc34 uc35 uc36
    obtain ⟨W38, hW38⟩ : ∃ W, W = W37.alloc (.cells #[.int .i64 res.1.q, .int .i64 res.1.h, .int .i64 res.1.a, .slice A37r ts37r.length c37r, .slice B37r us37r.length d37r, .slice C37r res.1.O.length k37r] 31) := ⟨_, rfl⟩
    have ib : Blk W38 W37.heap.size 31 #[.int .i64 res.1.q, .int .i64 res.1.h, .int .i64 res.1.a, .slice A37r ts37r.length c37r, .slice B37r us37r.length d37r, .slice C37r res.1.O.length k37r] := by rw [hW38]; exact Blk.new W37 _ _
    have z38 : Below W37.heap.size W37 W38 := by rw [hW38]; exact (Below.refl _ _).alloc (Nat.le_refl _) _
    have HW38 := Lib.hid hW38
    clear hW38
    go_upto_region 12 with fail
    rw [← HW38.out]
    have uc39 : W38.cell? ⟨W37.heap.size, 0, none⟩ = some (.int .i64 res.1.q) := ib.cell 0
    have uc40 : W38.cell? ⟨W37.heap.size, 1, none⟩ = some (.int .i64 res.1.h) := ib.cell 1
    have uc41 : W38.cell? ⟨W37.heap.size, 2, none⟩ = some (.int .i64 res.1.a) := ib.cell 2
    have uc42 : W38.cell? ⟨W37.heap.size, 3, none⟩ = some (.slice A37r ts37r.length c37r) := ib.cell 3
    have uc43 : W38.cell? ⟨W37.heap.size, 4, none⟩ = some (.slice B37r us37r.length d37r) := ib.cell 4
    have uc44 : W38.cell? ⟨W37.heap.size, 5, none⟩ = some (.slice C37r res.1.O.length k37r) := ib.cell 5
    have yW14_W19 : Below W14.heap.size W14 W19 := z18.trans (z19.mono z18.size)
    have yW14_W26 : Below W14.heap.size W14 W26 := yW14_W19.trans (z26.mono yW14_W19.size)
    have yW14_W27 : Below W14.heap.size W14 W27 := yW14_W26.trans (z27.mono yW14_W26.size)
    have yW14_W37 : Below W14.heap.size W14 W37 := yW14_W27.trans (z37.mono yW14_W27.size)
    have yW14_W38 : Below W14.heap.size W14 W38 := yW14_W37.trans (z38.mono yW14_W37.size)
    have uc45 : W38.cell? ⟨g14, 0, none⟩ = some (.int .i64 res.1.q) := (bx14.below' yW14_W38).cell 0
    have uc46 : W38.cell? ⟨g14, 1, none⟩ = some (.int .i64 res.1.h) := (bx14.below' yW14_W38).cell 1
    have uc47 : W38.cell? ⟨g14, 2, none⟩ = some (.int .i64 res.1.a) := (bx14.below' yW14_W38).cell 2
    have uc48 : W38.cell? ⟨g14, 3, none⟩ = some (.slice A14r ts14r.length c14r) := (bx14.below' yW14_W38).cell 3
    have uc49 : W38.cell? ⟨g14, 4, none⟩ = some (.slice B14r us14r.length d14r) := (bx14.below' yW14_W38).cell 4
    have uc50 : W38.cell? ⟨g14, 5, none⟩ = some (.slice C14r res.1.O.length k14r) := (bx14.below' yW14_W38).cell 5
    go_wp2_with fail
    refine (eqFormula_r (oF37.below z38) (oF14.below yW14_W38) LX0.out).mono ?_
    rintro e W51 ⟨rfl, z51⟩
    skip
    clear uc39 uc40 uc41 uc42 uc43 uc44 uc45 uc46 uc47 uc48 uc49 uc50
    have yW19_W37 : Below W19.heap.size W19 W37 := yW19_W27.trans (z37.mono yW19_W27.size)
    have yW19_W38 : Below W19.heap.size W19 W38 := yW19_W37.trans (z38.mono yW19_W37.size)
    have yW19_W51 : Below W19.heap.size W19 W51 := yW19_W38.trans (z51.mono yW19_W38.size)
    have uc52 : W51.cell? ⟨W18.heap.size, 0, none⟩ = some (.int .i64 sy0) := (cb0.below' yW19_W51).cell 0
    have uc53 : W51.cell? ⟨W18.heap.size, 1, none⟩ = some (.int .i64 st0) := (cb0.below' yW19_W51).cell 1
    have uc54 : W51.cell? ⟨W18.heap.size, 2, none⟩ = some (.slice B18 n0 n0) := (cb0.below' yW19_W51).cell 2
    have yW0_W26 : Below W0.heap.size W0 W26 := yW0_W19.trans (z26.mono yW0_W19.size)
    have yW0_W27 : Below W0.heap.size W0 W27 := yW0_W26.trans (z27.mono yW0_W26.size)
    have yW0_W37 : Below W0.heap.size W0 W37 := yW0_W27.trans (z37.mono yW0_W27.size)
    have yW0_W38 : Below W0.heap.size W0 W38 := yW0_W37.trans (z38.mono yW0_W37.size)
    have yW0_W51 : Below W0.heap.size W0 W51 := yW0_W38.trans (z51.mono yW0_W38.size)
    have uc55 : W51.cell? ⟨w.heap.size, 0, none⟩ = some (.int .i64 sy0) := (bb0.below' yW0_W51).cell 0
    have uc56 : W51.cell? ⟨w.heap.size, 1, none⟩ = some (.int .i64 st0) := (bb0.below' yW0_W51).cell 1
    have uc57 : W51.cell? ⟨w.heap.size, 2, none⟩ = some (.slice A0 n0 k0) := (bb0.below' yW0_W51).cell 2
    have yw_W26 : Below w.heap.size w W26 := yw_W19.trans (z26.mono yw_W19.size)
    have yw_W27 : Below w.heap.size w W27 := yw_W26.trans (z27.mono yw_W26.size)
    have yw_W37 : Below w.heap.size w W37 := yw_W27.trans (z37.mono yw_W27.size)
    have yw_W38 : Below w.heap.size w W38 := yw_W37.trans (z38.mono yw_W37.size)
    have yw_W51 : Below w.heap.size w W51 := yw_W38.trans (z51.mono yw_W38.size)
    have yW18_W37 : Below W18.heap.size W18 W37 := yW18_W27.trans (z37.mono yW18_W27.size)
    have yW18_W38 : Below W18.heap.size W18 W38 := yW18_W37.trans (z38.mono yW18_W37.size)
    have yW18_W51 : Below W18.heap.size W18 W51 := yW18_W38.trans (z51.mono yW18_W38.size)
    go_wp2_with fail
    go_region_held3 (fun w' => w'.cell? ⟨W18.heap.size, 0, none⟩ = some (.int .i64 sy0) ∧ w'.cell? ⟨W18.heap.size, 1, none⟩ = some (.int .i64 st0) ∧ w'.cell? ⟨W18.heap.size, 2, none⟩ = some (.slice B18 n0 n0) ∧ w'.cell? ⟨w.heap.size, 0, none⟩ = some (.int .i64 sy0) ∧ w'.cell? ⟨w.heap.size, 1, none⟩ = some (.int .i64 st0) ∧ w'.cell? ⟨w.heap.size, 2, none⟩ = some (.slice A0 n0 k0))
      (first
        | (go_keep; done)
        | (exact ⟨((cb0.below' yW19_W51).below' zz59).cell 0, ((cb0.below' yW19_W51).below' zz59).cell 1, ((cb0.below' yW19_W51).below' zz59).cell 2, ((bb0.below' yW0_W51).below' zz59).cell 0, ((bb0.below' yW0_W51).below' zz59).cell 1, ((bb0.below' yW0_W51).below' zz59).cell 2⟩)
        | (exact ⟨((cb0.below' yW19_W51).below' zz58).cell 0, ((cb0.below' yW19_W51).below' zz58).cell 1, ((cb0.below' yW19_W51).below' zz58).cell 2, ((bb0.below' yW0_W51).below' zz58).cell 0, ((bb0.below' yW0_W51).below' zz58).cell 1, ((bb0.below' yW0_W51).below' zz58).cell 2⟩))
      (first
        | (go_at_call 14; refine (toMachine_any _ _ _ _ _ rs0 _ ((hr0.below yw_W51).drewN 1) p0).mono ?_; rintro e W58 ⟨B58, rfl, o58, z58⟩; have zz58 : Below W51.heap.size W51 W58 := below_undrew z58)
        | (go_at_call 18; refine (eqMachine_any _ _ _ _ _ rs0 _ _ _ _ _ rs0 _ ((o18.below yW18_W51).below zz58).rd o58.rd p0).mono ?_; rintro e W59 ⟨rfl, z59⟩; have zz59 : Below W51.heap.size W51 W59 := zz58.trans (z59.mono zz58.size)))
    rw [sameMachineB_self]
    clear uc52 uc53 uc54 uc55 uc56 uc57
    clear o58 z58 zz58 z59
    have yW27_W38 : Below W27.heap.size W27 W38 := z37.trans (z38.mono z37.size)
    have yW27_W51 : Below W27.heap.size W27 W51 := yW27_W38.trans (z51.mono yW27_W38.size)
    have yW27_W59 : Below W27.heap.size W27 W59 := yW27_W51.trans (zz59.mono yW27_W51.size)
    have uc60 : W59.cell? ⟨W26.heap.size, 0, none⟩ = some (.int .i64 d1_0) := (cb1.below' yW27_W59).cell 0
    have uc61 : W59.cell? ⟨W26.heap.size, 1, none⟩ = some (.int .i64 d1_1) := (cb1.below' yW27_W59).cell 1
    have uc62 : W59.cell? ⟨W26.heap.size, 2, none⟩ = some (.int .i64 d1_2) := (cb1.below' yW27_W59).cell 2
    have uc63 : W59.cell? ⟨W26.heap.size, 3, none⟩ = some (.slice B26_0 n1_0 n1_0) := (cb1.below' yW27_W59).cell 3
    have uc64 : W59.cell? ⟨W26.heap.size, 4, none⟩ = some (.slice B26_1 n1_1 n1_1) := (cb1.below' yW27_W59).cell 4
    have uc65 : W59.cell? ⟨W26.heap.size, 5, none⟩ = some (.slice B26_2 n1_2 n1_2) := (cb1.below' yW27_W59).cell 5
    have yW0_W59 : Below W0.heap.size W0 W59 := yW0_W51.trans (zz59.mono yW0_W51.size)
    have uc66 : W59.cell? ⟨(w.heap.size + 1), 0, none⟩ = some (.int .i64 d1_0) := (bb1.below' yW0_W59).cell 0
    have uc67 : W59.cell? ⟨(w.heap.size + 1), 1, none⟩ = some (.int .i64 d1_1) := (bb1.below' yW0_W59).cell 1
    have uc68 : W59.cell? ⟨(w.heap.size + 1), 2, none⟩ = some (.int .i64 d1_2) := (bb1.below' yW0_W59).cell 2
    have uc69 : W59.cell? ⟨(w.heap.size + 1), 3, none⟩ = some (.slice A1_0 n1_0 c1_0) := (bb1.below' yW0_W59).cell 3
    have uc70 : W59.cell? ⟨(w.heap.size + 1), 4, none⟩ = some (.slice A1_1 n1_1 c1_1) := (bb1.below' yW0_W59).cell 4
    have uc71 : W59.cell? ⟨(w.heap.size + 1), 5, none⟩ = some (.slice A1_2 n1_2 c1_2) := (bb1.below' yW0_W59).cell 5
    have yw_W59 : Below w.heap.size w W59 := yw_W51.trans (zz59.mono yw_W51.size)
    have yW26_W37 : Below W26.heap.size W26 W37 := z27.trans (z37.mono z27.size)
    have yW26_W38 : Below W26.heap.size W26 W38 := yW26_W37.trans (z38.mono yW26_W37.size)
    have yW26_W51 : Below W26.heap.size W26 W51 := yW26_W38.trans (z51.mono yW26_W38.size)
    have yW26_W59 : Below W26.heap.size W26 W59 := yW26_W51.trans (zz59.mono yW26_W51.size)
    go_wp2_with fail
    go_region_held3 (fun w' => w'.cell? ⟨W26.heap.size, 0, none⟩ = some (.int .i64 d1_0) ∧ w'.cell? ⟨W26.heap.size, 1, none⟩ = some (.int .i64 d1_1) ∧ w'.cell? ⟨W26.heap.size, 2, none⟩ = some (.int .i64 d1_2) ∧ w'.cell? ⟨W26.heap.size, 3, none⟩ = some (.slice B26_0 n1_0 n1_0) ∧ w'.cell? ⟨W26.heap.size, 4, none⟩ = some (.slice B26_1 n1_1 n1_1) ∧ w'.cell? ⟨W26.heap.size, 5, none⟩ = some (.slice B26_2 n1_2 n1_2) ∧ w'.cell? ⟨(w.heap.size + 1), 0, none⟩ = some (.int .i64 d1_0) ∧ w'.cell? ⟨(w.heap.size + 1), 1, none⟩ = some (.int .i64 d1_1) ∧ w'.cell? ⟨(w.heap.size + 1), 2, none⟩ = some (.int .i64 d1_2) ∧ w'.cell? ⟨(w.heap.size + 1), 3, none⟩ = some (.slice A1_0 n1_0 c1_0) ∧ w'.cell? ⟨(w.heap.size + 1), 4, none⟩ = some (.slice A1_1 n1_1 c1_1) ∧ w'.cell? ⟨(w.heap.size + 1), 5, none⟩ = some (.slice A1_2 n1_2 c1_2))
      (first
        | (go_keep; done)
        | (exact ⟨((cb1.below' yW27_W59).below' zz73).cell 0, ((cb1.below' yW27_W59).below' zz73).cell 1, ((cb1.below' yW27_W59).below' zz73).cell 2, ((cb1.below' yW27_W59).below' zz73).cell 3, ((cb1.below' yW27_W59).below' zz73).cell 4, ((cb1.below' yW27_W59).below' zz73).cell 5, ((bb1.below' yW0_W59).below' zz73).cell 0, ((bb1.below' yW0_W59).below' zz73).cell 1, ((bb1.below' yW0_W59).below' zz73).cell 2, ((bb1.below' yW0_W59).below' zz73).cell 3, ((bb1.below' yW0_W59).below' zz73).cell 4, ((bb1.below' yW0_W59).below' zz73).cell 5⟩)
        | (exact ⟨((cb1.below' yW27_W59).below' zz72).cell 0, ((cb1.below' yW27_W59).below' zz72).cell 1, ((cb1.below' yW27_W59).below' zz72).cell 2, ((cb1.below' yW27_W59).below' zz72).cell 3, ((cb1.below' yW27_W59).below' zz72).cell 4, ((cb1.below' yW27_W59).below' zz72).cell 5, ((bb1.below' yW0_W59).below' zz72).cell 0, ((bb1.below' yW0_W59).below' zz72).cell 1, ((bb1.below' yW0_W59).below' zz72).cell 2, ((bb1.below' yW0_W59).below' zz72).cell 3, ((bb1.below' yW0_W59).below' zz72).cell 4, ((bb1.below' yW0_W59).below' zz72).cell 5⟩))
      (first
        | (go_at_call 15; refine (toFormula_any _ _ _ _ _ _ x1_0 _ _ _ x1_1 _ _ _ x1_2 _ ((h1_0.below yw_W59).drewN 1) p1_0 HR1_0.out ((h1_1.below yw_W59).drewN 1) p1_1 HR1_1.out ((h1_2.below yw_W59).drewN 1) p1_2).mono ?_; rintro e W72 ⟨B72_0, us72_0, B72_1, us72_1, B72_2, rfl, o72_0, hn72_0, o72_1, hn72_1, o72_2, z72⟩; have zz72 : Below W59.heap.size W59 W72 := below_undrew z72; have HN72_0 := Lib.hid hn72_0; clear hn72_0; have HN72_1 := Lib.hid hn72_1; clear hn72_1)
        | (go_at_call 17; refine (eqFormula_any _ _ _ _ _ _ us26_0 _ _ _ us26_1 _ _ _ x1_2 _ _ _ _ _ _ us72_0 _ _ _ us72_1 _ _ _ x1_2 _ ((o26_0.below yW26_W59).below zz72).sii o72_0.sii p1_0 (rows_le HN26_0.out HR1_0.out) ((o26_1.below yW26_W59).below zz72).sii o72_1.sii p1_1 (rows_le HN26_1.out HR1_1.out) ((o26_2.below yW26_W59).below zz72).asI o72_2.asI p1_2).mono ?_; rintro e W73 ⟨rfl, z73⟩; have zz73 : Below W59.heap.size W59 W73 := zz72.trans (z73.mono zz72.size)))
    rw [HN26_0.out, HN72_0.out, HN26_1.out, HN72_1.out, sameFormulaB_self]
    clear uc60 uc61 uc62 uc63 uc64 uc65 uc66 uc67 uc68 uc69 uc70 uc71
    clear o72_0 o72_1 o72_2 z72 zz72 z73
    have TM0 : Hid (229 ∈ [229, 2]) := Lib.hid (by decide)
    have TI0 : Hid (2 ∈ [229, 2]) := Lib.hid (by decide)
    have TN_Machine : Hid (36 ∉ [229, 2]) := Lib.hid (by decide)
    have TL_Machine : Hid (24 ∉ [229, 2]) := Lib.hid (by decide)
    have TN_SS : Hid (26 ∉ [229, 2]) := Lib.hid (by decide)
    have TN_Formula : Hid (31 ∉ [229, 2]) := Lib.hid (by decide)
    have TL_Formula : Hid (28 ∉ [229, 2]) := Lib.hid (by decide)
    have hs_W1 : W0.heap.size ≤ W1.heap.size := z1.size
    have hs_W8 : W1.heap.size ≤ W8.heap.size := z8.size
    have hs_W14 : W8.heap.size ≤ W14.heap.size := z14.size
    have hs_W18 : W14.heap.size ≤ W18.heap.size := z18.size
    have hs_W19 : W18.heap.size ≤ W19.heap.size := z19.size
    have hs_W26 : W19.heap.size ≤ W26.heap.size := z26.size
    have hs_W27 : W26.heap.size ≤ W27.heap.size := z27.size
    have hs_W37 : W27.heap.size ≤ W37.heap.size := z37.size
    have hs_W38 : W37.heap.size ≤ W38.heap.size := z38.size
    have hs_W51 : W38.heap.size ≤ W51.heap.size := z51.size
    have hs_W59 : W51.heap.size ≤ W59.heap.size := zz59.size
    have hs_W73 : W59.heap.size ≤ W73.heap.size := zz73.size
    have yW18_W59 : Below W18.heap.size W18 W59 := yW18_W51.trans (zz59.mono yW18_W51.size)
    have yW18_W73 : Below W18.heap.size W18 W73 := yW18_W59.trans (zz73.mono yW18_W59.size)
    have m0 : Mk W73 W14.heap.size W27.heap.size 229 3 B18 n0 := (((o18.below yW18_W73)).mono (by omega)).mk (fun b hb => by have := o18.blk_lt b hb; omega)
    have yW26_W73 : Below W26.heap.size W26 W73 := yW26_W59.trans (zz73.mono yW26_W59.size)
    have m1_0 : MkII W73 W14.heap.size W27.heap.size 26 2 B26_0 n1_0 n1_0 us26_0 := by
      have h1 := (o26_0.below yW26_W73)
      exact ⟨h1.1.mono (by omega), fun t ht => ((h1.2.1 t ht).mono (by omega)).mk (fun b hb => by have := (o26_0.2.1 t ht).blk_lt b hb; omega)⟩
    have pu1_0 : total us26_0 ≤ 1048576 := by rw [total_same HN26_0.out]; exact pt1_0
    have m1_1 : MkII W73 W14.heap.size W27.heap.size 26 2 B26_1 n1_1 n1_1 us26_1 := by
      have h1 := (o26_1.below yW26_W73)
      exact ⟨h1.1.mono (by omega), fun t ht => ((h1.2.1 t ht).mono (by omega)).mk (fun b hb => by have := (o26_1.2.1 t ht).blk_lt b hb; omega)⟩
    have pu1_1 : total us26_1 ≤ 1048576 := by rw [total_same HN26_1.out]; exact pt1_1
    have m1_2 : Mk W73 W14.heap.size W27.heap.size 2 1 B26_2 n1_2 := (((o26_2.below yW26_W73)).mono (by omega)).mk (fun b hb => by have := o26_2.blk_lt b hb; omega)
    have yW0_W73 : Below W0.heap.size W0 W73 := yW0_W59.trans (zz73.mono yW0_W59.size)
    have yW19_W59 : Below W19.heap.size W19 W59 := yW19_W51.trans (zz59.mono yW19_W51.size)
    have yW19_W73 : Below W19.heap.size W19 W73 := yW19_W59.trans (zz73.mono yW19_W59.size)
    have yW27_W73 : Below W27.heap.size W27 W73 := yW27_W59.trans (zz73.mono yW27_W59.size)
    have yw_W73 : Below w.heap.size w W73 := yw_W59.trans (zz73.mono yw_W59.size)
    have yW37_W51 : Below W37.heap.size W37 W51 := z38.trans (z51.mono z38.size)
    have yW37_W59 : Below W37.heap.size W37 W59 := yW37_W51.trans (zz59.mono yW37_W51.size)
    have yW37_W73 : Below W37.heap.size W37 W73 := yW37_W59.trans (zz73.mono yW37_W59.size)
    have yW14_W51 : Below W14.heap.size W14 W51 := yW14_W38.trans (z51.mono yW14_W38.size)
    have yW14_W59 : Below W14.heap.size W14 W59 := yW14_W51.trans (zz59.mono yW14_W51.size)
    have yW14_W73 : Below W14.heap.size W14 W73 := yW14_W59.trans (zz73.mono yW14_W59.size)
    have io0 := (oF37.below yW37_W73)
    have so0 := (oF14.below yW14_W73)
    have yW38_W59 : Below W38.heap.size W38 W59 := z51.trans (zz59.mono z51.size)
    have yW38_W73 : Below W38.heap.size W38 W73 := yW38_W59.trans (zz73.mono yW38_W59.size)
    have ibm := (ib.below' yW38_W73)
    have sbm := (bx14.below' yW14_W73)
    have bm0 := (bb0.below' yW0_W73)
    have cm0 := (cb0.below' yW19_W73)
    have bm1 := (bb1.below' yW0_W73)
    have cm1 := (cb1.below' yW27_W73)
    have cq0 := cm0
    have uc74 : W73.cell? ⟨W18.heap.size, 0, none⟩ = some (.int .i64 sy0) := cq0.cell 0
    have uc75 : W73.cell? ⟨W18.heap.size, 1, none⟩ = some (.int .i64 st0) := cq0.cell 1
    have uc76 : W73.cell? ⟨W18.heap.size, 2, none⟩ = some (.slice B18 n0 n0) := cq0.cell 2
    go_wp2_with fail
    refine (markMachine_m [229, 2] _ _ _ _ _ _ _ W14.heap.size W27.heap.size m0 p0 TM0.out TN_Machine.out (by omega) (by omega)).mono ?_
    rintro e W77 ⟨rfl, f77⟩
    clear uc74 uc75 uc76
    have cq1 := cm1.mkf f77 TN_Formula.out
    have uc78 : W77.cell? ⟨W26.heap.size, 0, none⟩ = some (.int .i64 d1_0) := cq1.cell 0
    have uc79 : W77.cell? ⟨W26.heap.size, 1, none⟩ = some (.int .i64 d1_1) := cq1.cell 1
    have uc80 : W77.cell? ⟨W26.heap.size, 2, none⟩ = some (.int .i64 d1_2) := cq1.cell 2
    have uc81 : W77.cell? ⟨W26.heap.size, 3, none⟩ = some (.slice B26_0 n1_0 n1_0) := cq1.cell 3
    have uc82 : W77.cell? ⟨W26.heap.size, 4, none⟩ = some (.slice B26_1 n1_1 n1_1) := cq1.cell 4
    have uc83 : W77.cell? ⟨W26.heap.size, 5, none⟩ = some (.slice B26_2 n1_2 n1_2) := cq1.cell 5
    go_wp2_with fail
    refine (markFormula_m [229, 2] _ _ _ _ _ _ us26_0 _ _ _ us26_1 _ _ _ _ _ W14.heap.size W27.heap.size (m1_0.mkf f77 TN_SS.out) p1_0 pu1_0 (m1_1.mkf f77 TN_SS.out) p1_1 pu1_1 (m1_2.mkf f77) p1_2 TI0.out TN_SS.out TN_Formula.out (by omega) (by omega)).mono ?_
    rintro e W84 ⟨rfl, f84⟩
    clear uc78 uc79 uc80 uc81 uc82 uc83
    have ff84 := f77.trans f84
    have io0 := io0.mkf_far ff84 (fun b hb => .inr hb)
    have so0 := FmR.mkf_below oF14 (Nat.le_refl _) so0 ff84
    have ibm := ibm.mkf ff84 TN_Formula.out
    have sbm := sbm.mkf ff84 TN_Formula.out
    have bm0 := bm0.mkf ff84 TL_Machine.out
    have bm1 := bm1.mkf ff84 TL_Formula.out
    have yM : Below w.heap.size w W84 := yw_W73.trans (ff84.below yw_W14.size yw_W73.size)
    have hs_W84 : W73.heap.size ≤ W84.heap.size := ff84.size
    clear ff84
    have uc85 : W84.cell? ⟨W37.heap.size, 0, none⟩ = some (.int .i64 res.1.q) := ibm.cell 0
    have uc86 : W84.cell? ⟨W37.heap.size, 1, none⟩ = some (.int .i64 res.1.h) := ibm.cell 1
    have uc87 : W84.cell? ⟨W37.heap.size, 2, none⟩ = some (.int .i64 res.1.a) := ibm.cell 2
    have uc88 : W84.cell? ⟨W37.heap.size, 3, none⟩ = some (.slice A37r ts37r.length c37r) := ibm.cell 3
    have uc89 : W84.cell? ⟨W37.heap.size, 4, none⟩ = some (.slice B37r us37r.length d37r) := ibm.cell 4
    have uc90 : W84.cell? ⟨W37.heap.size, 5, none⟩ = some (.slice C37r res.1.O.length k37r) := ibm.cell 5
    have uc91 : W84.cell? ⟨g14, 0, none⟩ = some (.int .i64 res.1.q) := sbm.cell 0
    have uc92 : W84.cell? ⟨g14, 1, none⟩ = some (.int .i64 res.1.h) := sbm.cell 1
    have uc93 : W84.cell? ⟨g14, 2, none⟩ = some (.int .i64 res.1.a) := sbm.cell 2
    have uc94 : W84.cell? ⟨g14, 3, none⟩ = some (.slice A14r ts14r.length c14r) := sbm.cell 3
    have uc95 : W84.cell? ⟨g14, 4, none⟩ = some (.slice B14r us14r.length d14r) := sbm.cell 4
    have uc96 : W84.cell? ⟨g14, 5, none⟩ = some (.slice C14r res.1.O.length k14r) := sbm.cell 5
    have gneg : ¬ ((1 : Int) + ((n0 * 3 : Nat) : Int) + ((total us26_0 + total us26_1 + n1_2 : Nat) : Int) < 0) := by omega
    go_wp2_with fail
    refine (eqFormula_r io0 so0 LX0.out).mono ?_
    rintro e W97 ⟨rfl, z97⟩
    skip
    clear uc85 uc86 uc87 uc88 uc89 uc90 uc91 uc92 uc93 uc94 uc95 uc96
    clear gneg
    have hs_W97 : W84.heap.size ≤ W97.heap.size := z97.size
    have uc98 : W97.cell? ⟨W37.heap.size, 0, none⟩ = some (.int .i64 res.1.q) := (ibm.below' z97).cell 0
    have uc99 : W97.cell? ⟨W37.heap.size, 1, none⟩ = some (.int .i64 res.1.h) := (ibm.below' z97).cell 1
    have uc100 : W97.cell? ⟨W37.heap.size, 2, none⟩ = some (.int .i64 res.1.a) := (ibm.below' z97).cell 2
    have uc101 : W97.cell? ⟨W37.heap.size, 3, none⟩ = some (.slice A37r ts37r.length c37r) := (ibm.below' z97).cell 3
    have uc102 : W97.cell? ⟨W37.heap.size, 4, none⟩ = some (.slice B37r us37r.length d37r) := (ibm.below' z97).cell 4
    have uc103 : W97.cell? ⟨W37.heap.size, 5, none⟩ = some (.slice C37r res.1.O.length k37r) := (ibm.below' z97).cell 5
    go_wp2_with fail
    refine (markFormula_r (hi := W37.heap.size) (io0.below z97) LX0.out (fun b hb => (oF37.blk_ge b hb).2) (by omega)).mono ?_
    rintro e W104 ⟨rfl, eF, t104⟩
    clear uc98 uc99 uc100 uc101 uc102 uc103
    have so0 := FmR.touch_below oF14 (by omega) (so0.below z97) t104
    have bm0 := (bm0.below' z97).touch t104 (.inl (by have := bb0.lt; omega))
    have bm1 := (bm1.below' z97).touch t104 (.inl (by have := bb1.lt; omega))
    have ibm := (ibm.below' z97).touch t104 (.inr (Nat.le_refl _))
    have sbm := (sbm.below' z97).touch t104 (.inl (by have := bx14.lt; omega))
    have yw_W97 : Below w.heap.size w W97 := yM.trans (z97.mono yM.size)
    have hlow : w.heap.size ≤ W27.heap.size := by have := yw_W14.size; omega
    have yN : Below w.heap.size w W104 := yw_W97.trans (t104.below hlow yw_W97.size)
    have hs_W104 : W97.heap.size ≤ W104.heap.size := t104.size
    clear t104
    have uc105 : W104.cell? ⟨W37.heap.size, 0, none⟩ = some (.int .i64 res.1.q) := ibm.cell 0
    have uc106 : W104.cell? ⟨W37.heap.size, 1, none⟩ = some (.int .i64 res.1.h) := ibm.cell 1
    have uc107 : W104.cell? ⟨W37.heap.size, 2, none⟩ = some (.int .i64 res.1.a) := ibm.cell 2
    have uc108 : W104.cell? ⟨W37.heap.size, 3, none⟩ = some (.slice A37r ts37r.length c37r) := ibm.cell 3
    have uc109 : W104.cell? ⟨W37.heap.size, 4, none⟩ = some (.slice B37r us37r.length d37r) := ibm.cell 4
    have uc110 : W104.cell? ⟨W37.heap.size, 5, none⟩ = some (.slice C37r res.1.O.length k37r) := ibm.cell 5
    go_wp2_with fail
    refine (heldFormula_r eF).mono ?_
    rintro e W111 ⟨rfl, z111⟩
    clear uc105 uc106 uc107 uc108 uc109 uc110
    have gneg : ¬ ((1 : Int) + (fmTot res.1 : Int) < 0) := by omega
    have uc112 : W111.cell? ⟨w.heap.size, 0, none⟩ = some (.int .i64 sy0) := (bm0.below' z111).cell 0
    have uc113 : W111.cell? ⟨w.heap.size, 1, none⟩ = some (.int .i64 st0) := (bm0.below' z111).cell 1
    have uc114 : W111.cell? ⟨w.heap.size, 2, none⟩ = some (.slice A0 n0 k0) := (bm0.below' z111).cell 2
    have uc115 : W111.cell? ⟨(w.heap.size + 1), 0, none⟩ = some (.int .i64 d1_0) := (bm1.below' z111).cell 0
    have uc116 : W111.cell? ⟨(w.heap.size + 1), 1, none⟩ = some (.int .i64 d1_1) := (bm1.below' z111).cell 1
    have uc117 : W111.cell? ⟨(w.heap.size + 1), 2, none⟩ = some (.int .i64 d1_2) := (bm1.below' z111).cell 2
    have uc118 : W111.cell? ⟨(w.heap.size + 1), 3, none⟩ = some (.slice A1_0 n1_0 c1_0) := (bm1.below' z111).cell 3
    have uc119 : W111.cell? ⟨(w.heap.size + 1), 4, none⟩ = some (.slice A1_1 n1_1 c1_1) := (bm1.below' z111).cell 4
    have uc120 : W111.cell? ⟨(w.heap.size + 1), 5, none⟩ = some (.slice A1_2 n1_2 c1_2) := (bm1.below' z111).cell 5
    clear uc112 uc113 uc114 uc115 uc116 uc117 uc118 uc119 uc120
    have yw_W111 : Below w.heap.size w W111 := yN.trans (z111.mono yN.size)
    have KEEPB : Hid (∀ cur, Below W111.heap.size W111 cur → cur.cell? ⟨w.heap.size, 0, none⟩ = some (.int .i64 sy0) ∧ cur.cell? ⟨w.heap.size, 1, none⟩ = some (.int .i64 st0) ∧ cur.cell? ⟨w.heap.size, 2, none⟩ = some (.slice A0 n0 k0) ∧ cur.cell? ⟨(w.heap.size + 1), 0, none⟩ = some (.int .i64 d1_0) ∧ cur.cell? ⟨(w.heap.size + 1), 1, none⟩ = some (.int .i64 d1_1) ∧ cur.cell? ⟨(w.heap.size + 1), 2, none⟩ = some (.int .i64 d1_2) ∧ cur.cell? ⟨(w.heap.size + 1), 3, none⟩ = some (.slice A1_0 n1_0 c1_0) ∧ cur.cell? ⟨(w.heap.size + 1), 4, none⟩ = some (.slice A1_1 n1_1 c1_1) ∧ cur.cell? ⟨(w.heap.size + 1), 5, none⟩ = some (.slice A1_2 n1_2 c1_2)) := Lib.hid (fun cur h =>
      ⟨((bm0.below' z111).below' h).cell 0, ((bm0.below' z111).below' h).cell 1, ((bm0.below' z111).below' h).cell 2, ((bm1.below' z111).below' h).cell 0, ((bm1.below' z111).below' h).cell 1, ((bm1.below' z111).below' h).cell 2, ((bm1.below' z111).below' h).cell 3, ((bm1.below' z111).below' h).cell 4, ((bm1.below' z111).below' h).cell 5⟩)
    have YBB := Lib.hid yw_W111
    go_upto_region 31 with fail
    go_cut [17, 18] (fun s17 s18 wx => FormBox W111.heap.size W111 s17 s18 res wx)
    case first =>
      have hp : Below W111.heap.size W111 W111.drew := below_drewN (Below.refl _ _) 1
      refine wp_region_noPanic ?_
      refine wp_region_held_drew (S := (fun w' => w'.cell? ⟨w.heap.size, 0, none⟩ = some (.int .i64 sy0) ∧ w'.cell? ⟨w.heap.size, 1, none⟩ = some (.int .i64 st0) ∧ w'.cell? ⟨w.heap.size, 2, none⟩ = some (.slice A0 n0 k0) ∧ w'.cell? ⟨(w.heap.size + 1), 0, none⟩ = some (.int .i64 d1_0) ∧ w'.cell? ⟨(w.heap.size + 1), 1, none⟩ = some (.int .i64 d1_1) ∧ w'.cell? ⟨(w.heap.size + 1), 2, none⟩ = some (.int .i64 d1_2) ∧ w'.cell? ⟨(w.heap.size + 1), 3, none⟩ = some (.slice A1_0 n1_0 c1_0) ∧ w'.cell? ⟨(w.heap.size + 1), 4, none⟩ = some (.slice A1_1 n1_1 c1_1) ∧ w'.cell? ⟨(w.heap.size + 1), 5, none⟩ = some (.slice A1_2 n1_2 c1_2))) (by kernel_rfl) ?_ (fun hHeld => ?_)
      · exact KEEPB.out _ hp
      generalize W111.drew = Wc at *
      refine wpAnyH_take (i := 0) (v := ?_) rfl (by kernel_rfl) (by kernel_rfl) (by kernel_rfl) (fun _ _ _ h => h) (Or.inl ⟨by rfl, ?_⟩) (by assumption) ?_
      rotate_left
      · intro w hSw
        try dsimp only at hSw
        obtain ⟨hs0_, hs1_, hs2_, hs3_, hs4_, hs5_, hs6_, hs7_, hs8_⟩ := hSw
        go_simp
        try with_reducible rfl
      try simp only [Act.put, List.setIfInBounds_toArray]
      refine wpAnyH_take (i := 2) (v := ?_) rfl (by kernel_rfl) (by kernel_rfl) (by kernel_rfl) (fun _ _ _ h => h) (Or.inl ⟨by rfl, ?_⟩) (by assumption) ?_
      rotate_left
      · intro w hSw
        try dsimp only at hSw
        obtain ⟨hs0_, hs1_, hs2_, hs3_, hs4_, hs5_, hs6_, hs7_, hs8_⟩ := hSw
        go_simp
        try with_reducible rfl
      try simp only [Act.put]
      refine wpAnyH_take (i := 4) (v := ?_) rfl (by kernel_rfl) (by kernel_rfl) (by kernel_rfl) (fun _ _ _ h => h) (Or.inl ⟨by rfl, ?_⟩) (by assumption) ?_
      rotate_left
      · intro w hSw
        try dsimp only at hSw
        obtain ⟨hs0_, hs1_, hs2_, hs3_, hs4_, hs5_, hs6_, hs7_, hs8_⟩ := hSw
        go_simp
        try with_reducible rfl
      try simp only [Act.put]
      simp only [List.getElem_toArray, List.getElem_cons_zero, List.getElem_cons_succ, List.setIfInBounds_toArray, List.set_cons_zero, List.set_cons_succ]
      refine wpAnyH_batch (n := 7) (is := [1, 3, 5, 6, 7, 8, 9]) [⟨1, [], (RCall (fun a_ e_ b_ => ToMachine a_ sy0 st0 n0 rs0 e_ b_)), false⟩, ⟨3, [], (RCall (fun a_ e_ b_ => ToFormula a_ d1_0 d1_1 d1_2 n1_0 (nums x1_0) n1_1 (nums x1_1) n1_2 x1_2 e_ b_)), false⟩, ⟨5, [1, 3], (RCall (fun a_ e_ b_ => NewFmI a_ res e_ b_)), false⟩, ⟨6, [5], (RKnown (fun vl => ∃ x, vl = [x, x])), true⟩, ⟨7, [6, 5], (RKnown (fun vl => ∃ x0_ x1_, vl = [x0_, .tuple #[x0_, x1_], .tuple #[x0_, x1_]])), true⟩, ⟨8, [6, 5], (RKnown (fun vl => ∃ x0_ x1_, vl = [x1_, .tuple #[x0_, x1_], .tuple #[x0_, x1_]])), true⟩, ⟨9, [], (RMade (fun g => .pointer (some ⟨g, 0, none⟩)) 31 #[.int .i64 0, .int .i64 0, .int .i64 0, .slice none 0 0, .slice none 0 0, .slice none 0 0]), false⟩] rfl rfl (by kernel_rfl) (by decide) (by kernel_rfl) (fun _ _ _ _ h => h) (fun w' hb => ?_) (BStay.all_cons (RCall.stay) <| BStay.all_cons (RCall.stay) <| BStay.all_cons (RCall.stay) <| BStay.all_cons (RKnown.stay) <| BStay.all_cons (RKnown.stay) <| BStay.all_cons (RKnown.stay) <| BStay.all_cons (RMade.stay) <| BStay.all_nil) ?_ ?_
      · exact KEEPB.out _ (hp.trans (hb.mono hp.size))
      · refine BStep.all_cons (BStep.mk rfl (fun vs l h w1 hz hn hsp K hK => ?_)) ?_
        · simp only [putAll, List.map, Act.put, List.getElem_toArray, List.getElem_cons_zero, List.getElem_cons_succ, List.setIfInBounds_toArray, List.set_cons_zero, List.set_cons_succ] at hK ⊢
          clear hn hsp
          go_simp
          have yq := YBB.out.trans ((hp.trans (hz.mono hp.size)).mono YBB.out.size)
          refine (toMachine_any _ _ _ _ _ rs0 _ (hr0.below yq) p0).mono ?_
          rintro e W2 hT
          obtain ⟨B121, rfl, o121, z121⟩ := id hT
          exact hK _ _ z121 ⟨_, _, _, rfl, hT, rfl, Below.refl _ _⟩
        refine BStep.all_cons (BStep.mk rfl (fun vs l h w1 hz hn hsp K hK => ?_)) ?_
        · simp only [putAll, List.map, Act.put, List.getElem_toArray, List.getElem_cons_zero, List.getElem_cons_succ, List.setIfInBounds_toArray, List.set_cons_zero, List.set_cons_succ] at hK ⊢
          clear hn hsp
          go_simp
          have yq := YBB.out.trans ((hp.trans (hz.mono hp.size)).mono YBB.out.size)
          refine (toFormula_any _ _ _ _ _ _ x1_0 _ _ _ x1_1 _ _ _ x1_2 _ (h1_0.below yq) p1_0 HR1_0.out (h1_1.below yq) p1_1 HR1_1.out (h1_2.below yq) p1_2).mono ?_
          rintro e W2 hT
          obtain ⟨B122_0, us122_0, B122_1, us122_1, B122_2, rfl, o122_0, hn122_0, o122_1, hn122_1, o122_2, z122⟩ := id hT
          exact hK _ _ z122 ⟨_, _, _, rfl, hT, rfl, Below.refl _ _⟩
        refine BStep.all_cons (BStep.mk rfl (fun vs l h w1 hz hn hsp K hK => ?_)) ?_
        · simp only [putAll, List.map, dstAt, Act.put, List.getElem_toArray, List.getElem?_toArray, List.getElem_cons_zero, List.getElem_cons_succ, List.getElem?_cons_zero, List.getElem?_cons_succ, Option.bind_some, List.setIfInBounds_toArray, List.set_cons_zero, List.set_cons_succ] at hK ⊢
          simp only [List.forall_mem_cons, List.map] at hn
          obtain ⟨nn1, nn3, nn5, nn6, nn7, nn8, nn9, _⟩ := hn
          have q1 := (nn1 (by simp)).2.2.2
          have q3 := (nn3 (by simp)).2.2.2
          obtain ⟨wa121, wb121, v121, ee121, ⟨B121, hv121, o121, z121⟩, _, zb121⟩ := q1
          cases hv121
          simp only [List.head?_cons, Option.some.injEq] at ee121
          replace o121 := o121.below zb121
          obtain ⟨wa122, wb122, v122, ee122, ⟨B122_0, us122_0, B122_1, us122_1, B122_2, hv122, o122_0, hn122_0, o122_1, hn122_1, o122_2, z122⟩, _, zb122⟩ := q3
          cases hv122
          simp only [List.head?_cons, Option.some.injEq] at ee122
          have HN122_0 := Lib.hid hn122_0
          clear hn122_0
          have HN122_1 := Lib.hid hn122_1
          clear hn122_1
          replace o122_0 := o122_0.below zb122
          replace o122_1 := o122_1.below zb122
          replace o122_2 := o122_2.below zb122
          rw [ee121, ee122] at hK ⊢
          go_simp
          (with_reducible refine (runFormulaI_any _ _ _ _ _ rs0 _ _ _ _ _ _ us122_0 _ _ _ us122_1 _ _ _ x1_2 _ _ o121.as3 o122_0.sii o122_1.sii o122_2.asI p0 p1_0 p1_1 p1_2 (rows_le HN122_0.out HR1_0.out) (rows_le HN122_1.out HR1_1.out)).mono ?_)
          rw [HN122_0.out, HN122_1.out, ← HRES.out]
          rintro e W2 hT
          obtain ⟨A123r, c123r, ts123r, B123r, d123r, us123r, C123r, k123r, rfl, oF123, z123⟩ := id hT
          exact hK _ _ z123 ⟨_, _, _, rfl, hT, rfl, Below.refl _ _⟩
        refine BStep.all_cons (BStep.pure rfl (fun vs l h w1 hz hn hsp => ?_)) ?_
        · simp only [putAll, List.map, dstAt, Act.put, List.getElem_toArray, List.getElem?_toArray, List.getElem_cons_zero, List.getElem_cons_succ, List.getElem?_cons_zero, List.getElem?_cons_succ, Option.bind_some, List.setIfInBounds_toArray, List.set_cons_zero, List.set_cons_succ]
          simp only [List.forall_mem_cons, List.map] at hn
          obtain ⟨nn1, nn3, nn5, nn6, nn7, nn8, nn9, _⟩ := hn
          have q5 := (nn5 (by simp)).2.2.2
          exact ⟨_, ⟨_, rfl⟩, fun _ _ => rfl⟩
        refine BStep.all_cons (BStep.pure rfl (fun vs l h w1 hz hn hsp => ?_)) ?_
        · simp only [putAll, List.map, dstAt, Act.put, List.getElem_toArray, List.getElem?_toArray, List.getElem_cons_zero, List.getElem_cons_succ, List.getElem?_cons_zero, List.getElem?_cons_succ, Option.bind_some, List.setIfInBounds_toArray, List.set_cons_zero, List.set_cons_succ]
          simp only [List.forall_mem_cons, List.map] at hn
          obtain ⟨nn1, nn3, nn5, nn6, nn7, nn8, nn9, _⟩ := hn
          have q6 := (nn6 (by simp)).2.2.2
          have q5 := (nn5 (by simp)).2.2.2
          obtain ⟨y_, ey_⟩ := q6
          simp only [List.cons.injEq, and_true] at ey_
          obtain ⟨ey1, ey2⟩ := ey_
          obtain ⟨wa, wb, v, ee, ⟨A124r, c124r, ts124r, B124r, d124r, us124r, C124r, k124r, hv, oF124, z124⟩, _, zb⟩ := q5
          cases hv
          simp only [List.head?_cons, Option.some.injEq] at ee
          rw [ey1, ← ey2, ee]
          exact ⟨_, ⟨_, _, rfl⟩, fun _ _ => rfl⟩
        refine BStep.all_cons (BStep.pure rfl (fun vs l h w1 hz hn hsp => ?_)) ?_
        · simp only [putAll, List.map, dstAt, Act.put, List.getElem_toArray, List.getElem?_toArray, List.getElem_cons_zero, List.getElem_cons_succ, List.getElem?_cons_zero, List.getElem?_cons_succ, Option.bind_some, List.setIfInBounds_toArray, List.set_cons_zero, List.set_cons_succ]
          simp only [List.forall_mem_cons, List.map] at hn
          obtain ⟨nn1, nn3, nn5, nn6, nn7, nn8, nn9, _⟩ := hn
          have q6 := (nn6 (by simp)).2.2.2
          have q5 := (nn5 (by simp)).2.2.2
          obtain ⟨y_, ey_⟩ := q6
          simp only [List.cons.injEq, and_true] at ey_
          obtain ⟨ey1, ey2⟩ := ey_
          obtain ⟨wa, wb, v, ee, ⟨A125r, c125r, ts125r, B125r, d125r, us125r, C125r, k125r, hv, oF125, z125⟩, _, zb⟩ := q5
          cases hv
          simp only [List.head?_cons, Option.some.injEq] at ee
          rw [ey1, ← ey2, ee]
          exact ⟨_, ⟨_, _, rfl⟩, fun _ _ => rfl⟩
        refine BStep.all_cons (BStep.mk rfl (fun vs l h w1 hz hn hsp K hK => ?_)) ?_
        · simp only [putAll, List.map, Act.put, List.getElem_toArray, List.getElem_cons_zero, List.getElem_cons_succ, List.setIfInBounds_toArray, List.set_cons_zero, List.set_cons_succ] at hK ⊢
          clear hn hsp
          go_simp
          exact hK _ _ ((Below.refl _ _).alloc (Nat.le_refl _) _) ⟨_, rfl, Blk.new _ _ _, Nat.le_refl _, by simp⟩
        exact BStep.all_nil
      · intro vs l h w1 hz ht hsp
        simp only [Through, List.forall_mem_cons, List.map] at ht
        simp only [putAll, markAll, dstAt, Act.put, List.getElem?_toArray, List.getElem?_cons_zero, List.getElem?_cons_succ, Option.bind_some, List.setIfInBounds_toArray, List.set_cons_zero, List.set_cons_succ]
        obtain ⟨⟨_, _, _, _⟩, ⟨_, _, _, _⟩, ⟨hl_, hh_, hx_, wa, wb, v, em, ⟨A123r, c123r, ts123r, B123r, d123r, us123r, C123r, k123r, hv, oF123, zz_⟩, ew_, zb⟩, ⟨_, _, _, y_, ey_⟩, ⟨_, _, _, p0_0, p0_1, ex0_⟩, ⟨_, _, _, p1_0, p1_1, ex1_⟩, ⟨ka_, _, ma_, gB, eB, hB, gB1, gB2⟩, _⟩ := ht
        cases hv
        simp only [List.head?_cons, Option.some.injEq, List.cons.injEq, and_true] at em eB ey_ ex0_ ex1_
        obtain ⟨ey1, ey2⟩ := ey_
        obtain ⟨ea0, eb0, ec0⟩ := ex0_
        rw [em] at ec0
        cases ec0
        obtain ⟨ea1, eb1, ec1⟩ := ex1_
        rw [em] at ec1
        cases ec1
        rw [ea0, ea1, eB]
        have hsz := hp.size
        have lB : W111.heap.size ≤ gB := by omega
        have hpz : Below W111.heap.size W111 w1 := hp.trans (hz.mono hp.size)
        replace oF123 := (oF123.below zb).mono (lo' := W111.heap.size) (by omega)
        try simp only [putAll, markAll, dstAt, Act.put, List.getElem_toArray, List.getElem?_toArray, List.getElem_cons_zero, List.getElem_cons_succ, List.getElem?_cons_zero, List.getElem?_cons_succ, Option.bind_some, List.setIfInBounds_toArray, List.set_cons_zero, List.set_cons_succ]
        refine wpAnyH_ready (rs := [10]) (by kernel_rfl) (by simp) ?_
        refine AllReadyH.cons rfl (fun K hK => ?_) ?_
        · have xx0 := hB.cell 0
          have xx1 := hB.cell 1
          have xx2 := hB.cell 2
          have xx3 := hB.cell 3
          have xx4 := hB.cell 4
          have xx5 := hB.cell 5
          have ff0 := hB.frozen 0
          have ff1 := hB.frozen 1
          have ff2 := hB.frozen 2
          have ff3 := hB.frozen 3
          have ff4 := hB.frozen 4
          have ff5 := hB.frozen 5
          go_simp
          have hpf := form_below hpz lB (.int .i64 res.1.q) (.int .i64 res.1.h) (.int .i64 res.1.a) (.slice A123r ts123r.length c123r) (.slice B123r us123r.length d123r) (.slice C123r res.1.O.length k123r)
          have hbf := form_set hB (.int .i64 res.1.q) (.int .i64 res.1.h) (.int .i64 res.1.a) (.slice A123r ts123r.length c123r) (.slice B123r us123r.length d123r) (.slice C123r res.1.O.length k123r)
          have oF123 := form_far2 hB oF123 (.int .i64 res.1.q) (.int .i64 res.1.h) (.int .i64 res.1.a) (.slice A123r ts123r.length c123r) (.slice B123r us123r.length d123r) (.slice C123r res.1.O.length k123r)
          refine hK.out _ _ ?_ (fun hHeld => ?_)
          · exact KEEPB.out _ hpf
          clear hK K
          try simp only [Act.put, List.setIfInBounds_toArray]
          try simp only [putAll, markAll, dstAt, Act.put, List.getElem_toArray, List.getElem?_toArray, List.getElem_cons_zero, List.getElem_cons_succ, List.getElem?_cons_zero, List.getElem?_cons_succ, Option.bind_some, List.setIfInBounds_toArray, List.set_cons_zero, List.set_cons_succ]
          refine wpAnyH_ready (rs := [11]) (by kernel_rfl) (by simp) ?_
          refine AllReadyH.cons rfl (fun K hK => ?_) ?_
          · go_simp
            refine hK.out _ _ ?_ (fun hHeld => ?_)
            · exact KEEPB.out _ hpf
            clear hK K
            try simp only [Act.put, List.setIfInBounds_toArray, List.set_cons_zero, List.set_cons_succ]
            refine wpAnyH_done (by kernel_rfl) ?_ _
            refine NoPanic.normal ?_
            go_wp2_with fail
            go_meet
            exact ⟨_, A123r, c123r, ts123r, B123r, d123r, us123r, C123r, k123r, rfl, rfl, lB, hbf, oF123, hpf⟩
          exact AllReadyH.nil
        exact AllReadyH.nil
    case rest =>
      obtain ⟨g126, A126r, c126r, ts126r, B126r, d126r, us126r, C126r, k126r, rfl, rfl, hg126, bx126, oF126, z126⟩ := hcut
      clear KEEPB YBB
      obtain ⟨W126, hWc⟩ : ∃ W, W = wc := ⟨_, rfl⟩
      rw [← hWc] at oF126 z126 bx126
      rw [← hWc]
      clear hWc
      have uc127 : W126.cell? ⟨g126, 0, none⟩ = some (.int .i64 res.1.q) := bx126.cell 0
      have uc128 : W126.cell? ⟨g126, 1, none⟩ = some (.int .i64 res.1.h) := bx126.cell 1
      have uc129 : W126.cell? ⟨g126, 2, none⟩ = some (.int .i64 res.1.a) := bx126.cell 2
      have uc130 : W126.cell? ⟨g126, 3, none⟩ = some (.slice A126r ts126r.length c126r) := bx126.cell 3
      have uc131 : W126.cell? ⟨g126, 4, none⟩ = some (.slice B126r us126r.length d126r) := bx126.cell 4
      have uc132 : W126.cell? ⟨g126, 5, none⟩ = some (.slice C126r res.1.O.length k126r) := bx126.cell 5
      have yW104_W126 : Below W104.heap.size W104 W126 := z111.trans (z126.mono z111.size)
      have uc133 : W126.cell? ⟨g14, 0, none⟩ = some (.int .i64 res.1.q) := (sbm.below' yW104_W126).cell 0
      have uc134 : W126.cell? ⟨g14, 1, none⟩ = some (.int .i64 res.1.h) := (sbm.below' yW104_W126).cell 1
      have uc135 : W126.cell? ⟨g14, 2, none⟩ = some (.int .i64 res.1.a) := (sbm.below' yW104_W126).cell 2
      have uc136 : W126.cell? ⟨g14, 3, none⟩ = some (.slice A14r ts14r.length c14r) := (sbm.below' yW104_W126).cell 3
      have uc137 : W126.cell? ⟨g14, 4, none⟩ = some (.slice B14r us14r.length d14r) := (sbm.below' yW104_W126).cell 4
      have uc138 : W126.cell? ⟨g14, 5, none⟩ = some (.slice C14r res.1.O.length k14r) := (sbm.below' yW104_W126).cell 5
      go_wp2_with fail
      refine (eqFormula_r oF126 (so0.below yW104_W126) LX0.out).mono ?_
      rintro e W139 ⟨rfl, z139⟩
      skip
      clear uc127 uc128 uc129 uc130 uc131 uc132 uc133 uc134 uc135 uc136 uc137 uc138
      have yW104_W139 : Below W104.heap.size W104 W139 := yW104_W126.trans (z139.mono yW104_W126.size)
      have uc140 : W139.cell? ⟨W37.heap.size, 0, none⟩ = some (.int .i64 res.1.q) := (ibm.below' yW104_W139).cell 0
      have uc141 : W139.cell? ⟨W37.heap.size, 1, none⟩ = some (.int .i64 res.1.h) := (ibm.below' yW104_W139).cell 1
      have uc142 : W139.cell? ⟨W37.heap.size, 2, none⟩ = some (.int .i64 res.1.a) := (ibm.below' yW104_W139).cell 2
      have uc143 : W139.cell? ⟨W37.heap.size, 3, none⟩ = some (.slice A37r ts37r.length c37r) := (ibm.below' yW104_W139).cell 3
      have uc144 : W139.cell? ⟨W37.heap.size, 4, none⟩ = some (.slice B37r us37r.length d37r) := (ibm.below' yW104_W139).cell 4
      have uc145 : W139.cell? ⟨W37.heap.size, 5, none⟩ = some (.slice C37r res.1.O.length k37r) := (ibm.below' yW104_W139).cell 5
      go_wp2_with fail
      refine (heldFormula_r (eF.below yW104_W139)).mono ?_
      rintro e W146 ⟨rfl, z146⟩
      clear uc140 uc141 uc142 uc143 uc144 uc145
      have yw_W126 : Below w.heap.size w W126 := yw_W111.trans (z126.mono yw_W111.size)
      have yw_W139 : Below w.heap.size w W139 := yw_W126.trans (z139.mono yw_W126.size)
      have yw_W146 : Below w.heap.size w W146 := yw_W139.trans (z146.mono yw_W139.size)
      go_wp2_with fail
      go_ret
      exact ⟨rfl, yw_W146⟩
end Go.Proofs.Ytbpofkggoolmpaa
