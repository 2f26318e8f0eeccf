/-
  The walk of the law FnExactFormulaOf: it returns true, and nothing that was there before has turned.
-/
import Derived.Test.YtpnkelmmfcmijaaPbHelpFB6
import Derived.Test.YtpnkelmmfcmijaaPbHelpFB8
import Derived.Test.YtpnkelmmfcmijaaPkFormulaOf2
import Derived.Test.YtpnkelmmfcmijaaPkFormulaOf4
import Derived.Test.YtpnkelmmfcmijaaPkFormulaOf5
namespace Go.Proofs.Ytpnkelmmfcmijaa
open Go.RowKit

set_option maxRecDepth 100000 in
set_option maxHeartbeats 16000000 in
theorem lawFormulaOf (sy0 st0 : Int) (A0 : Option Addr) (n0 k0 : Nat) (rs0 : List R3) (d1_0 : Int) (A1_0 : Option Addr) (n1_0 c1_0 : Nat) (x1_0 : List Int) (A1_1 : Option Addr) (n1_1 c1_1 : Nat) (x1_1 : List Sl) (w : World) (hr0 : S3 w A0 n0 rs0) (h1_0 : SI w A1_0 n1_0 x1_0) (h1_1 : SII w A1_1 n1_1 x1_1) (hb0 : n0 ≤ 9223372036854775807) (hb1_0 : n1_0 ≤ 9223372036854775807) (hb1_1 : n1_1 ≤ 9223372036854775807) (hbr1_1 : ∀ t ∈ x1_1, t.xs.length ≤ 9223372036854775807) :
    Calls Try.prog 3 #[.agg #[.int .i64 sy0, .int .i64 st0, .slice A0 n0 k0], .agg #[.int .i64 d1_0, .slice A1_0 n1_0 c1_0, .slice A1_1 n1_1 c1_1]] w fun e w' => e = .returned (.bool true) ∧ Below w.heap.size w w' := by
  obtain ⟨W0, hW0⟩ : ∃ W, W = (w.alloc (.cells #[.int .i64 sy0, .int .i64 st0, .slice A0 n0 k0] 24)).alloc (.cells #[.int .i64 d1_0, .slice A1_0 n1_0 c1_0, .slice A1_1 n1_1 c1_1] 28) := ⟨_, rfl⟩
  have s1 : (w.alloc (.cells #[.int .i64 sy0, .int .i64 st0, .slice A0 n0 k0] 24)).heap.size = w.heap.size + 1 := by simp
  have bb0 : Blk W0 w.heap.size 24 #[.int .i64 sy0, .int .i64 st0, .slice A0 n0 k0] := by rw [hW0]; exact (Blk.new w _ _).alloc _
  have bb1 : Blk W0 (w.heap.size + 1) 28 #[.int .i64 d1_0, .slice A1_0 n1_0 c1_0, .slice A1_1 n1_1 c1_1] := by rw [hW0, ← s1]; exact Blk.new _ _ _
  have z0 : Below w.heap.size w W0 := by rw [hW0]; exact ((Below.refl _ _).alloc (Nat.le_refl _) _).alloc (by simp) _
  have HW0 := Lib.hid hW0
  clear hW0 s1
  have HBR1_1 := Lib.hid hbr1_1
  clear hbr1_1
  go_enter Try.func3, Try.ntmps3
  go_wp2_with fail
  rw [← HW0.out]
  refine (szMachine_any _ _ _ _ _ _ _ hb0 (by omega) (by omega)).mono ?_
  rintro e W1 ⟨v1, rfl, va1, vb1, vc1, z1⟩
  have VC1 := Lib.hid vc1
  clear vc1
  have yw_W1 : Below w.heap.size w W1 := z0.trans (z1.mono z0.size)
  have uc2 : W1.cell? ⟨(w.heap.size + 1), 0, none⟩ = some (.int .i64 d1_0) := (bb1.below' z1).cell 0
  have uc3 : W1.cell? ⟨(w.heap.size + 1), 1, none⟩ = some (.slice A1_0 n1_0 c1_0) := (bb1.below' z1).cell 1
  have uc4 : W1.cell? ⟨(w.heap.size + 1), 2, none⟩ = some (.slice A1_1 n1_1 c1_1) := (bb1.below' z1).cell 2
  by_cases hneg1 : v1 < 0
  · go_wp2_with fail
    go_ret
    exact ⟨rfl, yw_W1⟩
  go_wp2_with fail
  refine (szProof_any _ _ _ _ _ _ _ x1_1 _ _ hb1_0 hb1_1 (h1_1.below yw_W1) HBR1_1.out (by omega) (by omega)).mono ?_
  rintro e W5 ⟨v5, rfl, va5, vb5, vc5, z5⟩
  have VC5 := Lib.hid vc5
  clear vc5
  clear uc2 uc3 uc4
  have yw_W5 : Below w.heap.size w W5 := yw_W1.trans (z5.mono yw_W1.size)
  by_cases hneg5 : v5 < 0
  · go_wp2_with fail
    go_ret
    exact ⟨rfl, yw_W5⟩
  have hsm : n0 ≤ 1048576 ∧ n1_0 ≤ 1048576 ∧ n1_1 ≤ 1048576 ∧ total x1_1 ≤ 1048576 := by
    have t1 := VC1.out (by omega)
    have t5 := VC5.out (by omega)
    omega
  obtain ⟨p0, p1_0, p1_1, pt1_1⟩ := hsm
  have HR1_1 : Hid (∀ t ∈ x1_1, t.xs.length ≤ 1048576) := fun t ht => by have := row_total ht; omega
  clear HBR1_1
  clear VC1
  clear VC5
  obtain ⟨res, hres⟩ : ∃ res, res = formulaOfF sy0 st0 rs0 d1_0 x1_0 (nums x1_1) := ⟨_, rfl⟩
  have HRES := Lib.hid hres
  clear hres
  have yW0_W5 : Below W0.heap.size W0 W5 := z1.trans (z5.mono z1.size)
  have KEEPA : Hid (∀ cur, Below W5.heap.size W5 cur → cur.cell? ⟨w.heap.size, 0, none⟩ = some (.int .i64 sy0) ∧ cur.cell? ⟨w.heap.size, 1, none⟩ = some (.int .i64 st0) ∧ cur.cell? ⟨w.heap.size, 2, none⟩ = some (.slice A0 n0 k0) ∧ cur.cell? ⟨(w.heap.size + 1), 0, none⟩ = some (.int .i64 d1_0) ∧ cur.cell? ⟨(w.heap.size + 1), 1, none⟩ = some (.slice A1_0 n1_0 c1_0) ∧ cur.cell? ⟨(w.heap.size + 1), 2, none⟩ = some (.slice A1_1 n1_1 c1_1)) := Lib.hid (fun cur h =>
    ⟨((bb0.below' yW0_W5).below' h).cell 0, ((bb0.below' yW0_W5).below' h).cell 1, ((bb0.below' yW0_W5).below' h).cell 2, ((bb1.below' yW0_W5).below' h).cell 0, ((bb1.below' yW0_W5).below' h).cell 1, ((bb1.below' yW0_W5).below' h).cell 2⟩)
  have YBA := Lib.hid yw_W5
  go_upto_region 8 with fail
  go_cut [6, 7] (fun s6 s7 wx => FormBox W5.heap.size W5 s6 s7 res wx)
  case first =>
    have hp : Below W5.heap.size W5 W5.drew := below_drewN (Below.refl _ _) 1
    refine wp_region_noPanic ?_
    refine wp_region_held_drew (S := (fun w' => w'.cell? ⟨w.heap.size, 0, none⟩ = some (.int .i64 sy0) ∧ w'.cell? ⟨w.heap.size, 1, none⟩ = some (.int .i64 st0) ∧ w'.cell? ⟨w.heap.size, 2, none⟩ = some (.slice A0 n0 k0) ∧ w'.cell? ⟨(w.heap.size + 1), 0, none⟩ = some (.int .i64 d1_0) ∧ w'.cell? ⟨(w.heap.size + 1), 1, none⟩ = some (.slice A1_0 n1_0 c1_0) ∧ w'.cell? ⟨(w.heap.size + 1), 2, none⟩ = some (.slice A1_1 n1_1 c1_1))) (by kernel_rfl) ?_ (fun hHeld => ?_)
    · exact KEEPA.out _ hp
    generalize W5.drew = Wc at *
    refine wpAnyH_take (i := 0) (v := ?_) rfl (by kernel_rfl) (by kernel_rfl) (by kernel_rfl) (fun _ _ _ h => h) (Or.inl ⟨by rfl, ?_⟩) (by assumption) ?_
    rotate_left
    · intro w hSw
      try dsimp only at hSw
      obtain ⟨hs0_, hs1_, hs2_, hs3_, hs4_, hs5_⟩ := hSw
      go_simp
      try with_reducible rfl
    try simp only [Act.put, List.setIfInBounds_toArray]
    refine wpAnyH_take (i := 2) (v := ?_) rfl (by kernel_rfl) (by kernel_rfl) (by kernel_rfl) (fun _ _ _ h => h) (Or.inl ⟨by rfl, ?_⟩) (by assumption) ?_
    rotate_left
    · intro w hSw
      try dsimp only at hSw
      obtain ⟨hs0_, hs1_, hs2_, hs3_, hs4_, hs5_⟩ := hSw
      go_simp
      try with_reducible rfl
    try simp only [Act.put]
    simp only [List.getElem_toArray, List.getElem_cons_zero, List.getElem_cons_succ, List.setIfInBounds_toArray, List.set_cons_zero, List.set_cons_succ]
    refine wpAnyH_batch (n := 7) (is := [1, 3, 4, 5, 6, 7, 8]) [⟨1, [], (RCall (fun a_ e_ b_ => ToMachine a_ sy0 st0 n0 rs0 e_ b_)), false⟩, ⟨3, [], (RCall (fun a_ e_ b_ => ToProof a_ d1_0 n1_0 x1_0 n1_1 (nums x1_1) e_ b_)), false⟩, ⟨4, [1, 3], (RCall (fun a_ e_ b_ => NewFmI a_ res e_ b_)), false⟩, ⟨5, [4], (RKnown (fun vl => ∃ x, vl = [x, x])), true⟩, ⟨6, [5, 4], (RKnown (fun vl => ∃ x0_ x1_, vl = [x0_, .tuple #[x0_, x1_], .tuple #[x0_, x1_]])), true⟩, ⟨7, [5, 4], (RKnown (fun vl => ∃ x0_ x1_, vl = [x1_, .tuple #[x0_, x1_], .tuple #[x0_, x1_]])), true⟩, ⟨8, [], (RMade (fun g => .pointer (some ⟨g, 0, none⟩)) 32 #[.int .i64 0, .int .i64 0, .int .i64 0, .slice none 0 0, .slice none 0 0, .slice none 0 0]), false⟩] rfl rfl (by kernel_rfl) (by decide) (by kernel_rfl) (fun _ _ _ _ h => h) (fun w' hb => ?_) (BStay.all_cons (RCall.stay) <| BStay.all_cons (RCall.stay) <| BStay.all_cons (RCall.stay) <| BStay.all_cons (RKnown.stay) <| BStay.all_cons (RKnown.stay) <| BStay.all_cons (RKnown.stay) <| BStay.all_cons (RMade.stay) <| BStay.all_nil) ?_ ?_
    · exact KEEPA.out _ (hp.trans (hb.mono hp.size))
    · refine BStep.all_cons (BStep.mk rfl (fun vs l h w1 hz hn hsp K hK => ?_)) ?_
      · simp only [putAll, List.map, Act.put, List.getElem_toArray, List.getElem_cons_zero, List.getElem_cons_succ, List.setIfInBounds_toArray, List.set_cons_zero, List.set_cons_succ] at hK ⊢
        clear hn hsp
        go_simp
        have yq := YBA.out.trans ((hp.trans (hz.mono hp.size)).mono YBA.out.size)
        refine (toMachine_any _ _ _ _ _ rs0 _ (hr0.below yq) p0).mono ?_
        rintro e W2 hT
        obtain ⟨B6, rfl, o6, z6⟩ := id hT
        exact hK _ _ z6 ⟨_, _, _, rfl, hT, rfl, Below.refl _ _⟩
      refine BStep.all_cons (BStep.mk rfl (fun vs l h w1 hz hn hsp K hK => ?_)) ?_
      · simp only [putAll, List.map, Act.put, List.getElem_toArray, List.getElem_cons_zero, List.getElem_cons_succ, List.setIfInBounds_toArray, List.set_cons_zero, List.set_cons_succ] at hK ⊢
        clear hn hsp
        go_simp
        have yq := YBA.out.trans ((hp.trans (hz.mono hp.size)).mono YBA.out.size)
        refine (toProof_any _ _ _ _ x1_0 _ _ _ x1_1 _ (h1_0.below yq) p1_0 (h1_1.below yq) p1_1 HR1_1.out).mono ?_
        rintro e W2 hT
        obtain ⟨B7_0, B7_1, us7_1, rfl, o7_0, o7_1, hn7_1, z7⟩ := id hT
        exact hK _ _ z7 ⟨_, _, _, rfl, hT, rfl, Below.refl _ _⟩
      refine BStep.all_cons (BStep.mk rfl (fun vs l h w1 hz hn hsp K hK => ?_)) ?_
      · simp only [putAll, List.map, dstAt, Act.put, List.getElem_toArray, List.getElem?_toArray, List.getElem_cons_zero, List.getElem_cons_succ, List.getElem?_cons_zero, List.getElem?_cons_succ, Option.bind_some, List.setIfInBounds_toArray, List.set_cons_zero, List.set_cons_succ] at hK ⊢
        simp only [List.forall_mem_cons, List.map] at hn
        obtain ⟨nn1, nn3, nn4, nn5, nn6, nn7, nn8, _⟩ := hn
        have q1 := (nn1 (by simp)).2.2.2
        have q3 := (nn3 (by simp)).2.2.2
        obtain ⟨wa6, wb6, v6, ee6, ⟨B6, hv6, o6, z6⟩, _, zb6⟩ := q1
        cases hv6
        simp only [List.head?_cons, Option.some.injEq] at ee6
        replace o6 := o6.below zb6
        obtain ⟨wa7, wb7, v7, ee7, ⟨B7_0, B7_1, us7_1, hv7, o7_0, o7_1, hn7_1, z7⟩, _, zb7⟩ := q3
        cases hv7
        simp only [List.head?_cons, Option.some.injEq] at ee7
        have HN7_1 := Lib.hid hn7_1
        clear hn7_1
        replace o7_0 := o7_0.below zb7
        replace o7_1 := o7_1.below zb7
        rw [ee6, ee7] at hK ⊢
        go_simp
        (with_reducible refine (formulaOfS_any _ _ _ _ _ rs0 _ _ _ _ x1_0 _ _ _ us7_1 _ o6.as3 o7_0.asI o7_1.sii p0 p1_0 p1_1 (rows_le HN7_1.out HR1_1.out)).mono ?_)
        rw [HN7_1.out, ← HRES.out]
        rintro e W2 hT
        obtain ⟨A8r, c8r, ts8r, B8r, d8r, us8r, C8r, k8r, rfl, oF8, z8⟩ := id hT
        exact hK _ _ z8 ⟨_, _, _, rfl, hT, rfl, Below.refl _ _⟩
      refine BStep.all_cons (BStep.pure rfl (fun vs l h w1 hz hn hsp => ?_)) ?_
      · simp only [putAll, List.map, dstAt, Act.put, List.getElem_toArray, List.getElem?_toArray, List.getElem_cons_zero, List.getElem_cons_succ, List.getElem?_cons_zero, List.getElem?_cons_succ, Option.bind_some, List.setIfInBounds_toArray, List.set_cons_zero, List.set_cons_succ]
        simp only [List.forall_mem_cons, List.map] at hn
        obtain ⟨nn1, nn3, nn4, nn5, nn6, nn7, nn8, _⟩ := hn
        have q4 := (nn4 (by simp)).2.2.2
        exact ⟨_, ⟨_, rfl⟩, fun _ _ => rfl⟩
      refine BStep.all_cons (BStep.pure rfl (fun vs l h w1 hz hn hsp => ?_)) ?_
      · simp only [putAll, List.map, dstAt, Act.put, List.getElem_toArray, List.getElem?_toArray, List.getElem_cons_zero, List.getElem_cons_succ, List.getElem?_cons_zero, List.getElem?_cons_succ, Option.bind_some, List.setIfInBounds_toArray, List.set_cons_zero, List.set_cons_succ]
        simp only [List.forall_mem_cons, List.map] at hn
        obtain ⟨nn1, nn3, nn4, nn5, nn6, nn7, nn8, _⟩ := hn
        have q5 := (nn5 (by simp)).2.2.2
        have q4 := (nn4 (by simp)).2.2.2
        obtain ⟨y_, ey_⟩ := q5
        simp only [List.cons.injEq, and_true] at ey_
        obtain ⟨ey1, ey2⟩ := ey_
        obtain ⟨wa, wb, v, ee, ⟨A9r, c9r, ts9r, B9r, d9r, us9r, C9r, k9r, hv, oF9, z9⟩, _, zb⟩ := q4
        cases hv
        simp only [List.head?_cons, Option.some.injEq] at ee
        rw [ey1, ← ey2, ee]
        exact ⟨_, ⟨_, _, rfl⟩, fun _ _ => rfl⟩
      refine BStep.all_cons (BStep.pure rfl (fun vs l h w1 hz hn hsp => ?_)) ?_
      · simp only [putAll, List.map, dstAt, Act.put, List.getElem_toArray, List.getElem?_toArray, List.getElem_cons_zero, List.getElem_cons_succ, List.getElem?_cons_zero, List.getElem?_cons_succ, Option.bind_some, List.setIfInBounds_toArray, List.set_cons_zero, List.set_cons_succ]
        simp only [List.forall_mem_cons, List.map] at hn
        obtain ⟨nn1, nn3, nn4, nn5, nn6, nn7, nn8, _⟩ := hn
        have q5 := (nn5 (by simp)).2.2.2
        have q4 := (nn4 (by simp)).2.2.2
        obtain ⟨y_, ey_⟩ := q5
        simp only [List.cons.injEq, and_true] at ey_
        obtain ⟨ey1, ey2⟩ := ey_
        obtain ⟨wa, wb, v, ee, ⟨A10r, c10r, ts10r, B10r, d10r, us10r, C10r, k10r, hv, oF10, z10⟩, _, zb⟩ := q4
        cases hv
        simp only [List.head?_cons, Option.some.injEq] at ee
        rw [ey1, ← ey2, ee]
        exact ⟨_, ⟨_, _, rfl⟩, fun _ _ => rfl⟩
      refine BStep.all_cons (BStep.mk rfl (fun vs l h w1 hz hn hsp K hK => ?_)) ?_
      · simp only [putAll, List.map, Act.put, List.getElem_toArray, List.getElem_cons_zero, List.getElem_cons_succ, List.setIfInBounds_toArray, List.set_cons_zero, List.set_cons_succ] at hK ⊢
        clear hn hsp
        go_simp
        exact hK _ _ ((Below.refl _ _).alloc (Nat.le_refl _) _) ⟨_, rfl, Blk.new _ _ _, Nat.le_refl _, by simp⟩
      exact BStep.all_nil
    · intro vs l h w1 hz ht hsp
      simp only [Through, List.forall_mem_cons, List.map] at ht
      simp only [putAll, markAll, dstAt, Act.put, List.getElem?_toArray, List.getElem?_cons_zero, List.getElem?_cons_succ, Option.bind_some, List.setIfInBounds_toArray, List.set_cons_zero, List.set_cons_succ]
      obtain ⟨⟨_, _, _, _⟩, ⟨_, _, _, _⟩, ⟨hl_, hh_, hx_, wa, wb, v, em, ⟨A8r, c8r, ts8r, B8r, d8r, us8r, C8r, k8r, hv, oF8, zz_⟩, ew_, zb⟩, ⟨_, _, _, y_, ey_⟩, ⟨_, _, _, p0_0, p0_1, ex0_⟩, ⟨_, _, _, p1_0, p1_1, ex1_⟩, ⟨ka_, _, ma_, gB, eB, hB, gB1, gB2⟩, _⟩ := ht
      cases hv
      simp only [List.head?_cons, Option.some.injEq, List.cons.injEq, and_true] at em eB ey_ ex0_ ex1_
      obtain ⟨ey1, ey2⟩ := ey_
      obtain ⟨ea0, eb0, ec0⟩ := ex0_
      rw [em] at ec0
      cases ec0
      obtain ⟨ea1, eb1, ec1⟩ := ex1_
      rw [em] at ec1
      cases ec1
      rw [ea0, ea1, eB]
      have hsz := hp.size
      have lB : W5.heap.size ≤ gB := by omega
      have hpz : Below W5.heap.size W5 w1 := hp.trans (hz.mono hp.size)
      replace oF8 := (oF8.below zb).mono (lo' := W5.heap.size) (by omega)
      try simp only [putAll, markAll, dstAt, Act.put, List.getElem_toArray, List.getElem?_toArray, List.getElem_cons_zero, List.getElem_cons_succ, List.getElem?_cons_zero, List.getElem?_cons_succ, Option.bind_some, List.setIfInBounds_toArray, List.set_cons_zero, List.set_cons_succ]
      refine wpAnyH_ready (rs := [9]) (by kernel_rfl) (by simp) ?_
      refine AllReadyH.cons rfl (fun K hK => ?_) ?_
      · have xx0 := hB.cell 0
        have xx1 := hB.cell 1
        have xx2 := hB.cell 2
        have xx3 := hB.cell 3
        have xx4 := hB.cell 4
        have xx5 := hB.cell 5
        have ff0 := hB.frozen 0
        have ff1 := hB.frozen 1
        have ff2 := hB.frozen 2
        have ff3 := hB.frozen 3
        have ff4 := hB.frozen 4
        have ff5 := hB.frozen 5
        go_simp
        have hpf := form_below hpz lB (.int .i64 res.1.q) (.int .i64 res.1.h) (.int .i64 res.1.a) (.slice A8r ts8r.length c8r) (.slice B8r us8r.length d8r) (.slice C8r res.1.O.length k8r)
        have hbf := form_set hB (.int .i64 res.1.q) (.int .i64 res.1.h) (.int .i64 res.1.a) (.slice A8r ts8r.length c8r) (.slice B8r us8r.length d8r) (.slice C8r res.1.O.length k8r)
        have oF8 := form_far2 hB oF8 (.int .i64 res.1.q) (.int .i64 res.1.h) (.int .i64 res.1.a) (.slice A8r ts8r.length c8r) (.slice B8r us8r.length d8r) (.slice C8r res.1.O.length k8r)
        refine hK.out _ _ ?_ (fun hHeld => ?_)
        · exact KEEPA.out _ hpf
        clear hK K
        try simp only [Act.put, List.setIfInBounds_toArray]
        try simp only [putAll, markAll, dstAt, Act.put, List.getElem_toArray, List.getElem?_toArray, List.getElem_cons_zero, List.getElem_cons_succ, List.getElem?_cons_zero, List.getElem?_cons_succ, Option.bind_some, List.setIfInBounds_toArray, List.set_cons_zero, List.set_cons_succ]
        refine wpAnyH_ready (rs := [10]) (by kernel_rfl) (by simp) ?_
        refine AllReadyH.cons rfl (fun K hK => ?_) ?_
        · go_simp
          refine hK.out _ _ ?_ (fun hHeld => ?_)
          · exact KEEPA.out _ hpf
          clear hK K
          try simp only [Act.put, List.setIfInBounds_toArray, List.set_cons_zero, List.set_cons_succ]
          refine wpAnyH_done (by kernel_rfl) ?_ _
          refine NoPanic.normal ?_
          go_wp2_with fail
          go_meet
          exact ⟨_, A8r, c8r, ts8r, B8r, d8r, us8r, C8r, k8r, rfl, rfl, lB, hbf, oF8, hpf⟩
        exact AllReadyH.nil
      exact AllReadyH.nil
  case rest =>
    obtain ⟨g11, A11r, c11r, ts11r, B11r, d11r, us11r, C11r, k11r, rfl, rfl, hg11, bx11, oF11, z11⟩ := hcut
    clear KEEPA YBA
    obtain ⟨W11, hWc⟩ : ∃ W, W = wc := ⟨_, rfl⟩
    rw [← hWc] at oF11 z11 bx11
    rw [← hWc]
    clear hWc
    have hlen : FmLen res.1 := by rw [HRES.out]; exact formulaOfF_len sy0 st0 rs0 d1_0 x1_0 (nums x1_1)
    have lx0 := hlen
    have LX0 := Lib.hid lx0
    clear lx0
    have yW0_W11 : Below W0.heap.size W0 W11 := yW0_W5.trans (z11.mono yW0_W5.size)
    have uc12 : W11.cell? ⟨w.heap.size, 0, none⟩ = some (.int .i64 sy0) := (bb0.below' yW0_W11).cell 0
    have uc13 : W11.cell? ⟨w.heap.size, 1, none⟩ = some (.int .i64 st0) := (bb0.below' yW0_W11).cell 1
    have uc14 : W11.cell? ⟨w.heap.size, 2, none⟩ = some (.slice A0 n0 k0) := (bb0.below' yW0_W11).cell 2
    go_wp2_with fail
    have yw_W11 : Below w.heap.size w W11 := yw_W5.trans (z11.mono yw_W5.size)
    refine (toMachine_any _ _ _ _ _ rs0 _ (hr0.below yw_W11) p0).mono ?_
    rintro e W15 ⟨B15, rfl, o15, z15⟩
    clear uc12 uc13 uc14
    obtain ⟨W16, hW16⟩ : ∃ W, W = W15.alloc (.cells #[.int .i64 sy0, .int .i64 st0, .slice B15 n0 n0] 37) := ⟨_, rfl⟩
    have cb0 : Blk W16 W15.heap.size 37 #[.int .i64 sy0, .int .i64 st0, .slice B15 n0 n0] := by rw [hW16]; exact Blk.new W15 _ _
    have z16 : Below W15.heap.size W15 W16 := by rw [hW16]; exact (Below.refl _ _).alloc (Nat.le_refl _) _
    have HW16 := Lib.hid hW16
    clear hW16
    have yW0_W15 : Below W0.heap.size W0 W15 := yW0_W11.trans (z15.mono yW0_W11.size)
    have yW0_W16 : Below W0.heap.size W0 W16 := yW0_W15.trans (z16.mono yW0_W15.size)
    have uc17 : W16.cell? ⟨(w.heap.size + 1), 0, none⟩ = some (.int .i64 d1_0) := (bb1.below' yW0_W16).cell 0
    have uc18 : W16.cell? ⟨(w.heap.size + 1), 1, none⟩ = some (.slice A1_0 n1_0 c1_0) := (bb1.below' yW0_W16).cell 1
    have uc19 : W16.cell? ⟨(w.heap.size + 1), 2, none⟩ = some (.slice A1_1 n1_1 c1_1) := (bb1.below' yW0_W16).cell 2
    go_upto_region 10 with fail
    rw [← HW16.out]
    go_wp2_with fail
    have yw_W15 : Below w.heap.size w W15 := yw_W11.trans (z15.mono yw_W11.size)
    have yw_W16 : Below w.heap.size w W16 := yw_W15.trans (z16.mono yw_W15.size)
    refine (toProof_any _ _ _ _ x1_0 _ _ _ x1_1 _ (h1_0.below yw_W16) p1_0 (h1_1.below yw_W16) p1_1 HR1_1.out).mono ?_
    rintro e W20 ⟨B20_0, B20_1, us20_1, rfl, o20_0, o20_1, hn20_1, z20⟩
    have HN20_1 := Lib.hid hn20_1; clear hn20_1
    clear uc17 uc18 uc19
    obtain ⟨W21, hW21⟩ : ∃ W, W = W20.alloc (.cells #[.int .i64 d1_0, .slice B20_0 n1_0 n1_0, .slice B20_1 n1_1 n1_1] 39) := ⟨_, rfl⟩
    have cb1 : Blk W21 W20.heap.size 39 #[.int .i64 d1_0, .slice B20_0 n1_0 n1_0, .slice B20_1 n1_1 n1_1] := by rw [hW21]; exact Blk.new W20 _ _
    have z21 : Below W20.heap.size W20 W21 := by rw [hW21]; exact (Below.refl _ _).alloc (Nat.le_refl _) _
    have HW21 := Lib.hid hW21
    clear hW21
    have yW16_W21 : Below W16.heap.size W16 W21 := z20.trans (z21.mono z20.size)
    have uc22 : W21.cell? ⟨W15.heap.size, 0, none⟩ = some (.int .i64 sy0) := (cb0.below' yW16_W21).cell 0
    have uc23 : W21.cell? ⟨W15.heap.size, 1, none⟩ = some (.int .i64 st0) := (cb0.below' yW16_W21).cell 1
    have uc24 : W21.cell? ⟨W15.heap.size, 2, none⟩ = some (.slice B15 n0 n0) := (cb0.below' yW16_W21).cell 2
    have uc25 : W21.cell? ⟨W20.heap.size, 0, none⟩ = some (.int .i64 d1_0) := cb1.cell 0
    have uc26 : W21.cell? ⟨W20.heap.size, 1, none⟩ = some (.slice B20_0 n1_0 n1_0) := cb1.cell 1
    have uc27 : W21.cell? ⟨W20.heap.size, 2, none⟩ = some (.slice B20_1 n1_1 n1_1) := cb1.cell 2
    go_upto_region 11 with fail
    rw [← HW21.out]
    go_wp2_with fail
    have yW15_W20 : Below W15.heap.size W15 W20 := z16.trans (z20.mono z16.size)
    have yW15_W21 : Below W15.heap.size W15 W21 := yW15_W20.trans (z21.mono yW15_W20.size)
    refine (formulaOfI_any _ _ _ _ _ rs0 _ _ _ _ x1_0 _ _ _ us20_1 _ (o15.below yW15_W21).as3 (o20_0.below z21).asI (o20_1.below z21).sii p0 p1_0 p1_1 (rows_le HN20_1.out HR1_1.out) (Nat.le_refl _)).mono ?_
    rw [HN20_1.out, ← HRES.out]
    rintro e W28 ⟨A28r, c28r, ts28r, B28r, d28r, us28r, C28r, k28r, rfl, oF28, z28⟩
    clear uc22 uc23 uc24 uc25 uc26 uc27
    obtain ⟨W29, hW29⟩ : ∃ W, W = W28.alloc (.cells #[.int .i64 res.1.q, .int .i64 res.1.h, .int .i64 res.1.a, .slice A28r ts28r.length c28r, .slice B28r us28r.length d28r, .slice C28r res.1.O.length k28r] 32) := ⟨_, rfl⟩
    have ib : Blk W29 W28.heap.size 32 #[.int .i64 res.1.q, .int .i64 res.1.h, .int .i64 res.1.a, .slice A28r ts28r.length c28r, .slice B28r us28r.length d28r, .slice C28r res.1.O.length k28r] := by rw [hW29]; exact Blk.new W28 _ _
    have z29 : Below W28.heap.size W28 W29 := by rw [hW29]; exact (Below.refl _ _).alloc (Nat.le_refl _) _
    have HW29 := Lib.hid hW29
    clear hW29
    go_upto_region 12 with fail
    rw [← HW29.out]
    have uc30 : W29.cell? ⟨W28.heap.size, 0, none⟩ = some (.int .i64 res.1.q) := ib.cell 0
    have uc31 : W29.cell? ⟨W28.heap.size, 1, none⟩ = some (.int .i64 res.1.h) := ib.cell 1
    have uc32 : W29.cell? ⟨W28.heap.size, 2, none⟩ = some (.int .i64 res.1.a) := ib.cell 2
    have uc33 : W29.cell? ⟨W28.heap.size, 3, none⟩ = some (.slice A28r ts28r.length c28r) := ib.cell 3
    have uc34 : W29.cell? ⟨W28.heap.size, 4, none⟩ = some (.slice B28r us28r.length d28r) := ib.cell 4
    have uc35 : W29.cell? ⟨W28.heap.size, 5, none⟩ = some (.slice C28r res.1.O.length k28r) := ib.cell 5
    have yW11_W16 : Below W11.heap.size W11 W16 := z15.trans (z16.mono z15.size)
    have yW11_W20 : Below W11.heap.size W11 W20 := yW11_W16.trans (z20.mono yW11_W16.size)
    have yW11_W21 : Below W11.heap.size W11 W21 := yW11_W20.trans (z21.mono yW11_W20.size)
    have yW11_W28 : Below W11.heap.size W11 W28 := yW11_W21.trans (z28.mono yW11_W21.size)
    have yW11_W29 : Below W11.heap.size W11 W29 := yW11_W28.trans (z29.mono yW11_W28.size)
    have uc36 : W29.cell? ⟨g11, 0, none⟩ = some (.int .i64 res.1.q) := (bx11.below' yW11_W29).cell 0
    have uc37 : W29.cell? ⟨g11, 1, none⟩ = some (.int .i64 res.1.h) := (bx11.below' yW11_W29).cell 1
    have uc38 : W29.cell? ⟨g11, 2, none⟩ = some (.int .i64 res.1.a) := (bx11.below' yW11_W29).cell 2
    have uc39 : W29.cell? ⟨g11, 3, none⟩ = some (.slice A11r ts11r.length c11r) := (bx11.below' yW11_W29).cell 3
    have uc40 : W29.cell? ⟨g11, 4, none⟩ = some (.slice B11r us11r.length d11r) := (bx11.below' yW11_W29).cell 4
    have uc41 : W29.cell? ⟨g11, 5, none⟩ = some (.slice C11r res.1.O.length k11r) := (bx11.below' yW11_W29).cell 5
    go_wp2_with fail
    refine (eqFormula_r (oF28.below z29) (oF11.below yW11_W29) LX0.out).mono ?_
    rintro e W42 ⟨rfl, z42⟩
    skip
    clear uc30 uc31 uc32 uc33 uc34 uc35 uc36 uc37 uc38 uc39 uc40 uc41
    have yW16_W28 : Below W16.heap.size W16 W28 := yW16_W21.trans (z28.mono yW16_W21.size)
    have yW16_W29 : Below W16.heap.size W16 W29 := yW16_W28.trans (z29.mono yW16_W28.size)
    have yW16_W42 : Below W16.heap.size W16 W42 := yW16_W29.trans (z42.mono yW16_W29.size)
    have uc43 : W42.cell? ⟨W15.heap.size, 0, none⟩ = some (.int .i64 sy0) := (cb0.below' yW16_W42).cell 0
    have uc44 : W42.cell? ⟨W15.heap.size, 1, none⟩ = some (.int .i64 st0) := (cb0.below' yW16_W42).cell 1
    have uc45 : W42.cell? ⟨W15.heap.size, 2, none⟩ = some (.slice B15 n0 n0) := (cb0.below' yW16_W42).cell 2
    have yW0_W20 : Below W0.heap.size W0 W20 := yW0_W16.trans (z20.mono yW0_W16.size)
    have yW0_W21 : Below W0.heap.size W0 W21 := yW0_W20.trans (z21.mono yW0_W20.size)
    have yW0_W28 : Below W0.heap.size W0 W28 := yW0_W21.trans (z28.mono yW0_W21.size)
    have yW0_W29 : Below W0.heap.size W0 W29 := yW0_W28.trans (z29.mono yW0_W28.size)
    have yW0_W42 : Below W0.heap.size W0 W42 := yW0_W29.trans (z42.mono yW0_W29.size)
    have uc46 : W42.cell? ⟨w.heap.size, 0, none⟩ = some (.int .i64 sy0) := (bb0.below' yW0_W42).cell 0
    have uc47 : W42.cell? ⟨w.heap.size, 1, none⟩ = some (.int .i64 st0) := (bb0.below' yW0_W42).cell 1
    have uc48 : W42.cell? ⟨w.heap.size, 2, none⟩ = some (.slice A0 n0 k0) := (bb0.below' yW0_W42).cell 2
    have yw_W20 : Below w.heap.size w W20 := yw_W16.trans (z20.mono yw_W16.size)
    have yw_W21 : Below w.heap.size w W21 := yw_W20.trans (z21.mono yw_W20.size)
    have yw_W28 : Below w.heap.size w W28 := yw_W21.trans (z28.mono yw_W21.size)
    have yw_W29 : Below w.heap.size w W29 := yw_W28.trans (z29.mono yw_W28.size)
    have yw_W42 : Below w.heap.size w W42 := yw_W29.trans (z42.mono yw_W29.size)
    have yW15_W28 : Below W15.heap.size W15 W28 := yW15_W21.trans (z28.mono yW15_W21.size)
    have yW15_W29 : Below W15.heap.size W15 W29 := yW15_W28.trans (z29.mono yW15_W28.size)
    have yW15_W42 : Below W15.heap.size W15 W42 := yW15_W29.trans (z42.mono yW15_W29.size)
    go_wp2_with fail
    go_region_held3 (fun w' => w'.cell? ⟨W15.heap.size, 0, none⟩ = some (.int .i64 sy0) ∧ w'.cell? ⟨W15.heap.size, 1, none⟩ = some (.int .i64 st0) ∧ w'.cell? ⟨W15.heap.size, 2, none⟩ = some (.slice B15 n0 n0) ∧ w'.cell? ⟨w.heap.size, 0, none⟩ = some (.int .i64 sy0) ∧ w'.cell? ⟨w.heap.size, 1, none⟩ = some (.int .i64 st0) ∧ w'.cell? ⟨w.heap.size, 2, none⟩ = some (.slice A0 n0 k0))
      (first
        | (go_keep; done)
        | (exact ⟨((cb0.below' yW16_W42).below' zz50).cell 0, ((cb0.below' yW16_W42).below' zz50).cell 1, ((cb0.below' yW16_W42).below' zz50).cell 2, ((bb0.below' yW0_W42).below' zz50).cell 0, ((bb0.below' yW0_W42).below' zz50).cell 1, ((bb0.below' yW0_W42).below' zz50).cell 2⟩)
        | (exact ⟨((cb0.below' yW16_W42).below' zz49).cell 0, ((cb0.below' yW16_W42).below' zz49).cell 1, ((cb0.below' yW16_W42).below' zz49).cell 2, ((bb0.below' yW0_W42).below' zz49).cell 0, ((bb0.below' yW0_W42).below' zz49).cell 1, ((bb0.below' yW0_W42).below' zz49).cell 2⟩))
      (first
        | (go_at_call 14; refine (toMachine_any _ _ _ _ _ rs0 _ ((hr0.below yw_W42).drewN 1) p0).mono ?_; rintro e W49 ⟨B49, rfl, o49, z49⟩; have zz49 : Below W42.heap.size W42 W49 := below_undrew z49)
        | (go_at_call 18; refine (eqMachine_any _ _ _ _ _ rs0 _ _ _ _ _ rs0 _ ((o15.below yW15_W42).below zz49).rd o49.rd p0).mono ?_; rintro e W50 ⟨rfl, z50⟩; have zz50 : Below W42.heap.size W42 W50 := zz49.trans (z50.mono zz49.size)))
    rw [sameMachineB_self]
    clear uc43 uc44 uc45 uc46 uc47 uc48
    clear o49 z49 zz49 z50
    have yW21_W29 : Below W21.heap.size W21 W29 := z28.trans (z29.mono z28.size)
    have yW21_W42 : Below W21.heap.size W21 W42 := yW21_W29.trans (z42.mono yW21_W29.size)
    have yW21_W50 : Below W21.heap.size W21 W50 := yW21_W42.trans (zz50.mono yW21_W42.size)
    have uc51 : W50.cell? ⟨W20.heap.size, 0, none⟩ = some (.int .i64 d1_0) := (cb1.below' yW21_W50).cell 0
    have uc52 : W50.cell? ⟨W20.heap.size, 1, none⟩ = some (.slice B20_0 n1_0 n1_0) := (cb1.below' yW21_W50).cell 1
    have uc53 : W50.cell? ⟨W20.heap.size, 2, none⟩ = some (.slice B20_1 n1_1 n1_1) := (cb1.below' yW21_W50).cell 2
    have yW0_W50 : Below W0.heap.size W0 W50 := yW0_W42.trans (zz50.mono yW0_W42.size)
    have uc54 : W50.cell? ⟨(w.heap.size + 1), 0, none⟩ = some (.int .i64 d1_0) := (bb1.below' yW0_W50).cell 0
    have uc55 : W50.cell? ⟨(w.heap.size + 1), 1, none⟩ = some (.slice A1_0 n1_0 c1_0) := (bb1.below' yW0_W50).cell 1
    have uc56 : W50.cell? ⟨(w.heap.size + 1), 2, none⟩ = some (.slice A1_1 n1_1 c1_1) := (bb1.below' yW0_W50).cell 2
    have yw_W50 : Below w.heap.size w W50 := yw_W42.trans (zz50.mono yw_W42.size)
    have yW20_W28 : Below W20.heap.size W20 W28 := z21.trans (z28.mono z21.size)
    have yW20_W29 : Below W20.heap.size W20 W29 := yW20_W28.trans (z29.mono yW20_W28.size)
    have yW20_W42 : Below W20.heap.size W20 W42 := yW20_W29.trans (z42.mono yW20_W29.size)
    have yW20_W50 : Below W20.heap.size W20 W50 := yW20_W42.trans (zz50.mono yW20_W42.size)
    go_wp2_with fail
    go_region_held3 (fun w' => w'.cell? ⟨W20.heap.size, 0, none⟩ = some (.int .i64 d1_0) ∧ w'.cell? ⟨W20.heap.size, 1, none⟩ = some (.slice B20_0 n1_0 n1_0) ∧ w'.cell? ⟨W20.heap.size, 2, none⟩ = some (.slice B20_1 n1_1 n1_1) ∧ w'.cell? ⟨(w.heap.size + 1), 0, none⟩ = some (.int .i64 d1_0) ∧ w'.cell? ⟨(w.heap.size + 1), 1, none⟩ = some (.slice A1_0 n1_0 c1_0) ∧ w'.cell? ⟨(w.heap.size + 1), 2, none⟩ = some (.slice A1_1 n1_1 c1_1))
      (first
        | (go_keep; done)
        | (exact ⟨((cb1.below' yW21_W50).below' zz58).cell 0, ((cb1.below' yW21_W50).below' zz58).cell 1, ((cb1.below' yW21_W50).below' zz58).cell 2, ((bb1.below' yW0_W50).below' zz58).cell 0, ((bb1.below' yW0_W50).below' zz58).cell 1, ((bb1.below' yW0_W50).below' zz58).cell 2⟩)
        | (exact ⟨((cb1.below' yW21_W50).below' zz57).cell 0, ((cb1.below' yW21_W50).below' zz57).cell 1, ((cb1.below' yW21_W50).below' zz57).cell 2, ((bb1.below' yW0_W50).below' zz57).cell 0, ((bb1.below' yW0_W50).below' zz57).cell 1, ((bb1.below' yW0_W50).below' zz57).cell 2⟩))
      (first
        | (go_at_call 15; refine (toProof_any _ _ _ _ x1_0 _ _ _ x1_1 _ ((h1_0.below yw_W50).drewN 1) p1_0 ((h1_1.below yw_W50).drewN 1) p1_1 HR1_1.out).mono ?_; rintro e W57 ⟨B57_0, B57_1, us57_1, rfl, o57_0, o57_1, hn57_1, z57⟩; have zz57 : Below W50.heap.size W50 W57 := below_undrew z57; have HN57_1 := Lib.hid hn57_1; clear hn57_1)
        | (go_at_call 19; refine (eqProof_any _ _ _ _ x1_0 _ _ _ us20_1 _ _ _ _ x1_0 _ _ _ us57_1 _ ((o20_0.below yW20_W50).below zz57).asI o57_0.asI p1_0 ((o20_1.below yW20_W50).below zz57).sii o57_1.sii p1_1 (rows_le HN20_1.out HR1_1.out)).mono ?_; rintro e W58 ⟨rfl, z58⟩; have zz58 : Below W50.heap.size W50 W58 := zz57.trans (z58.mono zz57.size)))
    rw [HN20_1.out, HN57_1.out, sameProofB_self]
    clear uc51 uc52 uc53 uc54 uc55 uc56
    clear o57_0 o57_1 z57 zz57 z58
    have TM0 : Hid (227 ∈ [227, 2]) := Lib.hid (by decide)
    have TI0 : Hid (2 ∈ [227, 2]) := Lib.hid (by decide)
    have TN_Machine : Hid (37 ∉ [227, 2]) := Lib.hid (by decide)
    have TL_Machine : Hid (24 ∉ [227, 2]) := Lib.hid (by decide)
    have TN_SS : Hid (25 ∉ [227, 2]) := Lib.hid (by decide)
    have TN_Proof : Hid (39 ∉ [227, 2]) := Lib.hid (by decide)
    have TL_Proof : Hid (28 ∉ [227, 2]) := Lib.hid (by decide)
    have TN_Formula : Hid (32 ∉ [227, 2]) := Lib.hid (by decide)
    have hs_W1 : W0.heap.size ≤ W1.heap.size := z1.size
    have hs_W5 : W1.heap.size ≤ W5.heap.size := z5.size
    have hs_W11 : W5.heap.size ≤ W11.heap.size := z11.size
    have hs_W15 : W11.heap.size ≤ W15.heap.size := z15.size
    have hs_W16 : W15.heap.size ≤ W16.heap.size := z16.size
    have hs_W20 : W16.heap.size ≤ W20.heap.size := z20.size
    have hs_W21 : W20.heap.size ≤ W21.heap.size := z21.size
    have hs_W28 : W21.heap.size ≤ W28.heap.size := z28.size
    have hs_W29 : W28.heap.size ≤ W29.heap.size := z29.size
    have hs_W42 : W29.heap.size ≤ W42.heap.size := z42.size
    have hs_W50 : W42.heap.size ≤ W50.heap.size := zz50.size
    have hs_W58 : W50.heap.size ≤ W58.heap.size := zz58.size
    have yW15_W50 : Below W15.heap.size W15 W50 := yW15_W42.trans (zz50.mono yW15_W42.size)
    have yW15_W58 : Below W15.heap.size W15 W58 := yW15_W50.trans (zz58.mono yW15_W50.size)
    have m0 : Mk W58 W11.heap.size W21.heap.size 227 3 B15 n0 := (((o15.below yW15_W58)).mono (by omega)).mk (fun b hb => by have := o15.blk_lt b hb; omega)
    have yW20_W58 : Below W20.heap.size W20 W58 := yW20_W50.trans (zz58.mono yW20_W50.size)
    have m1_0 : Mk W58 W11.heap.size W21.heap.size 2 1 B20_0 n1_0 := (((o20_0.below yW20_W58)).mono (by omega)).mk (fun b hb => by have := o20_0.blk_lt b hb; omega)
    have m1_1 : MkII W58 W11.heap.size W21.heap.size 25 2 B20_1 n1_1 n1_1 us20_1 := by
      have h1 := (o20_1.below yW20_W58)
      exact ⟨h1.1.mono (by omega), fun t ht => ((h1.2.1 t ht).mono (by omega)).mk (fun b hb => by have := (o20_1.2.1 t ht).blk_lt b hb; omega)⟩
    have pu1_1 : total us20_1 ≤ 1048576 := by rw [total_same HN20_1.out]; exact pt1_1
    have yW0_W58 : Below W0.heap.size W0 W58 := yW0_W50.trans (zz58.mono yW0_W50.size)
    have yW16_W50 : Below W16.heap.size W16 W50 := yW16_W42.trans (zz50.mono yW16_W42.size)
    have yW16_W58 : Below W16.heap.size W16 W58 := yW16_W50.trans (zz58.mono yW16_W50.size)
    have yW21_W58 : Below W21.heap.size W21 W58 := yW21_W50.trans (zz58.mono yW21_W50.size)
    have yw_W58 : Below w.heap.size w W58 := yw_W50.trans (zz58.mono yw_W50.size)
    have yW28_W42 : Below W28.heap.size W28 W42 := z29.trans (z42.mono z29.size)
    have yW28_W50 : Below W28.heap.size W28 W50 := yW28_W42.trans (zz50.mono yW28_W42.size)
    have yW28_W58 : Below W28.heap.size W28 W58 := yW28_W50.trans (zz58.mono yW28_W50.size)
    have yW11_W42 : Below W11.heap.size W11 W42 := yW11_W29.trans (z42.mono yW11_W29.size)
    have yW11_W50 : Below W11.heap.size W11 W50 := yW11_W42.trans (zz50.mono yW11_W42.size)
    have yW11_W58 : Below W11.heap.size W11 W58 := yW11_W50.trans (zz58.mono yW11_W50.size)
    have io0 := (oF28.below yW28_W58)
    have so0 := (oF11.below yW11_W58)
    have yW29_W50 : Below W29.heap.size W29 W50 := z42.trans (zz50.mono z42.size)
    have yW29_W58 : Below W29.heap.size W29 W58 := yW29_W50.trans (zz58.mono yW29_W50.size)
    have ibm := (ib.below' yW29_W58)
    have sbm := (bx11.below' yW11_W58)
    have bm0 := (bb0.below' yW0_W58)
    have cm0 := (cb0.below' yW16_W58)
    have bm1 := (bb1.below' yW0_W58)
    have cm1 := (cb1.below' yW21_W58)
    have cq0 := cm0
    have uc59 : W58.cell? ⟨W15.heap.size, 0, none⟩ = some (.int .i64 sy0) := cq0.cell 0
    have uc60 : W58.cell? ⟨W15.heap.size, 1, none⟩ = some (.int .i64 st0) := cq0.cell 1
    have uc61 : W58.cell? ⟨W15.heap.size, 2, none⟩ = some (.slice B15 n0 n0) := cq0.cell 2
    go_wp2_with fail
    refine (markMachine_m [227, 2] _ _ _ _ _ _ _ W11.heap.size W21.heap.size m0 p0 TM0.out TN_Machine.out (by omega) (by omega)).mono ?_
    rintro e W62 ⟨rfl, f62⟩
    clear uc59 uc60 uc61
    have cq1 := cm1.mkf f62 TN_Proof.out
    have uc63 : W62.cell? ⟨W20.heap.size, 0, none⟩ = some (.int .i64 d1_0) := cq1.cell 0
    have uc64 : W62.cell? ⟨W20.heap.size, 1, none⟩ = some (.slice B20_0 n1_0 n1_0) := cq1.cell 1
    have uc65 : W62.cell? ⟨W20.heap.size, 2, none⟩ = some (.slice B20_1 n1_1 n1_1) := cq1.cell 2
    go_wp2_with fail
    refine (markProof_m [227, 2] _ _ _ _ _ _ _ us20_1 _ _ W11.heap.size W21.heap.size (m1_0.mkf f62) p1_0 (m1_1.mkf f62 TN_SS.out) p1_1 pu1_1 TI0.out TN_SS.out TN_Proof.out (by omega) (by omega)).mono ?_
    rintro e W66 ⟨rfl, f66⟩
    clear uc63 uc64 uc65
    have ff66 := f62.trans f66
    have io0 := io0.mkf_far ff66 (fun b hb => .inr hb)
    have so0 := FmR.mkf_below oF11 (Nat.le_refl _) so0 ff66
    have ibm := ibm.mkf ff66 TN_Formula.out
    have sbm := sbm.mkf ff66 TN_Formula.out
    have bm0 := bm0.mkf ff66 TL_Machine.out
    have bm1 := bm1.mkf ff66 TL_Proof.out
    have yM : Below w.heap.size w W66 := yw_W58.trans (ff66.below yw_W11.size yw_W58.size)
    have hs_W66 : W58.heap.size ≤ W66.heap.size := ff66.size
    clear ff66
    have uc67 : W66.cell? ⟨W28.heap.size, 0, none⟩ = some (.int .i64 res.1.q) := ibm.cell 0
    have uc68 : W66.cell? ⟨W28.heap.size, 1, none⟩ = some (.int .i64 res.1.h) := ibm.cell 1
    have uc69 : W66.cell? ⟨W28.heap.size, 2, none⟩ = some (.int .i64 res.1.a) := ibm.cell 2
    have uc70 : W66.cell? ⟨W28.heap.size, 3, none⟩ = some (.slice A28r ts28r.length c28r) := ibm.cell 3
    have uc71 : W66.cell? ⟨W28.heap.size, 4, none⟩ = some (.slice B28r us28r.length d28r) := ibm.cell 4
    have uc72 : W66.cell? ⟨W28.heap.size, 5, none⟩ = some (.slice C28r res.1.O.length k28r) := ibm.cell 5
    have uc73 : W66.cell? ⟨g11, 0, none⟩ = some (.int .i64 res.1.q) := sbm.cell 0
    have uc74 : W66.cell? ⟨g11, 1, none⟩ = some (.int .i64 res.1.h) := sbm.cell 1
    have uc75 : W66.cell? ⟨g11, 2, none⟩ = some (.int .i64 res.1.a) := sbm.cell 2
    have uc76 : W66.cell? ⟨g11, 3, none⟩ = some (.slice A11r ts11r.length c11r) := sbm.cell 3
    have uc77 : W66.cell? ⟨g11, 4, none⟩ = some (.slice B11r us11r.length d11r) := sbm.cell 4
    have uc78 : W66.cell? ⟨g11, 5, none⟩ = some (.slice C11r res.1.O.length k11r) := sbm.cell 5
    have gneg : ¬ ((1 : Int) + ((n0 * 3 : Nat) : Int) + ((n1_0 + total us20_1 : Nat) : Int) < 0) := by omega
    go_wp2_with fail
    refine (eqFormula_r io0 so0 LX0.out).mono ?_
    rintro e W79 ⟨rfl, z79⟩
    skip
    clear uc67 uc68 uc69 uc70 uc71 uc72 uc73 uc74 uc75 uc76 uc77 uc78
    clear gneg
    have hs_W79 : W66.heap.size ≤ W79.heap.size := z79.size
    have uc80 : W79.cell? ⟨W28.heap.size, 0, none⟩ = some (.int .i64 res.1.q) := (ibm.below' z79).cell 0
    have uc81 : W79.cell? ⟨W28.heap.size, 1, none⟩ = some (.int .i64 res.1.h) := (ibm.below' z79).cell 1
    have uc82 : W79.cell? ⟨W28.heap.size, 2, none⟩ = some (.int .i64 res.1.a) := (ibm.below' z79).cell 2
    have uc83 : W79.cell? ⟨W28.heap.size, 3, none⟩ = some (.slice A28r ts28r.length c28r) := (ibm.below' z79).cell 3
    have uc84 : W79.cell? ⟨W28.heap.size, 4, none⟩ = some (.slice B28r us28r.length d28r) := (ibm.below' z79).cell 4
    have uc85 : W79.cell? ⟨W28.heap.size, 5, none⟩ = some (.slice C28r res.1.O.length k28r) := (ibm.below' z79).cell 5
    go_wp2_with fail
    refine (markFormula_r (hi := W28.heap.size) (io0.below z79) LX0.out (fun b hb => (oF28.blk_ge b hb).2) (by omega)).mono ?_
    rintro e W86 ⟨rfl, eF, t86⟩
    clear uc80 uc81 uc82 uc83 uc84 uc85
    have so0 := FmR.touch_below oF11 (by omega) (so0.below z79) t86
    have bm0 := (bm0.below' z79).touch t86 (.inl (by have := bb0.lt; omega))
    have bm1 := (bm1.below' z79).touch t86 (.inl (by have := bb1.lt; omega))
    have ibm := (ibm.below' z79).touch t86 (.inr (Nat.le_refl _))
    have sbm := (sbm.below' z79).touch t86 (.inl (by have := bx11.lt; omega))
    have yw_W79 : Below w.heap.size w W79 := yM.trans (z79.mono yM.size)
    have hlow : w.heap.size ≤ W21.heap.size := by have := yw_W11.size; omega
    have yN : Below w.heap.size w W86 := yw_W79.trans (t86.below hlow yw_W79.size)
    have hs_W86 : W79.heap.size ≤ W86.heap.size := t86.size
    clear t86
    have uc87 : W86.cell? ⟨W28.heap.size, 0, none⟩ = some (.int .i64 res.1.q) := ibm.cell 0
    have uc88 : W86.cell? ⟨W28.heap.size, 1, none⟩ = some (.int .i64 res.1.h) := ibm.cell 1
    have uc89 : W86.cell? ⟨W28.heap.size, 2, none⟩ = some (.int .i64 res.1.a) := ibm.cell 2
    have uc90 : W86.cell? ⟨W28.heap.size, 3, none⟩ = some (.slice A28r ts28r.length c28r) := ibm.cell 3
    have uc91 : W86.cell? ⟨W28.heap.size, 4, none⟩ = some (.slice B28r us28r.length d28r) := ibm.cell 4
    have uc92 : W86.cell? ⟨W28.heap.size, 5, none⟩ = some (.slice C28r res.1.O.length k28r) := ibm.cell 5
    go_wp2_with fail
    refine (heldFormula_r eF).mono ?_
    rintro e W93 ⟨rfl, z93⟩
    clear uc87 uc88 uc89 uc90 uc91 uc92
    have gneg : ¬ ((1 : Int) + (fmTot res.1 : Int) < 0) := by omega
    have uc94 : W93.cell? ⟨w.heap.size, 0, none⟩ = some (.int .i64 sy0) := (bm0.below' z93).cell 0
    have uc95 : W93.cell? ⟨w.heap.size, 1, none⟩ = some (.int .i64 st0) := (bm0.below' z93).cell 1
    have uc96 : W93.cell? ⟨w.heap.size, 2, none⟩ = some (.slice A0 n0 k0) := (bm0.below' z93).cell 2
    have uc97 : W93.cell? ⟨(w.heap.size + 1), 0, none⟩ = some (.int .i64 d1_0) := (bm1.below' z93).cell 0
    have uc98 : W93.cell? ⟨(w.heap.size + 1), 1, none⟩ = some (.slice A1_0 n1_0 c1_0) := (bm1.below' z93).cell 1
    have uc99 : W93.cell? ⟨(w.heap.size + 1), 2, none⟩ = some (.slice A1_1 n1_1 c1_1) := (bm1.below' z93).cell 2
    clear uc94 uc95 uc96 uc97 uc98 uc99
    have yw_W93 : Below w.heap.size w W93 := yN.trans (z93.mono yN.size)
    have KEEPB : Hid (∀ cur, Below W93.heap.size W93 cur → cur.cell? ⟨w.heap.size, 0, none⟩ = some (.int .i64 sy0) ∧ cur.cell? ⟨w.heap.size, 1, none⟩ = some (.int .i64 st0) ∧ cur.cell? ⟨w.heap.size, 2, none⟩ = some (.slice A0 n0 k0) ∧ cur.cell? ⟨(w.heap.size + 1), 0, none⟩ = some (.int .i64 d1_0) ∧ cur.cell? ⟨(w.heap.size + 1), 1, none⟩ = some (.slice A1_0 n1_0 c1_0) ∧ cur.cell? ⟨(w.heap.size + 1), 2, none⟩ = some (.slice A1_1 n1_1 c1_1)) := Lib.hid (fun cur h =>
      ⟨((bm0.below' z93).below' h).cell 0, ((bm0.below' z93).below' h).cell 1, ((bm0.below' z93).below' h).cell 2, ((bm1.below' z93).below' h).cell 0, ((bm1.below' z93).below' h).cell 1, ((bm1.below' z93).below' h).cell 2⟩)
    have YBB := Lib.hid yw_W93
    go_upto_region 31 with fail
    go_cut [15, 16] (fun s15 s16 wx => FormBox W93.heap.size W93 s15 s16 res wx)
    case first =>
      have hp : Below W93.heap.size W93 W93.drew := below_drewN (Below.refl _ _) 1
      refine wp_region_noPanic ?_
      refine wp_region_held_drew (S := (fun w' => w'.cell? ⟨w.heap.size, 0, none⟩ = some (.int .i64 sy0) ∧ w'.cell? ⟨w.heap.size, 1, none⟩ = some (.int .i64 st0) ∧ w'.cell? ⟨w.heap.size, 2, none⟩ = some (.slice A0 n0 k0) ∧ w'.cell? ⟨(w.heap.size + 1), 0, none⟩ = some (.int .i64 d1_0) ∧ w'.cell? ⟨(w.heap.size + 1), 1, none⟩ = some (.slice A1_0 n1_0 c1_0) ∧ w'.cell? ⟨(w.heap.size + 1), 2, none⟩ = some (.slice A1_1 n1_1 c1_1))) (by kernel_rfl) ?_ (fun hHeld => ?_)
      · exact KEEPB.out _ hp
      generalize W93.drew = Wc at *
      refine wpAnyH_take (i := 0) (v := ?_) rfl (by kernel_rfl) (by kernel_rfl) (by kernel_rfl) (fun _ _ _ h => h) (Or.inl ⟨by rfl, ?_⟩) (by assumption) ?_
      rotate_left
      · intro w hSw
        try dsimp only at hSw
        obtain ⟨hs0_, hs1_, hs2_, hs3_, hs4_, hs5_⟩ := hSw
        go_simp
        try with_reducible rfl
      try simp only [Act.put, List.setIfInBounds_toArray]
      refine wpAnyH_take (i := 2) (v := ?_) rfl (by kernel_rfl) (by kernel_rfl) (by kernel_rfl) (fun _ _ _ h => h) (Or.inl ⟨by rfl, ?_⟩) (by assumption) ?_
      rotate_left
      · intro w hSw
        try dsimp only at hSw
        obtain ⟨hs0_, hs1_, hs2_, hs3_, hs4_, hs5_⟩ := hSw
        go_simp
        try with_reducible rfl
      try simp only [Act.put]
      simp only [List.getElem_toArray, List.getElem_cons_zero, List.getElem_cons_succ, List.setIfInBounds_toArray, List.set_cons_zero, List.set_cons_succ]
      refine wpAnyH_batch (n := 7) (is := [1, 3, 4, 5, 6, 7, 8]) [⟨1, [], (RCall (fun a_ e_ b_ => ToMachine a_ sy0 st0 n0 rs0 e_ b_)), false⟩, ⟨3, [], (RCall (fun a_ e_ b_ => ToProof a_ d1_0 n1_0 x1_0 n1_1 (nums x1_1) e_ b_)), false⟩, ⟨4, [1, 3], (RCall (fun a_ e_ b_ => NewFmI a_ res e_ b_)), false⟩, ⟨5, [4], (RKnown (fun vl => ∃ x, vl = [x, x])), true⟩, ⟨6, [5, 4], (RKnown (fun vl => ∃ x0_ x1_, vl = [x0_, .tuple #[x0_, x1_], .tuple #[x0_, x1_]])), true⟩, ⟨7, [5, 4], (RKnown (fun vl => ∃ x0_ x1_, vl = [x1_, .tuple #[x0_, x1_], .tuple #[x0_, x1_]])), true⟩, ⟨8, [], (RMade (fun g => .pointer (some ⟨g, 0, none⟩)) 32 #[.int .i64 0, .int .i64 0, .int .i64 0, .slice none 0 0, .slice none 0 0, .slice none 0 0]), false⟩] rfl rfl (by kernel_rfl) (by decide) (by kernel_rfl) (fun _ _ _ _ h => h) (fun w' hb => ?_) (BStay.all_cons (RCall.stay) <| BStay.all_cons (RCall.stay) <| BStay.all_cons (RCall.stay) <| BStay.all_cons (RKnown.stay) <| BStay.all_cons (RKnown.stay) <| BStay.all_cons (RKnown.stay) <| BStay.all_cons (RMade.stay) <| BStay.all_nil) ?_ ?_
      · exact KEEPB.out _ (hp.trans (hb.mono hp.size))
      · refine BStep.all_cons (BStep.mk rfl (fun vs l h w1 hz hn hsp K hK => ?_)) ?_
        · simp only [putAll, List.map, Act.put, List.getElem_toArray, List.getElem_cons_zero, List.getElem_cons_succ, List.setIfInBounds_toArray, List.set_cons_zero, List.set_cons_succ] at hK ⊢
          clear hn hsp
          go_simp
          have yq := YBB.out.trans ((hp.trans (hz.mono hp.size)).mono YBB.out.size)
          refine (toMachine_any _ _ _ _ _ rs0 _ (hr0.below yq) p0).mono ?_
          rintro e W2 hT
          obtain ⟨B100, rfl, o100, z100⟩ := id hT
          exact hK _ _ z100 ⟨_, _, _, rfl, hT, rfl, Below.refl _ _⟩
        refine BStep.all_cons (BStep.mk rfl (fun vs l h w1 hz hn hsp K hK => ?_)) ?_
        · simp only [putAll, List.map, Act.put, List.getElem_toArray, List.getElem_cons_zero, List.getElem_cons_succ, List.setIfInBounds_toArray, List.set_cons_zero, List.set_cons_succ] at hK ⊢
          clear hn hsp
          go_simp
          have yq := YBB.out.trans ((hp.trans (hz.mono hp.size)).mono YBB.out.size)
          refine (toProof_any _ _ _ _ x1_0 _ _ _ x1_1 _ (h1_0.below yq) p1_0 (h1_1.below yq) p1_1 HR1_1.out).mono ?_
          rintro e W2 hT
          obtain ⟨B101_0, B101_1, us101_1, rfl, o101_0, o101_1, hn101_1, z101⟩ := id hT
          exact hK _ _ z101 ⟨_, _, _, rfl, hT, rfl, Below.refl _ _⟩
        refine BStep.all_cons (BStep.mk rfl (fun vs l h w1 hz hn hsp K hK => ?_)) ?_
        · simp only [putAll, List.map, dstAt, Act.put, List.getElem_toArray, List.getElem?_toArray, List.getElem_cons_zero, List.getElem_cons_succ, List.getElem?_cons_zero, List.getElem?_cons_succ, Option.bind_some, List.setIfInBounds_toArray, List.set_cons_zero, List.set_cons_succ] at hK ⊢
          simp only [List.forall_mem_cons, List.map] at hn
          obtain ⟨nn1, nn3, nn4, nn5, nn6, nn7, nn8, _⟩ := hn
          have q1 := (nn1 (by simp)).2.2.2
          have q3 := (nn3 (by simp)).2.2.2
          obtain ⟨wa100, wb100, v100, ee100, ⟨B100, hv100, o100, z100⟩, _, zb100⟩ := q1
          cases hv100
          simp only [List.head?_cons, Option.some.injEq] at ee100
          replace o100 := o100.below zb100
          obtain ⟨wa101, wb101, v101, ee101, ⟨B101_0, B101_1, us101_1, hv101, o101_0, o101_1, hn101_1, z101⟩, _, zb101⟩ := q3
          cases hv101
          simp only [List.head?_cons, Option.some.injEq] at ee101
          have HN101_1 := Lib.hid hn101_1
          clear hn101_1
          replace o101_0 := o101_0.below zb101
          replace o101_1 := o101_1.below zb101
          rw [ee100, ee101] at hK ⊢
          go_simp
          (with_reducible refine (formulaOfI_any _ _ _ _ _ rs0 _ _ _ _ x1_0 _ _ _ us101_1 _ o100.as3 o101_0.asI o101_1.sii p0 p1_0 p1_1 (rows_le HN101_1.out HR1_1.out) (Nat.le_refl _)).mono ?_)
          rw [HN101_1.out, ← HRES.out]
          rintro e W2 hT
          obtain ⟨A102r, c102r, ts102r, B102r, d102r, us102r, C102r, k102r, rfl, oF102, z102⟩ := id hT
          exact hK _ _ z102 ⟨_, _, _, rfl, hT, rfl, Below.refl _ _⟩
        refine BStep.all_cons (BStep.pure rfl (fun vs l h w1 hz hn hsp => ?_)) ?_
        · simp only [putAll, List.map, dstAt, Act.put, List.getElem_toArray, List.getElem?_toArray, List.getElem_cons_zero, List.getElem_cons_succ, List.getElem?_cons_zero, List.getElem?_cons_succ, Option.bind_some, List.setIfInBounds_toArray, List.set_cons_zero, List.set_cons_succ]
          simp only [List.forall_mem_cons, List.map] at hn
          obtain ⟨nn1, nn3, nn4, nn5, nn6, nn7, nn8, _⟩ := hn
          have q4 := (nn4 (by simp)).2.2.2
          exact ⟨_, ⟨_, rfl⟩, fun _ _ => rfl⟩
        refine BStep.all_cons (BStep.pure rfl (fun vs l h w1 hz hn hsp => ?_)) ?_
        · simp only [putAll, List.map, dstAt, Act.put, List.getElem_toArray, List.getElem?_toArray, List.getElem_cons_zero, List.getElem_cons_succ, List.getElem?_cons_zero, List.getElem?_cons_succ, Option.bind_some, List.setIfInBounds_toArray, List.set_cons_zero, List.set_cons_succ]
          simp only [List.forall_mem_cons, List.map] at hn
          obtain ⟨nn1, nn3, nn4, nn5, nn6, nn7, nn8, _⟩ := hn
          have q5 := (nn5 (by simp)).2.2.2
          have q4 := (nn4 (by simp)).2.2.2
          obtain ⟨y_, ey_⟩ := q5
          simp only [List.cons.injEq, and_true] at ey_
          obtain ⟨ey1, ey2⟩ := ey_
          obtain ⟨wa, wb, v, ee, ⟨A103r, c103r, ts103r, B103r, d103r, us103r, C103r, k103r, hv, oF103, z103⟩, _, zb⟩ := q4
          cases hv
          simp only [List.head?_cons, Option.some.injEq] at ee
          rw [ey1, ← ey2, ee]
          exact ⟨_, ⟨_, _, rfl⟩, fun _ _ => rfl⟩
        refine BStep.all_cons (BStep.pure rfl (fun vs l h w1 hz hn hsp => ?_)) ?_
        · simp only [putAll, List.map, dstAt, Act.put, List.getElem_toArray, List.getElem?_toArray, List.getElem_cons_zero, List.getElem_cons_succ, List.getElem?_cons_zero, List.getElem?_cons_succ, Option.bind_some, List.setIfInBounds_toArray, List.set_cons_zero, List.set_cons_succ]
          simp only [List.forall_mem_cons, List.map] at hn
          obtain ⟨nn1, nn3, nn4, nn5, nn6, nn7, nn8, _⟩ := hn
          have q5 := (nn5 (by simp)).2.2.2
          have q4 := (nn4 (by simp)).2.2.2
          obtain ⟨y_, ey_⟩ := q5
          simp only [List.cons.injEq, and_true] at ey_
          obtain ⟨ey1, ey2⟩ := ey_
          obtain ⟨wa, wb, v, ee, ⟨A104r, c104r, ts104r, B104r, d104r, us104r, C104r, k104r, hv, oF104, z104⟩, _, zb⟩ := q4
          cases hv
          simp only [List.head?_cons, Option.some.injEq] at ee
          rw [ey1, ← ey2, ee]
          exact ⟨_, ⟨_, _, rfl⟩, fun _ _ => rfl⟩
        refine BStep.all_cons (BStep.mk rfl (fun vs l h w1 hz hn hsp K hK => ?_)) ?_
        · simp only [putAll, List.map, Act.put, List.getElem_toArray, List.getElem_cons_zero, List.getElem_cons_succ, List.setIfInBounds_toArray, List.set_cons_zero, List.set_cons_succ] at hK ⊢
          clear hn hsp
          go_simp
          exact hK _ _ ((Below.refl _ _).alloc (Nat.le_refl _) _) ⟨_, rfl, Blk.new _ _ _, Nat.le_refl _, by simp⟩
        exact BStep.all_nil
      · intro vs l h w1 hz ht hsp
        simp only [Through, List.forall_mem_cons, List.map] at ht
        simp only [putAll, markAll, dstAt, Act.put, List.getElem?_toArray, List.getElem?_cons_zero, List.getElem?_cons_succ, Option.bind_some, List.setIfInBounds_toArray, List.set_cons_zero, List.set_cons_succ]
        obtain ⟨⟨_, _, _, _⟩, ⟨_, _, _, _⟩, ⟨hl_, hh_, hx_, wa, wb, v, em, ⟨A102r, c102r, ts102r, B102r, d102r, us102r, C102r, k102r, hv, oF102, zz_⟩, ew_, zb⟩, ⟨_, _, _, y_, ey_⟩, ⟨_, _, _, p0_0, p0_1, ex0_⟩, ⟨_, _, _, p1_0, p1_1, ex1_⟩, ⟨ka_, _, ma_, gB, eB, hB, gB1, gB2⟩, _⟩ := ht
        cases hv
        simp only [List.head?_cons, Option.some.injEq, List.cons.injEq, and_true] at em eB ey_ ex0_ ex1_
        obtain ⟨ey1, ey2⟩ := ey_
        obtain ⟨ea0, eb0, ec0⟩ := ex0_
        rw [em] at ec0
        cases ec0
        obtain ⟨ea1, eb1, ec1⟩ := ex1_
        rw [em] at ec1
        cases ec1
        rw [ea0, ea1, eB]
        have hsz := hp.size
        have lB : W93.heap.size ≤ gB := by omega
        have hpz : Below W93.heap.size W93 w1 := hp.trans (hz.mono hp.size)
        replace oF102 := (oF102.below zb).mono (lo' := W93.heap.size) (by omega)
        try simp only [putAll, markAll, dstAt, Act.put, List.getElem_toArray, List.getElem?_toArray, List.getElem_cons_zero, List.getElem_cons_succ, List.getElem?_cons_zero, List.getElem?_cons_succ, Option.bind_some, List.setIfInBounds_toArray, List.set_cons_zero, List.set_cons_succ]
        refine wpAnyH_ready (rs := [9]) (by kernel_rfl) (by simp) ?_
        refine AllReadyH.cons rfl (fun K hK => ?_) ?_
        · have xx0 := hB.cell 0
          have xx1 := hB.cell 1
          have xx2 := hB.cell 2
          have xx3 := hB.cell 3
          have xx4 := hB.cell 4
          have xx5 := hB.cell 5
          have ff0 := hB.frozen 0
          have ff1 := hB.frozen 1
          have ff2 := hB.frozen 2
          have ff3 := hB.frozen 3
          have ff4 := hB.frozen 4
          have ff5 := hB.frozen 5
          go_simp
          have hpf := form_below hpz lB (.int .i64 res.1.q) (.int .i64 res.1.h) (.int .i64 res.1.a) (.slice A102r ts102r.length c102r) (.slice B102r us102r.length d102r) (.slice C102r res.1.O.length k102r)
          have hbf := form_set hB (.int .i64 res.1.q) (.int .i64 res.1.h) (.int .i64 res.1.a) (.slice A102r ts102r.length c102r) (.slice B102r us102r.length d102r) (.slice C102r res.1.O.length k102r)
          have oF102 := form_far2 hB oF102 (.int .i64 res.1.q) (.int .i64 res.1.h) (.int .i64 res.1.a) (.slice A102r ts102r.length c102r) (.slice B102r us102r.length d102r) (.slice C102r res.1.O.length k102r)
          refine hK.out _ _ ?_ (fun hHeld => ?_)
          · exact KEEPB.out _ hpf
          clear hK K
          try simp only [Act.put, List.setIfInBounds_toArray]
          try simp only [putAll, markAll, dstAt, Act.put, List.getElem_toArray, List.getElem?_toArray, List.getElem_cons_zero, List.getElem_cons_succ, List.getElem?_cons_zero, List.getElem?_cons_succ, Option.bind_some, List.setIfInBounds_toArray, List.set_cons_zero, List.set_cons_succ]
          refine wpAnyH_ready (rs := [10]) (by kernel_rfl) (by simp) ?_
          refine AllReadyH.cons rfl (fun K hK => ?_) ?_
          · go_simp
            refine hK.out _ _ ?_ (fun hHeld => ?_)
            · exact KEEPB.out _ hpf
            clear hK K
            try simp only [Act.put, List.setIfInBounds_toArray, List.set_cons_zero, List.set_cons_succ]
            refine wpAnyH_done (by kernel_rfl) ?_ _
            refine NoPanic.normal ?_
            go_wp2_with fail
            go_meet
            exact ⟨_, A102r, c102r, ts102r, B102r, d102r, us102r, C102r, k102r, rfl, rfl, lB, hbf, oF102, hpf⟩
          exact AllReadyH.nil
        exact AllReadyH.nil
    case rest =>
      obtain ⟨g105, A105r, c105r, ts105r, B105r, d105r, us105r, C105r, k105r, rfl, rfl, hg105, bx105, oF105, z105⟩ := hcut
      clear KEEPB YBB
      obtain ⟨W105, hWc⟩ : ∃ W, W = wc := ⟨_, rfl⟩
      rw [← hWc] at oF105 z105 bx105
      rw [← hWc]
      clear hWc
      have uc106 : W105.cell? ⟨g105, 0, none⟩ = some (.int .i64 res.1.q) := bx105.cell 0
      have uc107 : W105.cell? ⟨g105, 1, none⟩ = some (.int .i64 res.1.h) := bx105.cell 1
      have uc108 : W105.cell? ⟨g105, 2, none⟩ = some (.int .i64 res.1.a) := bx105.cell 2
      have uc109 : W105.cell? ⟨g105, 3, none⟩ = some (.slice A105r ts105r.length c105r) := bx105.cell 3
      have uc110 : W105.cell? ⟨g105, 4, none⟩ = some (.slice B105r us105r.length d105r) := bx105.cell 4
      have uc111 : W105.cell? ⟨g105, 5, none⟩ = some (.slice C105r res.1.O.length k105r) := bx105.cell 5
      have yW86_W105 : Below W86.heap.size W86 W105 := z93.trans (z105.mono z93.size)
      have uc112 : W105.cell? ⟨g11, 0, none⟩ = some (.int .i64 res.1.q) := (sbm.below' yW86_W105).cell 0
      have uc113 : W105.cell? ⟨g11, 1, none⟩ = some (.int .i64 res.1.h) := (sbm.below' yW86_W105).cell 1
      have uc114 : W105.cell? ⟨g11, 2, none⟩ = some (.int .i64 res.1.a) := (sbm.below' yW86_W105).cell 2
      have uc115 : W105.cell? ⟨g11, 3, none⟩ = some (.slice A11r ts11r.length c11r) := (sbm.below' yW86_W105).cell 3
      have uc116 : W105.cell? ⟨g11, 4, none⟩ = some (.slice B11r us11r.length d11r) := (sbm.below' yW86_W105).cell 4
      have uc117 : W105.cell? ⟨g11, 5, none⟩ = some (.slice C11r res.1.O.length k11r) := (sbm.below' yW86_W105).cell 5
      go_wp2_with fail
      refine (eqFormula_r oF105 (so0.below yW86_W105) LX0.out).mono ?_
      rintro e W118 ⟨rfl, z118⟩
      skip
      clear uc106 uc107 uc108 uc109 uc110 uc111 uc112 uc113 uc114 uc115 uc116 uc117
      have yW86_W118 : Below W86.heap.size W86 W118 := yW86_W105.trans (z118.mono yW86_W105.size)
      have uc119 : W118.cell? ⟨W28.heap.size, 0, none⟩ = some (.int .i64 res.1.q) := (ibm.below' yW86_W118).cell 0
      have uc120 : W118.cell? ⟨W28.heap.size, 1, none⟩ = some (.int .i64 res.1.h) := (ibm.below' yW86_W118).cell 1
      have uc121 : W118.cell? ⟨W28.heap.size, 2, none⟩ = some (.int .i64 res.1.a) := (ibm.below' yW86_W118).cell 2
      have uc122 : W118.cell? ⟨W28.heap.size, 3, none⟩ = some (.slice A28r ts28r.length c28r) := (ibm.below' yW86_W118).cell 3
      have uc123 : W118.cell? ⟨W28.heap.size, 4, none⟩ = some (.slice B28r us28r.length d28r) := (ibm.below' yW86_W118).cell 4
      have uc124 : W118.cell? ⟨W28.heap.size, 5, none⟩ = some (.slice C28r res.1.O.length k28r) := (ibm.below' yW86_W118).cell 5
      go_wp2_with fail
      refine (heldFormula_r (eF.below yW86_W118)).mono ?_
      rintro e W125 ⟨rfl, z125⟩
      clear uc119 uc120 uc121 uc122 uc123 uc124
      have yw_W105 : Below w.heap.size w W105 := yw_W93.trans (z105.mono yw_W93.size)
      have yw_W118 : Below w.heap.size w W118 := yw_W105.trans (z118.mono yw_W105.size)
      have yw_W125 : Below w.heap.size w W125 := yw_W118.trans (z125.mono yw_W118.size)
      go_wp2_with fail
      go_ret
      exact ⟨rfl, yw_W125⟩
end Go.Proofs.Ytpnkelmmfcmijaa
