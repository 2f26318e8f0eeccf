/-
  The walk of the law FnExactStepTag: it returns true, and nothing that was there before has turned.
-/
import Derived.Test.YtgkdfjbffnlnpaaTagT
import Derived.Test.YtgkdfjbffnlnpaaHelpTag
namespace Go.Proofs.Ytgkdfjbffnlnpaa
open Go.RowKit

theorem szTag_parts {n m : Nat} {rows : List Nat} (h : 0 ≤ szTagF 1048576 n rows m) : n ≤ 1048576 ∧ rows.sum ≤ 1048576 ∧ m ≤ 1048576 := by
  unfold szTagF at h
  split at h
  · omega
  · rename_i h1
    have h2 := szRows_sum (n :: rows) 1048576 (by omega)
    simp at h2
    unfold szF at h
    split at h <;> omega
theorem row_le {ts : List Sl} {t : Sl} (h : t ∈ ts) : t.xs.length ≤ total ts := by
  unfold total
  obtain ⟨a, b, rfl⟩ := List.append_of_mem h
  simp; omega
theorem total_nums (ts : List Sl) : total ts = ((nums ts).map List.length).sum := by simp [total, nums, Function.comp_def]
theorem mem_nums {ts us : List Sl} (h : nums us = nums ts) {b : Nat} (hb : ∀ t ∈ ts, t.xs.length ≤ b) : ∀ u ∈ us, u.xs.length ≤ b := by
  intro u hu
  have h1 : u.xs ∈ nums us := List.mem_map.2 ⟨u, hu, rfl⟩
  rw [h] at h1
  obtain ⟨t, ht, e⟩ := List.mem_map.1 h1
  rw [← e]; exact hb t ht
theorem stepTag_len (d : Int) (words : List (List Int)) (hs xs : List Int) : (stepTagF d words hs xs).1.length ≤ 1000 := by
  unfold stepTagF
  split
  · simp
  · split
    · simp
    · split
      · simp only [List.length_drop]; omega
      · simp

set_option maxRecDepth 100000 in
set_option maxHeartbeats 4000000 in
theorem lawStepTag (d : Int) (A : Option Addr) (n c : Nat) (ts : List Sl) (B : Option Addr) (m k : Nat) (hs : List Int) (C : Option Addr) (l r : Nat) (xs : List Int) (w : World) (hx : SII w A n ts) (hy : SI w B m hs) (hz : SI w C l xs)
    (hn : n ≤ 9223372036854775807) (hm : m ≤ 9223372036854775807) (hl : l ≤ 9223372036854775807) (hns : ∀ t ∈ ts, t.xs.length ≤ 9223372036854775807) :
    Calls Try.prog 3 #[.agg #[.int .i64 d, .slice A n c, .slice B m k], .slice C l r] w fun e w' => e = .returned (.bool true) ∧ Below w.heap.size w w' := by
  obtain ⟨W0, hW0⟩ : ∃ W, W = w.alloc (.cells #[.int .i64 d, .slice A n c, .slice B m k] 25) := ⟨_, rfl⟩
  have b0 : Blk W0 w.heap.size 25 #[.int .i64 d, .slice A n c, .slice B m k] := by rw [hW0]; exact Blk.new w _ _
  have z0 : Below w.heap.size w W0 := by rw [hW0]; exact (Below.refl _ _).alloc (Nat.le_refl _) _
  have HW0 := Lib.hid hW0
  clear hW0
  by_cases hbig : 1048576 < l
  · have hbig' : (1048576 : Int) < (l : Int) := by omega
    go_enter Try.func3, Try.ntmps3
    go_wp2_with fail
    rw [← HW0.out]
    go_ret
    exact ⟨rfl, z0⟩
  have hbig' : ¬ (1048576 : Int) < (l : Int) := by omega
  go_enter Try.func3, Try.ntmps3
  go_wp2_with fail
  rw [← HW0.out]
  refine (szTag_any _ _ _ _ ts _ _ _ _ _ (hx.below z0) hn hm hns (by omega) (by omega)).mono ?_
  rintro e W1 ⟨rfl, z1⟩
  obtain ⟨z, hz1⟩ : ∃ z, z = szTagF 1048576 n (ts.map (fun t => t.xs.length)) m := ⟨_, rfl⟩
  have HZ := Lib.hid hz1
  rw [← hz1]
  clear hz1
  have b1 := b0.below' z1
  have y1 : Below w.heap.size w W1 := z0.trans (z1.mono z0.size)
  have u0 : W1.cell? ⟨w.heap.size, 0, none⟩ = some (.int .i64 d) := b1.cell 0
  have u1 : W1.cell? ⟨w.heap.size, 1, none⟩ = some (.slice A n c) := b1.cell 1
  have u2 : W1.cell? ⟨w.heap.size, 2, none⟩ = some (.slice B m k) := b1.cell 2
  by_cases hneg : z < 0
  · go_wp2_with fail
    go_ret
    exact ⟨rfl, y1⟩
  obtain ⟨p1, p2, p3⟩ := szTag_parts (n := n) (m := m) (rows := ts.map (fun t => t.xs.length)) (by rw [← HZ.out]; omega)
  have ptot : total ts ≤ 1048576 := p2
  have HR : Hid (∀ t ∈ ts, t.xs.length ≤ 1048576) := fun t ht => by have := row_le ht; omega
  clear hns
  -- the reference
  go_wp2_with fail
  refine (toTag_any _ _ _ _ ts _ _ _ hs _ (hx.below y1) (hy.below y1) p1 p3 HR.out).mono ?_
  rintro e W2 ⟨A2, us2, B2, rfl, o2, hnu2, hcu2, oh2, hap2, z2⟩
  have HN2 := Lib.hid hnu2
  clear hnu2 hcu2 hap2
  have y2 : Below w.heap.size w W2 := y1.trans (z2.mono y1.size)
  clear u0 u1 u2
  go_wp2_with fail
  refine (toI _ _ _ xs _ (hz.below y2) (by omega)).mono ?_
  rintro e W3 ⟨A3, rfl, o3, z3⟩
  have y3 : Below w.heap.size w W3 := y2.trans (z3.mono y2.size)
  have hsl : hs.length ≤ 1048576 := by have := hy.len; omega
  go_wp2_with fail
  refine (specStepTag_any _ _ _ _ us2 _ _ _ hs _ _ _ xs _ (o2.below z3).sii (oh2.below z3).rd o3.rd p1 (by omega) (by omega) (mem_nums HN2.out HR.out)).mono ?_
  rw [HN2.out]
  obtain ⟨res, hres⟩ : ∃ res, res = stepTagF d (nums ts) hs xs := ⟨_, rfl⟩
  rw [← hres]
  have HRES := Lib.hid hres
  have hrl : res.1.length ≤ 1000 := by rw [hres]; exact stepTag_len _ _ _ _
  clear hres
  rintro e W4 ⟨A4, c4, rfl, o4, z4⟩
  have y4 : Below w.heap.size w W4 := y3.trans (z4.mono y3.size)
  have b4 := ((b1.below' z2).below' z3).below' z4
  have u0 : W4.cell? ⟨w.heap.size, 0, none⟩ = some (.int .i64 d) := b4.cell 0
  have u1 : W4.cell? ⟨w.heap.size, 1, none⟩ = some (.slice A n c) := b4.cell 1
  have u2 : W4.cell? ⟨w.heap.size, 2, none⟩ = some (.slice B m k) := b4.cell 2
  -- the copies
  go_wp2_with fail
  refine (toTag_any _ _ _ _ ts _ _ _ hs _ (hx.below y4) (hy.below y4) p1 p3 HR.out).mono ?_
  rintro e W5 ⟨A5, us5, B5, rfl, o5, hnu5, hcu5, oh5, hap5, z5⟩
  have HN5 := Lib.hid hnu5
  clear hnu5 hcu5 hap5 u0 u1 u2
  go_wp2_with fail
  obtain ⟨W6, hW6⟩ : ∃ W, W = W5.alloc (.cells #[.int .i64 d, .slice A5 n n, .slice B5 hs.length hs.length] 29) := ⟨_, rfl⟩
  have b6 : Blk W6 W5.heap.size 29 #[.int .i64 d, .slice A5 n n, .slice B5 hs.length hs.length] := by rw [hW6]; exact Blk.new W5 _ _
  have z6 : Below W5.heap.size W5 W6 := by rw [hW6]; exact (Below.refl _ _).alloc (Nat.le_refl _) _
  rw [← hW6]
  clear hW6
  have y6 : Below w.heap.size w W6 := (y4.trans (z5.mono y4.size)).trans (z6.mono (y4.trans (z5.mono y4.size)).size)
  refine (toI _ _ _ xs _ (hz.below y6) (by omega)).mono ?_
  rintro e W7 ⟨A7, rfl, o7, z7⟩
  have y7 : Below w.heap.size w W7 := y6.trans (z7.mono y6.size)
  have b7 := b6.below' z7
  have u0 : W7.cell? ⟨W5.heap.size, 0, none⟩ = some (.int .i64 d) := b7.cell 0
  have u1 : W7.cell? ⟨W5.heap.size, 1, none⟩ = some (.slice A5 n n) := b7.cell 1
  have u2 : W7.cell? ⟨W5.heap.size, 2, none⟩ = some (.slice B5 hs.length hs.length) := b7.cell 2
  have o5' := (o5.below z6).below z7
  have oh5' := (oh5.below z6).below z7
  -- the program
  go_wp2_with fail
  refine (stepTag_any _ _ _ _ us5 _ _ _ hs _ _ _ xs _ o5'.sii oh5'.rd o7.rd p1 (by omega) (by omega) (mem_nums HN5.out HR.out)).mono ?_
  rw [HN5.out, ← HRES.out]
  rintro e W8 ⟨A8, c8, rfl, o8, z8⟩
  have y8 : Below w.heap.size w W8 := y7.trans (z8.mono y7.size)
  have w48 : Below W4.heap.size W4 W8 := (((z5.trans (z6.mono z5.size)).trans (z7.mono (by have := z5.size; have := z6.size; omega))).trans (z8.mono (by have := z5.size; have := z6.size; have := z7.size; omega)))
  have o48 := o4.below w48
  clear u0 u1 u2
  go_wp2_with fail
  refine (eqI _ _ _ _ _ _ res.1 res.1 _ o8.rd o48.rd (by omega)).mono ?_
  rintro e W9 ⟨rfl, q9, rfl⟩
  rw [sameI_self]
  have b8 : Blk (W8.drewN q9) W5.heap.size 29 #[.int .i64 d, .slice A5 n n, .slice B5 hs.length hs.length] := (b7.below' z8).drewN q9
  have c8b : Blk (W8.drewN q9) w.heap.size 25 #[.int .i64 d, .slice A n c, .slice B m k] := (b4.below' w48).drewN q9
  have u0 : (W8.drewN q9).cell? ⟨W5.heap.size, 0, none⟩ = some (.int .i64 d) := b8.cell 0
  have u1 : (W8.drewN q9).cell? ⟨W5.heap.size, 1, none⟩ = some (.slice A5 n n) := b8.cell 1
  have u2 : (W8.drewN q9).cell? ⟨W5.heap.size, 2, none⟩ = some (.slice B5 hs.length hs.length) := b8.cell 2
  have v0 : (W8.drewN q9).cell? ⟨w.heap.size, 0, none⟩ = some (.int .i64 d) := c8b.cell 0
  have v1 : (W8.drewN q9).cell? ⟨w.heap.size, 1, none⟩ = some (.slice A n c) := c8b.cell 1
  have v2 : (W8.drewN q9).cell? ⟨w.heap.size, 2, none⟩ = some (.slice B m k) := c8b.cell 2
  have y9 : Below w.heap.size w (W8.drewN q9) := below_drewN y8 q9
  have z89 : Below W8.heap.size W8 (W8.drewN q9) := below_drewN (Below.refl _ _) q9
  have o89 : Own (W8.drewN q9) W7.heap.size 2 1 A8 res.1.length c8 (ints res.1) := o8.drewN q9
  have o49 : Own (W8.drewN q9) W3.heap.size 2 1 A4 res.1.length c4 (ints res.1) := o48.drewN q9
  have o59 := (o5'.below z8).drewN q9
  have oh59 := (oh5'.below z8).drewN q9
  have o79 := (o7.below z8).drewN q9
  have hA7 : ∀ b, blk A7 = some b → b < W7.heap.size := fun b hb => o7.blk_lt b hb
  have hz79 : W7.heap.size ≤ (W8.drewN q9).heap.size := z8.size
  clear z8 o8 o48 o5' oh5' o7 z89
  generalize W8.drewN q9 = W9 at *
  go_upto_region 13 with fail
  go_cut [56] (fun s56 wx => s56 = .bool false ∧ Below W9.heap.size W9 wx)
  case first =>
    go_region_held3 (fun w' => w'.cell? ⟨W5.heap.size, 0, none⟩ = some (.int .i64 d) ∧ w'.cell? ⟨W5.heap.size, 1, none⟩ = some (.slice A5 n n) ∧ w'.cell? ⟨W5.heap.size, 2, none⟩ = some (.slice B5 hs.length hs.length) ∧
        w'.cell? ⟨w.heap.size, 0, none⟩ = some (.int .i64 d) ∧ w'.cell? ⟨w.heap.size, 1, none⟩ = some (.slice A n c) ∧ w'.cell? ⟨w.heap.size, 2, none⟩ = some (.slice B m k))
      (first
        | (go_keep; done)
        | (exact ⟨(b8.below' z11).cell 0, (b8.below' z11).cell 1, (b8.below' z11).cell 2, (c8b.below' z11).cell 0, (c8b.below' z11).cell 1, (c8b.below' z11).cell 2⟩)
        | (exact ⟨(b8.below' z10).cell 0, (b8.below' z10).cell 1, (b8.below' z10).cell 2, (c8b.below' z10).cell 0, (c8b.below' z10).cell 1, (c8b.below' z10).cell 2⟩))
      (first
        | (go_at_call 6; refine (toTag_any _ _ _ _ ts _ _ _ hs _ ((hx.below y9).drewN 1) ((hy.below y9).drewN 1) p1 p3 HR.out).mono ?_; rintro e W10 ⟨A10, us10, B10, rfl, o10, hnu10, hcu10, oh10, hap10, z10'⟩; have z10 : Below W9.heap.size W9 W10 := below_undrew z10'; have HN10 := Lib.hid hnu10; clear hnu10 hcu10 hap10)
        | (go_at_call 10; refine (eqTag_any _ _ _ _ us5 _ _ _ hs _ _ _ _ us10 _ _ _ hs _ (o59.below z10).sii (oh59.below z10).rd o10.sii oh10.rd p1 hsl (mem_nums HN5.out HR.out)).mono ?_; rintro e W11 ⟨rfl, z11'⟩; have z11 : Below W9.heap.size W9 W11 := z10.trans (z11'.mono z10.size)))
    go_wp2_with fail
    go_meet
    exact ⟨by rw [HN5.out, HN10.out, sameTagB_self]; rfl, z11⟩
  case rest =>
    obtain ⟨rfl, z11⟩ := hcut
    have y11 : Below w.heap.size w wc := y9.trans (z11.mono y9.size)
    clear u0 u1 u2 v0 v1 v2
    go_wp2_with fail
    refine (toI _ _ _ xs _ (hz.below y11) (by omega)).mono ?_
    rintro e W12 ⟨A12, rfl, o12, z12⟩
    have z12' : Below W9.heap.size W9 W12 := z11.trans (z12.mono z11.size)
    have y12 : Below w.heap.size w W12 := y11.trans (z12.mono y11.size)
    go_wp2_with fail
    refine (eqI _ _ _ _ _ _ xs xs _ (o79.below z12').rd o12.rd (by omega)).mono ?_
    rintro e W13 ⟨rfl, q13, rfl⟩
    rw [sameI_self]
    have z13 : Below W9.heap.size W9 (W12.drewN q13) := below_drewN z12' q13
    have y13 : Below w.heap.size w (W12.drewN q13) := below_drewN y12 q13
    generalize W12.drewN q13 = W13 at *
    clear z12 z12' y12 z11 y11 o12
    have b13 := b8.below' z13
    have c13 := c8b.below' z13
    have u0 : W13.cell? ⟨W5.heap.size, 0, none⟩ = some (.int .i64 d) := b13.cell 0
    have u1 : W13.cell? ⟨W5.heap.size, 1, none⟩ = some (.slice A5 n n) := b13.cell 1
    have u2 : W13.cell? ⟨W5.heap.size, 2, none⟩ = some (.slice B5 hs.length hs.length) := b13.cell 2
    -- the marks on the copies
    have hzW : W4.heap.size ≤ W5.heap.size ∧ W5.heap.size ≤ W6.heap.size ∧ W6.heap.size ≤ W7.heap.size := ⟨z5.size, z6.size, z7.size⟩
    obtain ⟨hz45, hz56, hz67⟩ := hzW
    have t1 : 2 ∈ [2] := by decide
    have t2 : 23 ∉ [2] := by decide
    have t3 : 29 ∉ [2] := by decide
    have t4 : 25 ∉ [2] := by decide
    have T1 := Lib.hid t1
    have T2 := Lib.hid t2
    have T3 := Lib.hid t3
    have T4 := Lib.hid t4
    clear t1 t2 t3 t4
    have m5 : MkII W13 W4.heap.size W7.heap.size 23 2 A5 n n us5 := by
      have := o59.below z13
      exact ⟨this.1, fun t ht => (this.2.1 t ht).mk (fun b hb => by have := (o5.2.1 t ht).blk_lt b hb; omega)⟩
    have mh5 : Mk W13 W4.heap.size W7.heap.size 2 1 B5 hs.length := (oh59.below z13).mk (fun b hb => by have := oh5.blk_lt b hb; omega)
    have m7 : Mk W13 W4.heap.size W7.heap.size 2 1 A7 l := (((o79.below z13).mono (show W4.heap.size ≤ W6.heap.size by omega))).mk (fun b hb => by have := hA7 b hb; omega)
    have htot5 : total us5 ≤ 1048576 := by rw [total_nums, HN5.out, ← total_nums]; exact ptot
    go_wp2_with fail
    refine (markTag_m [2] _ _ _ _ us5 _ _ _ _ _ W4.heap.size W7.heap.size m5 mh5 T1.out T2.out T3.out p1 hsl htot5 (by omega) (by omega)).mono ?_
    rintro e W14 ⟨rfl, f14⟩
    clear u0 u1 u2
    go_wp2_with fail
    refine (markI_m [2] _ _ _ _ _ W4.heap.size W7.heap.size (m7.mkf f14) T1.out (by omega) (by omega)).mono ?_
    rintro e W15 ⟨rfl, f15⟩
    have f := f14.trans f15
    clear f14 f15
    have o815 : Own W15 W7.heap.size 2 1 A8 res.1.length c8 (ints res.1) := (o89.below z13).mkf_far f (fun b hb => .inr (o89.blk_ge b hb))
    have o415 : Own W15 W3.heap.size 2 1 A4 res.1.length c4 (ints res.1) := (o49.below z13).mkf_far f (fun b hb => .inl (o4.blk_lt b hb))
    have c15 := c13.mkf f T4.out
    have y15 : Below w.heap.size w W15 := y13.trans (f.below y4.size y13.size)
    have s15 : W7.heap.size ≤ W15.heap.size := by have := z13.size; have := f.size; omega
    clear f
    have gneg : ¬ ((1 : Int) + ((total us5 : Int) + (hs.length : Int)) + (l : Int) < 0) := by omega
    go_wp2_with fail
    refine (eqI _ _ _ _ _ _ res.1 res.1 _ o815.rd o415.rd (by omega)).mono ?_
    rintro e W16 ⟨rfl, q16, rfl⟩
    rw [sameI_self]
    have o816 := o815.drewN q16
    have o416 := o415.drewN q16
    have c16 := c15.drewN q16
    have y16 := below_drewN y15 q16
    have s16 : W7.heap.size ≤ (W15.drewN q16).heap.size := s15
    generalize W15.drewN q16 = W16 at *
    clear o815 o415 c15 y15 s15
    -- the marks on the result
    go_wp2_with fail
    refine (markI _ _ _ res.1 _ _ W7.heap.size W16.heap.size (.inr o816) (fun b hb => o816.blk_lt b hb) (by omega) (by omega)).mono ?_
    rintro e W17 ⟨rfl, o17, t17, _⟩
    have o417 := o416.touch t17 (fun b hb => .inl (by have := o4.blk_lt b hb; omega))
    have c17 := c16.touch t17 (.inl (by have := b4.lt; omega))
    have y17 : Below w.heap.size w W17 := y16.trans (t17.below (by have := y4.size; omega) y16.size)
    have s17 : W7.heap.size ≤ W17.heap.size := by have := t17.size; omega
    clear o416 c16 y16 t17
    go_wp2_with fail
    refine (heldI _ _ _ (marks 1 res.1.length) _ _ o17.si (by omega) (by omega)).mono ?_
    rintro e W18 ⟨rfl, rfl⟩
    rw [heldF_marks]
    have v0 : W17.cell? ⟨w.heap.size, 0, none⟩ = some (.int .i64 d) := c17.cell 0
    have v1 : W17.cell? ⟨w.heap.size, 1, none⟩ = some (.slice A n c) := c17.cell 1
    have v2 : W17.cell? ⟨w.heap.size, 2, none⟩ = some (.slice B m k) := c17.cell 2
    have hneg2 : ¬ ((1 : Int) + (res.1.length : Int) < 0) := by omega
    go_wp2_with fail
    -- the second call
    refine (toTag_any _ _ _ _ ts _ _ _ hs _ (hx.below y17) (hy.below y17) p1 p3 HR.out).mono ?_
    rintro e W19 ⟨A19, us19, B19, rfl, o19, hnu19, hcu19, oh19, hap19, z19⟩
    have HN19 := Lib.hid hnu19
    clear hnu19 hcu19 hap19 v0 v1 v2
    have y19 : Below w.heap.size w W19 := y17.trans (z19.mono y17.size)
    go_wp2_with fail
    refine (toI _ _ _ xs _ (hz.below y19) (by omega)).mono ?_
    rintro e W20 ⟨A20, rfl, o20, z20⟩
    have y20 : Below w.heap.size w W20 := y19.trans (z20.mono y19.size)
    go_wp2_with fail
    refine (stepTag_any _ _ _ _ us19 _ _ _ hs _ _ _ xs _ (o19.below z20).sii (oh19.below z20).rd o20.rd p1 (by omega) (by omega) (mem_nums HN19.out HR.out)).mono ?_
    rw [HN19.out, ← HRES.out]
    rintro e W21 ⟨A21, c21, rfl, o21, z21⟩
    have y21 : Below w.heap.size w W21 := y20.trans (z21.mono y20.size)
    have z1721 : Below W17.heap.size W17 W21 := (z19.trans (z20.mono z19.size)).trans (z21.mono (by have := z19.size; have := z20.size; omega))
    go_wp2_with fail
    refine (eqI _ _ _ _ _ _ res.1 res.1 _ o21.rd (o417.below z1721).rd (by omega)).mono ?_
    rintro e W22 ⟨rfl, q22, rfl⟩
    rw [sameI_self]
    have o22 := (o17.below z1721).si.drewN q22
    have y22 := below_drewN y21 q22
    generalize W21.drewN q22 = W22 at *
    go_wp2_with fail
    refine (heldI _ _ _ (marks 1 res.1.length) _ _ o22 (by omega) (by omega)).mono ?_
    rintro e W23 ⟨rfl, rfl⟩
    rw [heldF_marks]
    go_wp2_with fail
    go_ret
    exact ⟨rfl, y22⟩
end Go.Proofs.Ytgkdfjbffnlnpaa
