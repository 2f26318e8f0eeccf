/-
  Contract of the reference's StepMachine.
-/
import Derived.Test.YtbedghebckflmaaMachU
namespace Go.Proofs.Ytbedghebckflmaa
open Go.RowKit

theorem conf_good {sy st : Int} {rs : List R3} {q : Int} {xs ys : List Int} (h : validConfB sy st rs q xs ys = true) : (xs = [] ∨ lastI xs ≠ 0) ∧ (ys = [] ∨ lastI ys ≠ 0) := by
  unfold validConfB at h
  simp only [Bool.and_eq_true] at h
  have hc := h.2
  unfold confB sideB at hc
  simp only [Bool.and_eq_true, Bool.or_eq_true, decide_eq_true_eq, bne_iff_ne, ne_eq] at hc
  exact ⟨hc.1.2.2, hc.2.2⟩

set_option maxHeartbeats 2000000 in
theorem specStepMachine_any (sy st : Int) (A : Option Addr) (n k : Nat) (rs : List R3) (q : Int) (B : Option Addr) (m c : Nat) (xs : List Int) (C : Option Addr) (l d : Nat) (ys : List Int) (w : World) (hr : S3 w A n rs) (hx : SI w B m xs) (hy : SI w C l ys) (hn : n ≤ 1048576) (hm : m ≤ 1048576) (hl : l ≤ 1048576) (hmc : m ≤ c) (hld : l ≤ d) :
    Calls Try.prog 21 #[.agg #[.int .i64 sy, .int .i64 st, .slice A n k], .agg #[.int .i64 q, .slice B m c, .slice C l d]] w (NewConf2 w (stepMachF sy st rs q xs ys)) := by
  obtain ⟨W, hW⟩ : ∃ W, W = ((w.alloc (.cells #[.int .i64 sy, .int .i64 st, .slice A n k] 30)).alloc (.cells #[.int .i64 q, .slice B m c, .slice C l d] 38)).alloc (.cells #[.int .i64 0, .slice none 0 0, .slice none 0 0] 38) := ⟨_, rfl⟩
  have s1 : (w.alloc (.cells #[.int .i64 sy, .int .i64 st, .slice A n k] 30)).heap.size = w.heap.size + 1 := by simp
  have s2 : ((w.alloc (.cells #[.int .i64 sy, .int .i64 st, .slice A n k] 30)).alloc (.cells #[.int .i64 q, .slice B m c, .slice C l d] 38)).heap.size = w.heap.size + 1 + 1 := by simp
  have b0 : Blk W w.heap.size 30 #[.int .i64 sy, .int .i64 st, .slice A n k] := by rw [hW]; exact ((Blk.new w _ _).alloc _).alloc _
  have b1 : Blk W (w.heap.size + 1) 38 #[.int .i64 q, .slice B m c, .slice C l d] := by rw [hW, ← s1]; exact (Blk.new _ _ _).alloc _
  have b2 : Blk W (w.heap.size + 1 + 1) 38 #[.int .i64 0, .slice none 0 0, .slice none 0 0] := by rw [hW, ← s2]; exact Blk.new _ _ _
  have y0 : Below w.heap.size w W := by rw [hW]; exact (((Below.refl _ _).alloc (Nat.le_refl _) _).alloc (by simp) _).alloc (by simp; omega) _
  have HW := Lib.hid hW
  clear hW s1 s2
  have hM := b0.machAt
  have hC := b1.confAt
  have hrl : rs.length = n := hr.len
  have hxl : xs.length = m := hx.len
  have hyl : ys.length = l := hy.len
  have HRL := Lib.hid hrl
  have HXL := Lib.hid hxl
  have HYL := Lib.hid hyl
  clear hrl hxl hyl
  go_enter Try.func21, Try.ntmps21
  go_wp2_with fail
  rw [← HW.out]
  refine (l05Is_any _ _ _ _ _ _ rs _ hM (hr.below y0) hn).mono ?_
  rintro e w2 ⟨rfl, z2⟩
  have y2 : Below w.heap.size w w2 := y0.trans (z2.mono y0.size)
  have c2 := b2.below' z2
  have hg2 : w.heap.size + 1 + 1 < w2.heap.size := c2.lt
  have u0 : w2.cell? ⟨w.heap.size + 1 + 1, 0, none⟩ = some (.int .i64 0) := c2.cell 0
  have u1 : w2.cell? ⟨w.heap.size + 1 + 1, 1, none⟩ = some (.slice none 0 0) := c2.cell 1
  have u2 : w2.cell? ⟨w.heap.size + 1 + 1, 2, none⟩ = some (.slice none 0 0) := c2.cell 2
  have f0 := c2.frozen 0
  have f1 := c2.frozen 1
  have f2 := c2.frozen 2
  have hM2 := hM.below z2
  have hC2 := hC.below z2
  cases a0 : machB sy st rs
  · have A0 := Lib.hid a0
    clear a0
    go_wp2_with fail
    have d1 := conf_set c2 (.int .i64 0) (.slice none 0 0) (.slice none 0 0)
    exact bodyPost_ret (v := .tuple #[.agg #[.int .i64 0, .slice none 0 0, .slice none 0 0], .int .i64 1]) (by simp [results, Try.results21, go_sem, d1.cell 0, d1.cell 1, d1.cell 2]) rfl (newConf2_zero (by unfold stepMachF validConfB; rw [A0.out]; rfl) (conf_below y2 (by omega) _ _ _))
  obtain ⟨k1, k2, k3, k4, _, _⟩ := machB_parts a0
  have A0 := Lib.hid a0
  clear a0
  go_wp2_with fail
  refine (l05Good_any _ _ _ _ _ _ _ _ _ _ _ xs _ _ _ ys _ hM2 hC2 (hx.below y2) (hy.below y2) hm hl k1 k2 k3 k4).mono ?_
  rintro e w3' ⟨rfl, nq, rfl⟩
  cases a1 : confB sy st q xs ys
  · have A1 := Lib.hid a1
    clear a1
    go_wp2_with fail
    have d1 := conf_set (c2.drewN nq) (.int .i64 0) (.slice none 0 0) (.slice none 0 0)
    exact bodyPost_ret (v := .tuple #[.agg #[.int .i64 0, .slice none 0 0, .slice none 0 0], .int .i64 1]) (by simp [results, Try.results21, go_sem, d1.cell 0, d1.cell 1, d1.cell 2]) rfl (newConf2_zero (by unfold stepMachF validConfB; rw [A0.out, A1.out]; rfl) (conf_below (below_drewN y2 nq) (by omega) _ _ _))
  have a2 : validConfB sy st rs q xs ys = true := by unfold validConfB; rw [A0.out, a1]; rfl
  clear a1
  obtain ⟨p1, p2, p3, p4, p5, p6, p7, p8, p9, p10, p11, p12⟩ := conf_parts a2
  obtain ⟨gx, gy⟩ := conf_good a2
  have A2 := Lib.hid a2
  have hys : ∀ y ∈ ys.reverse, 0 ≤ y ∧ y ≤ sy - 1 := fun y hy' => p11 y (List.mem_reverse.mp hy')
  obtain ⟨i1, i2, i3, i4, idx, i5, i6⟩ := at_parts (n := n) p1 p2 p3 p4 (by rw [← HRL.out]; exact p5) p6 p7 hys
  have ir : rs[idx]? = some (ruleOf sy rs q ys) := ruleOf_get i5 (by rw [HRL.out]; exact i6)
  have I5 := Lib.hid i5
  have IR := Lib.hid ir
  have HSE := Lib.hid (stepS_eq (r := ruleOf sy rs q ys) gx gy)
  have HXL' : m ≤ 200 := by rw [← HXL.out]; exact p8
  have HYL' : l ≤ 200 := by rw [← HYL.out]; exact p9
  clear a2 p5 p10 p11 p12 hys i5 ir gx gy
  have yq : Below w.heap.size w (w2.drewN nq) := below_drewN y2 nq
  go_wp2_with fail
  refine (l05Halts_any _ _ _ _ _ _ rs _ _ _ _ _ _ _ _ ys idx (ruleOf sy rs q ys) _ (hM2.drewN nq) (hr.below yq) (hC2.drewN nq) (hy.below yq) (by omega) i1 (by omega) i3 (by omega) I5 i6 IR hn).mono ?_
  rintro e w4 ⟨rfl, z4⟩
  have z4' : Below w2.heap.size w2 w4 := below_undrew z4
  have y4 : Below w.heap.size w w4 := y2.trans (z4'.mono y2.size)
  have e2 := c2.below' z4'
  have hg4 : w.heap.size + 1 + 1 < w4.heap.size := e2.lt
  have t0 : w4.cell? ⟨w.heap.size + 1 + 1, 0, none⟩ = some (.int .i64 0) := e2.cell 0
  have t1 : w4.cell? ⟨w.heap.size + 1 + 1, 1, none⟩ = some (.slice none 0 0) := e2.cell 1
  have t2 : w4.cell? ⟨w.heap.size + 1 + 1, 2, none⟩ = some (.slice none 0 0) := e2.cell 2
  have h0 := e2.frozen 0
  have h1 := e2.frozen 1
  have h2 := e2.frozen 2
  cases a3 : isRuleB (ruleOf sy rs q ys)
  · have A3 := Lib.hid a3
    clear a3
    go_wp2_with fail
    have d1 := conf_set e2 (.int .i64 0) (.slice none 0 0) (.slice none 0 0)
    exact bodyPost_ret (v := .tuple #[.agg #[.int .i64 0, .slice none 0 0, .slice none 0 0], .int .i64 6]) (by simp [results, Try.results21, go_sem, d1.cell 0, d1.cell 1, d1.cell 2]) rfl (newConf2_zero (by unfold stepMachF; rw [A2.out, A3.out]; rfl) (conf_below y4 (by omega) _ _ _))
  have A3 := Lib.hid a3
  clear a3
  go_wp2_with fail
  refine (l05Step_any _ _ _ _ _ _ rs _ _ _ _ _ xs _ _ _ ys idx (ruleOf sy rs q ys) _ (hM2.below z4') (hr.below y4) (hC2.below z4') (hx.below y4) (hy.below y4) (by omega) (by omega) hmc hld i1 (by omega) i3 (by omega) I5 i6 IR hn).mono ?_
  rintro e w5 ⟨L, c5, R, d5, rfl, oL, oR, hap, z5⟩
  have HAP := Lib.hid hap
  clear hap
  rw [HSE.out] at oL oR
  rw [HSE.out]
  have HT : Hid (roomC (stepC (ruleOf sy rs q ys) xs ys) = true → stepMachF sy st rs q xs ys = (stepC (ruleOf sy rs q ys) xs ys, 0)) := fun h => by unfold stepMachF; rw [A2.out, A3.out, h]; rfl
  have HF : Hid (roomC (stepC (ruleOf sy rs q ys) xs ys) = false → stepMachF sy st rs q xs ys = (⟨0, [], []⟩, 5)) := fun h => by unfold stepMachF; rw [A2.out, A3.out, h]; rfl
  clear HSE
  generalize stepC (ruleOf sy rs q ys) xs ys = cf at *
  obtain ⟨w6, hw6⟩ : ∃ w6, w6 = w5.alloc (.cells #[.int .i64 cf.q, .slice L cf.xs.length c5, .slice R cf.ys.length d5] 38) := ⟨_, rfl⟩
  have b6 : Blk w6 w5.heap.size 38 #[.int .i64 cf.q, .slice L cf.xs.length c5, .slice R cf.ys.length d5] := by rw [hw6]; exact Blk.new w5 _ _
  have z6 : Below w5.heap.size w5 w6 := by rw [hw6]; exact (Below.refl _ _).alloc (Nat.le_refl _) _
  have HW6 := Lib.hid hw6
  clear hw6 t0 t1 t2 h0 h1 h2 u0 u1 u2 f0 f1 f2
  have e6 := (e2.below' z5).below' z6
  have y5 : Below w.heap.size w w5 := y4.trans (z5.mono y4.size)
  have y6 : Below w.heap.size w w6 := y5.trans (z6.mono y5.size)
  have oL6 := oL.below z6
  have oR6 := oR.below z6
  have hz5 : w4.heap.size ≤ w5.heap.size := z5.size
  have t0 : w6.cell? ⟨w.heap.size + 1 + 1, 0, none⟩ = some (.int .i64 0) := e6.cell 0
  have t1 : w6.cell? ⟨w.heap.size + 1 + 1, 1, none⟩ = some (.slice none 0 0) := e6.cell 1
  have t2 : w6.cell? ⟨w.heap.size + 1 + 1, 2, none⟩ = some (.slice none 0 0) := e6.cell 2
  have h0 := e6.frozen 0
  have h1 := e6.frozen 1
  have h2 := e6.frozen 2
  have r0 : w6.cell? ⟨w5.heap.size, 0, none⟩ = some (.int .i64 cf.q) := b6.cell 0
  have r1 : w6.cell? ⟨w5.heap.size, 1, none⟩ = some (.slice L cf.xs.length c5) := b6.cell 1
  have r2 : w6.cell? ⟨w5.heap.size, 2, none⟩ = some (.slice R cf.ys.length d5) := b6.cell 2
  go_upto_region 6 with fail
  rw [← HW6.out]
  cases a4 : roomC cf
  · have F := Lib.hid (HF.out a4)
    clear a4
    go_wp2_with fail
    have d1 := conf_set e6 (.int .i64 0) (.slice none 0 0) (.slice none 0 0)
    exact bodyPost_ret (v := .tuple #[.agg #[.int .i64 0, .slice none 0 0, .slice none 0 0], .int .i64 5]) (by simp [results, Try.results21, go_sem, d1.cell 0, d1.cell 1, d1.cell 2]) rfl (newConf2_zero F.out (conf_below y6 (by omega) _ _ _))
  · have F := Lib.hid (HT.out a4)
    clear a4
    go_wp2_with fail
    have d1 := conf_set e6 (.int .i64 cf.q) (.slice L cf.xs.length c5) (.slice R cf.ys.length d5)
    refine bodyPost_ret (v := .tuple #[.agg #[.int .i64 cf.q, .slice L cf.xs.length c5, .slice R cf.ys.length d5], .int .i64 0]) (by simp [results, Try.results21, go_sem, d1.cell 0, d1.cell 1, d1.cell 2]) rfl ?_
    rw [F.out]
    exact ⟨L, c5, R, d5, rfl, (conf_far oL6 (by omega) _ _ _).mono (by omega), (conf_far oR6 (by omega) _ _ _).mono (by omega), HAP.out, conf_below y6 (by omega) _ _ _⟩
end Go.Proofs.Ytbedghebckflmaa
