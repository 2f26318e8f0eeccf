/-
  Contract of impl's StepMachine.
-/
import Derived.Test.YtbedghebckflmaaMachO
namespace Go.Proofs.Ytbedghebckflmaa
open Go.RowKit

theorem newConf2_zero {w wf : World} {k : Int} {r : Conf × Int} (hr : r = (⟨0, [], []⟩, k)) (hz : Below w.heap.size w wf) : NewConf2 w r (.returned (.tuple #[.agg #[.int .i64 0, .slice none 0 0, .slice none 0 0], .int .i64 k])) wf := by
  subst hr
  exact ⟨none, 0, none, 0, rfl, Own.nil, Own.nil, fun b h => by simp [blk] at h, hz⟩

theorem conf_set {w : World} {g : Nat} {a b c : Value} {t : TypeId} (h : Blk w g t #[a, b, c]) (x y z : Value) : Blk (((w.setCell ⟨g, 0, none⟩ x).setCell ⟨g, 1, none⟩ y).setCell ⟨g, 2, none⟩ z) g t #[x, y, z] := ((h.set_ 0 x).set_ 1 y).set_ 2 z
theorem conf_below {w w' : World} {g lo : Nat} (h : Below lo w w') (hg : lo ≤ g) (x y z : Value) : Below lo w (((w'.setCell ⟨g, 0, none⟩ x).setCell ⟨g, 1, none⟩ y).setCell ⟨g, 2, none⟩ z) := ((h.setCell hg _).setCell hg _).setCell hg _
theorem conf_far {w : World} {g lo s n c : Nat} {t : TypeId} {A : Option Addr} {cs : List Value} (h : Own w lo t s A n c cs) (hg : g < lo) (x y z : Value) : Own (((w.setCell ⟨g, 0, none⟩ x).setCell ⟨g, 1, none⟩ y).setCell ⟨g, 2, none⟩ z) lo t s A n c cs := by
  have hb : blk A ≠ some g := fun e => by have := h.blk_ge _ e; omega
  exact ((h.far (p := ⟨g, 0, none⟩) hb _).far (p := ⟨g, 1, none⟩) hb _).far (p := ⟨g, 2, none⟩) hb _

set_option maxHeartbeats 2000000 in
theorem stepMachine_any (sy st : Int) (A : Option Addr) (n k : Nat) (rs : List R3) (q : Int) (B : Option Addr) (m c : Nat) (xs : List Int) (C : Option Addr) (l d : Nat) (ys : List Int) (w : World) (hr : S3 w A n rs) (hx : SI w B m xs) (hy : SI w C l ys) (hn : n ≤ 1048576) (hm : m ≤ 1048576) (hl : l ≤ 1048576) :
    Calls Try.prog 23 #[.agg #[.int .i64 sy, .int .i64 st, .slice A n k], .agg #[.int .i64 q, .slice B m c, .slice C l d]] w (NewConf2 w (stepMachF sy st rs q xs ys)) := by
  obtain ⟨W, hW⟩ : ∃ W, W = ((w.alloc (.cells #[.int .i64 sy, .int .i64 st, .slice A n k] 30)).alloc (.cells #[.int .i64 q, .slice B m c, .slice C l d] 38)).alloc (.cells #[.int .i64 0, .slice none 0 0, .slice none 0 0] 38) := ⟨_, rfl⟩
  have s1 : (w.alloc (.cells #[.int .i64 sy, .int .i64 st, .slice A n k] 30)).heap.size = w.heap.size + 1 := by simp
  have s2 : ((w.alloc (.cells #[.int .i64 sy, .int .i64 st, .slice A n k] 30)).alloc (.cells #[.int .i64 q, .slice B m c, .slice C l d] 38)).heap.size = w.heap.size + 1 + 1 := by simp
  have b0 : Blk W w.heap.size 30 #[.int .i64 sy, .int .i64 st, .slice A n k] := by rw [hW]; exact ((Blk.new w _ _).alloc _).alloc _
  have b1 : Blk W (w.heap.size + 1) 38 #[.int .i64 q, .slice B m c, .slice C l d] := by rw [hW, ← s1]; exact (Blk.new _ _ _).alloc _
  have b2 : Blk W (w.heap.size + 1 + 1) 38 #[.int .i64 0, .slice none 0 0, .slice none 0 0] := by rw [hW, ← s2]; exact Blk.new _ _ _
  have y0 : Below w.heap.size w W := by rw [hW]; exact (((Below.refl _ _).alloc (Nat.le_refl _) _).alloc (by simp) _).alloc (by simp; omega) _
  have HW := Lib.hid hW
  clear hW s1 s2
  have hrl : rs.length = n := hr.len
  have hxl : xs.length = m := hx.len
  have hyl : ys.length = l := hy.len
  have HRL := Lib.hid hrl
  have HXL := Lib.hid hxl
  have HYL := Lib.hid hyl
  clear hrl hxl hyl
  go_enter Try.func23, Try.ntmps23
  go_wp2_with fail
  rw [← HW.out]
  refine (validConfig_any _ _ _ _ _ rs _ _ _ _ xs _ _ _ ys _ (hr.below y0) (hx.below y0) (hy.below y0) hn hm hl).mono ?_
  rintro e w2 ⟨rfl, z2⟩
  have y2 : Below w.heap.size w w2 := y0.trans (z2.mono y0.size)
  have c0 := b0.below' z2
  have c1 := b1.below' z2
  have c2 := b2.below' z2
  have hg2 : w.heap.size + 1 + 1 < w2.heap.size := c2.lt
  have q0 : w2.cell? ⟨w.heap.size, 0, none⟩ = some (.int .i64 sy) := c0.cell 0
  have q1 : w2.cell? ⟨w.heap.size, 1, none⟩ = some (.int .i64 st) := c0.cell 1
  have q2 : w2.cell? ⟨w.heap.size, 2, none⟩ = some (.slice A n k) := c0.cell 2
  have q3 : w2.cell? ⟨w.heap.size + 1, 0, none⟩ = some (.int .i64 q) := c1.cell 0
  have q4 : w2.cell? ⟨w.heap.size + 1, 1, none⟩ = some (.slice B m c) := c1.cell 1
  have q5 : w2.cell? ⟨w.heap.size + 1, 2, none⟩ = some (.slice C l d) := c1.cell 2
  have u0 : w2.cell? ⟨w.heap.size + 1 + 1, 0, none⟩ = some (.int .i64 0) := c2.cell 0
  have u1 : w2.cell? ⟨w.heap.size + 1 + 1, 1, none⟩ = some (.slice none 0 0) := c2.cell 1
  have u2 : w2.cell? ⟨w.heap.size + 1 + 1, 2, none⟩ = some (.slice none 0 0) := c2.cell 2
  have f0 := c2.frozen 0
  have f1 := c2.frozen 1
  have f2 := c2.frozen 2
  cases a1 : validConfB sy st rs q xs ys
  · have A1 := Lib.hid a1
    clear a1
    go_wp2_with fail
    have d1 := conf_set c2 (.int .i64 0) (.slice none 0 0) (.slice none 0 0)
    exact bodyPost_ret (v := .tuple #[.agg #[.int .i64 0, .slice none 0 0, .slice none 0 0], .int .i64 1]) (by simp [results, Try.results23, go_sem, d1.cell 0, d1.cell 1, d1.cell 2]) rfl (newConf2_zero (by unfold stepMachF; rw [A1.out]; rfl) (conf_below y2 (by omega) _ _ _))
  · obtain ⟨p1, p2, p3, p4, p5, p6, p7, p8, p9, p10, p11, p12⟩ := conf_parts a1
    have A1 := Lib.hid a1
    have hys : ∀ y ∈ ys.reverse, 0 ≤ y ∧ y ≤ sy - 1 := fun y hy' => p11 y (List.mem_reverse.mp hy')
    obtain ⟨i1, i2, i3, i4, idx, i5, i6⟩ := at_parts (n := n) p1 p2 p3 p4 (by rw [← HRL.out]; exact p5) p6 p7 hys
    have ir : rs[idx]? = some (ruleOf sy rs q ys) := ruleOf_get i5 (by rw [HRL.out]; exact i6)
    have I5 := Lib.hid i5
    have IR := Lib.hid ir
    clear a1 p5 p10 p11 p12 hys i5 ir
    go_wp2_with fail
    refine (runnerOf_any _ _ _ _ _ _ _ _ _ xs _ _ _ ys _ (hx.below y2) (hy.below y2) hm hl).mono ?_
    rintro e w3 ⟨g, L, cl, R, cr, rfl, hg, hrun, ol, or_, hap, z3⟩
    have HAP := Lib.hid hap
    clear hap
    have y3 : Below w.heap.size w w3 := y2.trans (z3.mono y2.size)
    have hz3 : w2.heap.size ≤ w3.heap.size := z3.size
    go_wp2_with fail
    refine (halts_any _ _ _ _ _ _ rs _ _ _ _ _ _ _ ys.reverse idx (ruleOf sy rs q ys) _ hrun (hr.below y3) or_.rd (by omega) i1 (by omega) i3 (by omega) I5 i6 IR hn).mono ?_
    rintro e w4 ⟨rfl, z4⟩
    have y4 : Below w.heap.size w w4 := y3.trans (z4.mono y3.size)
    have y24 : Below w2.heap.size w2 w4 := z3.trans (z4.mono z3.size)
    have e2 := c2.below' y24
    have hg4 : w.heap.size + 1 + 1 < w4.heap.size := e2.lt
    have t0 : w4.cell? ⟨w.heap.size + 1 + 1, 0, none⟩ = some (.int .i64 0) := e2.cell 0
    have t1 : w4.cell? ⟨w.heap.size + 1 + 1, 1, none⟩ = some (.slice none 0 0) := e2.cell 1
    have t2 : w4.cell? ⟨w.heap.size + 1 + 1, 2, none⟩ = some (.slice none 0 0) := e2.cell 2
    have h0 := e2.frozen 0
    have h1 := e2.frozen 1
    have h2 := e2.frozen 2
    cases a2 : isRuleB (ruleOf sy rs q ys)
    · have A2 := Lib.hid a2
      clear a2
      go_wp2_with fail
      have d1 := conf_set e2 (.int .i64 0) (.slice none 0 0) (.slice none 0 0)
      exact bodyPost_ret (v := .tuple #[.agg #[.int .i64 0, .slice none 0 0, .slice none 0 0], .int .i64 6]) (by simp [results, Try.results23, go_sem, d1.cell 0, d1.cell 1, d1.cell 2]) rfl (newConf2_zero (by unfold stepMachF; rw [A1.out, A2.out]; rfl) (conf_below y4 (by omega) _ _ _))
    · have A2 := Lib.hid a2
      clear a2
      have sd : Sides w4 w2.heap.size g sy st A n k q xs.reverse ys.reverse := by
        refine ⟨L, cl, R, cr, ?_, ?_, ?_, HAP.out⟩
        · rw [List.length_reverse, List.length_reverse]; exact Blk.below' hrun z4
        · rw [List.length_reverse]; exact ol.below z4
        · rw [List.length_reverse]; exact or_.below z4
      have SD := Lib.hid sd
      clear sd
      go_wp2_with fail
      refine (step_any w2 _ _ _ _ _ _ rs _ _ _ idx (ruleOf sy rs q ys) _ SD.out (hr.below y2) y24 hg (by rw [List.length_reverse]; omega) (by rw [List.length_reverse]; omega) i1 (by omega) i3 (by omega) I5 i6 IR hn).mono ?_
      rintro e w5 ⟨rfl, sd5, y25⟩
      have SD5 := Lib.hid sd5
      clear sd5
      have y5 : Below w.heap.size w w5 := y2.trans (y25.mono y2.size)
      have e3 := c2.below' y25
      have hg5 : w.heap.size + 1 + 1 < w5.heap.size := e3.lt
      have v0 : w5.cell? ⟨w.heap.size + 1 + 1, 0, none⟩ = some (.int .i64 0) := e3.cell 0
      have v1 : w5.cell? ⟨w.heap.size + 1 + 1, 1, none⟩ = some (.slice none 0 0) := e3.cell 1
      have v2 : w5.cell? ⟨w.heap.size + 1 + 1, 2, none⟩ = some (.slice none 0 0) := e3.cell 2
      have j0 := e3.frozen 0
      have j1 := e3.frozen 1
      have j2 := e3.frozen 2
      have rm : roomC (stepC (ruleOf sy rs q ys) xs ys) = roomB (stepL (ruleOf sy rs q ys) xs.reverse) (stepR (ruleOf sy rs q ys) xs.reverse ys.reverse) := by
        unfold roomC stepC roomB; simp
      have RM := Lib.hid rm
      clear rm
      cases a3 : roomB (stepL (ruleOf sy rs q ys) xs.reverse) (stepR (ruleOf sy rs q ys) xs.reverse ys.reverse)
      · have A3 := Lib.hid a3
        clear a3
        go_wp2_with fail
        have d1 := conf_set e3 (.int .i64 0) (.slice none 0 0) (.slice none 0 0)
        exact bodyPost_ret (v := .tuple #[.agg #[.int .i64 0, .slice none 0 0, .slice none 0 0], .int .i64 5]) (by simp [results, Try.results23, go_sem, d1.cell 0, d1.cell 1, d1.cell 2]) rfl (newConf2_zero (by unfold stepMachF; rw [A1.out, A2.out, RM.out, A3.out]; rfl) (conf_below y5 (by omega) _ _ _))
      · have A3 := Lib.hid a3
        have r1 : (stepL (ruleOf sy rs q ys) xs.reverse).length ≤ 200 ∧ (stepR (ruleOf sy rs q ys) xs.reverse ys.reverse).length ≤ 200 := by
          unfold roomB at a3; simpa using a3
        have R1 := Lib.hid r1
        clear a3 r1
        go_wp2_with fail
        refine (config_any _ _ _ _ _ _ _ _ _ _ _ SD5.out (by have := R1.out.1; omega) (by have := R1.out.2; omega)).mono ?_
        rintro e w6 ⟨L6, c6, R6, d6, rfl, ol6, or6, hap6, y56⟩
        have HAP6 := Lib.hid hap6
        clear hap6
        have y26 : Below w2.heap.size w2 w6 := y25.trans (y56.mono y25.size)
        have e4 := c2.below' y26
        have x0 : w6.cell? ⟨w.heap.size + 1 + 1, 0, none⟩ = some (.int .i64 0) := e4.cell 0
        have x1 : w6.cell? ⟨w.heap.size + 1 + 1, 1, none⟩ = some (.slice none 0 0) := e4.cell 1
        have x2 : w6.cell? ⟨w.heap.size + 1 + 1, 2, none⟩ = some (.slice none 0 0) := e4.cell 2
        have k0 := e4.frozen 0
        have k1 := e4.frozen 1
        have k2 := e4.frozen 2
        have y6 : Below w.heap.size w w6 := y2.trans (y26.mono y2.size)
        have hz6 : w2.heap.size ≤ w5.heap.size := y25.size
        go_wp2_with fail
        have d1 := conf_set e4 (.int .i64 (ruleOf sy rs q ys).c) (.slice L6 (stepL (ruleOf sy rs q ys) xs.reverse).length c6) (.slice R6 (stepR (ruleOf sy rs q ys) xs.reverse ys.reverse).length d6)
        refine bodyPost_ret (v := .tuple #[.agg #[.int .i64 (ruleOf sy rs q ys).c, .slice L6 (stepL (ruleOf sy rs q ys) xs.reverse).length c6, .slice R6 (stepR (ruleOf sy rs q ys) xs.reverse ys.reverse).length d6], .int .i64 0]) (by simp [results, Try.results23, go_sem, d1.cell 0, d1.cell 1, d1.cell 2]) rfl ?_
        have hF : stepMachF sy st rs q xs ys = (stepC (ruleOf sy rs q ys) xs ys, 0) := by unfold stepMachF; rw [A1.out, A2.out, RM.out, A3.out]; rfl
        rw [hF]
        refine ⟨L6, c6, R6, d6, by simp [stepC], (conf_far ol6 (by omega) _ _ _).mono (by omega), (conf_far or6 (by omega) _ _ _).mono (by omega), HAP6.out, conf_below y6 (by omega) _ _ _⟩
end Go.Proofs.Ytbedghebckflmaa
