/-
  Contract of the reference's StepFormula.
-/
import Derived.Test.YtbpofkggoolmpaaPbFmAll2
import Derived.Test.YtbpofkggoolmpaaPbFmAll19
namespace Go.Proofs.Ytbpofkggoolmpaa
open Go.RowKit

set_option maxRecDepth 100000 in
set_option maxHeartbeats 2000000 in
theorem stepFormulaS_any (sy st : Int) (A0 : Option Addr) (n0 k0 : Nat) (rs : List R3) (q h a : Int) (A : Option Addr) (n c : Nat) (ts : List Sl) (B : Option Addr) (m d : Nat) (us : List Sl) (C : Option Addr) (l e : Nat) (os : List Int) (w : World) (hr : S3 w A0 n0 rs) (hx : SII w A n ts) (hy : SII w B m us) (hz : SI w C l os)
    (hn0 : n0 ≤ 1048576) (hn : n ≤ 1048576) (hm : m ≤ 1048576) (hl : l ≤ 1048576) (hns : ∀ t ∈ ts, t.xs.length ≤ 1048576) (hms : ∀ t ∈ us, t.xs.length ≤ 1048576) :
    Calls Try.prog 13 #[.agg #[.int .i64 sy, .int .i64 st, .slice A0 n0 k0], .agg #[.int .i64 q, .int .i64 h, .int .i64 a, .slice A n c, .slice B m d, .slice C l e]] w (NewFmI3 w (stepFormF sy st rs ⟨q, h, a, nums ts, nums us, os⟩)) := by
  obtain ⟨res, hres⟩ : ∃ res, res = stepFormF sy st rs ⟨q, h, a, nums ts, nums us, os⟩ := ⟨_, rfl⟩
  rw [← hres]
  have HRES := Lib.hid hres
  have HNS := Lib.hid hns
  have HMS := Lib.hid hms
  have HR := Lib.hid hr
  have HX := Lib.hid hx
  have HY := Lib.hid hy
  have HZ := Lib.hid hz
  clear hres hns hms hr hx hy hz
  obtain ⟨W, hW_⟩ : ∃ W, W = ((w.alloc (.cells #[.int .i64 sy, .int .i64 st, .slice A0 n0 k0] 36)).alloc (.cells #[.int .i64 q, .int .i64 h, .int .i64 a, .slice A n c, .slice B m d, .slice C l e] 31)).alloc (.cells #[.int .i64 0, .int .i64 0, .int .i64 0, .slice none 0 0, .slice none 0 0, .slice none 0 0] 31) := ⟨_, rfl⟩
  have s_1 : (w.alloc (.cells #[.int .i64 sy, .int .i64 st, .slice A0 n0 k0] 36)).heap.size = w.heap.size + 1 := by simp
  have s_2 : ((w.alloc (.cells #[.int .i64 sy, .int .i64 st, .slice A0 n0 k0] 36)).alloc (.cells #[.int .i64 q, .int .i64 h, .int .i64 a, .slice A n c, .slice B m d, .slice C l e] 31)).heap.size = w.heap.size + 1 + 1 := by simp
  have b0 : Blk W w.heap.size 36 #[.int .i64 sy, .int .i64 st, .slice A0 n0 k0] := by rw [hW_]; exact ((Blk.new w _ _).alloc _).alloc _
  have b1 : Blk W (w.heap.size + 1) 31 #[.int .i64 q, .int .i64 h, .int .i64 a, .slice A n c, .slice B m d, .slice C l e] := by rw [hW_, ← s_1]; exact (Blk.new _ _ _).alloc _
  have b2 : Blk W (w.heap.size + 1 + 1) 31 #[.int .i64 0, .int .i64 0, .int .i64 0, .slice none 0 0, .slice none 0 0, .slice none 0 0] := by rw [hW_, ← s_2]; exact Blk.new _ _ _
  have y0 : Below w.heap.size w W := by rw [hW_]; exact (((Below.refl _ _).alloc (Nat.le_refl _) _).alloc (by simp) _).alloc (by simp; omega) _
  have HW := Lib.hid hW_
  clear hW_ s_1 s_2
  have HM := Lib.hid b0.machAt
  have HF := Lib.hid (b1.fmAt (nums ts) (nums us) os)
  go_enter Try.func13, Try.ntmps13
  go_wp2_with fail
  rw [← HW.out]
  refine (l05Is_any _ _ _ _ _ _ rs _ HM.out (HR.out.below y0) hn0).mono ?_
  rintro e W1 ⟨rfl, z1⟩
  have y1 := y0.trans (z1.mono y0.size)
  have c2 := b2.below' z1
  have HM1 := Lib.hid (HM.out.below z1)
  have HF1 := Lib.hid ((b1.below' z1).fmAt (nums ts) (nums us) os)
  cases a1 : machB sy st rs
  · have HN : Hid (res = (Fm.zero, 0, 1)) := Lib.hid (by rw [HRES.out]; unfold stepFormF; rw [a1]; rfl)
    clear a1
    have cN := c2
    have yN := y1
    have x0 : W1.cell? ⟨(w.heap.size + 1 + 1), 0, none⟩ = some (.int .i64 0) := cN.cell 0
    have x1 : W1.cell? ⟨(w.heap.size + 1 + 1), 1, none⟩ = some (.int .i64 0) := cN.cell 1
    have x2 : W1.cell? ⟨(w.heap.size + 1 + 1), 2, none⟩ = some (.int .i64 0) := cN.cell 2
    have x3 : W1.cell? ⟨(w.heap.size + 1 + 1), 3, none⟩ = some (.slice none 0 0) := cN.cell 3
    have x4 : W1.cell? ⟨(w.heap.size + 1 + 1), 4, none⟩ = some (.slice none 0 0) := cN.cell 4
    have x5 : W1.cell? ⟨(w.heap.size + 1 + 1), 5, none⟩ = some (.slice none 0 0) := cN.cell 5
    have f0 := cN.frozen 0
    have f1 := cN.frozen 1
    have f2 := cN.frozen 2
    have f3 := cN.frozen 3
    have f4 := cN.frozen 4
    have f5 := cN.frozen 5
    go_wp2_with fail
    clear x0 x1 x2 x3 x4 x5
    have dB : Blk ((((((W1.setCell ⟨(w.heap.size + 1 + 1), 0, none⟩ (.int .i64 0)).setCell ⟨(w.heap.size + 1 + 1), 1, none⟩ (.int .i64 0)).setCell ⟨(w.heap.size + 1 + 1), 2, none⟩ (.int .i64 0)).setCell ⟨(w.heap.size + 1 + 1), 3, none⟩ (.slice none 0 0)).setCell ⟨(w.heap.size + 1 + 1), 4, none⟩ (.slice none 0 0)).setCell ⟨(w.heap.size + 1 + 1), 5, none⟩ (.slice none 0 0)) (w.heap.size + 1 + 1) 31 #[.int .i64 0, .int .i64 0, .int .i64 0, .slice none 0 0, .slice none 0 0, .slice none 0 0] := fm_set cN (.int .i64 0) (.int .i64 0) (.int .i64 0) (.slice none 0 0) (.slice none 0 0) (.slice none 0 0)
    have yS : ∀ (lo : Nat) (w0 : World), Below lo w0 W1 → lo ≤ (w.heap.size + 1 + 1) → Below lo w0 ((((((W1.setCell ⟨(w.heap.size + 1 + 1), 0, none⟩ (.int .i64 0)).setCell ⟨(w.heap.size + 1 + 1), 1, none⟩ (.int .i64 0)).setCell ⟨(w.heap.size + 1 + 1), 2, none⟩ (.int .i64 0)).setCell ⟨(w.heap.size + 1 + 1), 3, none⟩ (.slice none 0 0)).setCell ⟨(w.heap.size + 1 + 1), 4, none⟩ (.slice none 0 0)).setCell ⟨(w.heap.size + 1 + 1), 5, none⟩ (.slice none 0 0)) := fun lo w0 h hl => fm_below h hl (.int .i64 0) (.int .i64 0) (.int .i64 0) (.slice none 0 0) (.slice none 0 0) (.slice none 0 0)
    have kS : ∀ k, k ≠ (w.heap.size + 1 + 1) → ((((((W1.setCell ⟨(w.heap.size + 1 + 1), 0, none⟩ (.int .i64 0)).setCell ⟨(w.heap.size + 1 + 1), 1, none⟩ (.int .i64 0)).setCell ⟨(w.heap.size + 1 + 1), 2, none⟩ (.int .i64 0)).setCell ⟨(w.heap.size + 1 + 1), 3, none⟩ (.slice none 0 0)).setCell ⟨(w.heap.size + 1 + 1), 4, none⟩ (.slice none 0 0)).setCell ⟨(w.heap.size + 1 + 1), 5, none⟩ (.slice none 0 0)).heap[k]? = W1.heap[k]? := fun k hk => fm_kept (.int .i64 0) (.int .i64 0) (.int .i64 0) (.slice none 0 0) (.slice none 0 0) (.slice none 0 0) k hk
    generalize (((((W1.setCell ⟨(w.heap.size + 1 + 1), 0, none⟩ (.int .i64 0)).setCell ⟨(w.heap.size + 1 + 1), 1, none⟩ (.int .i64 0)).setCell ⟨(w.heap.size + 1 + 1), 2, none⟩ (.int .i64 0)).setCell ⟨(w.heap.size + 1 + 1), 3, none⟩ (.slice none 0 0)).setCell ⟨(w.heap.size + 1 + 1), 4, none⟩ (.slice none 0 0)).setCell ⟨(w.heap.size + 1 + 1), 5, none⟩ (.slice none 0 0) = wf at *
    have x0 : wf.cell? ⟨(w.heap.size + 1 + 1), 0, none⟩ = some (.int .i64 0) := dB.cell 0
    have x1 : wf.cell? ⟨(w.heap.size + 1 + 1), 1, none⟩ = some (.int .i64 0) := dB.cell 1
    have x2 : wf.cell? ⟨(w.heap.size + 1 + 1), 2, none⟩ = some (.int .i64 0) := dB.cell 2
    have x3 : wf.cell? ⟨(w.heap.size + 1 + 1), 3, none⟩ = some (.slice none 0 0) := dB.cell 3
    have x4 : wf.cell? ⟨(w.heap.size + 1 + 1), 4, none⟩ = some (.slice none 0 0) := dB.cell 4
    have x5 : wf.cell? ⟨(w.heap.size + 1 + 1), 5, none⟩ = some (.slice none 0 0) := dB.cell 5
    have hres : NewFmI3 w res (.returned (.tuple #[.agg #[.int .i64 0, .int .i64 0, .int .i64 0, .slice none 0 0, .slice none 0 0, .slice none 0 0], .int .i64 0, .int .i64 1])) wf := by rw [HN.out]; exact ⟨none, 0, [], none, 0, [], none, 0, rfl, FmR.zero _ _, yS _ _ yN (by omega)⟩
    exact bodyPost_ret (v := .tuple #[.agg #[.int .i64 0, .int .i64 0, .int .i64 0, .slice none 0 0, .slice none 0 0, .slice none 0 0], .int .i64 0, .int .i64 1]) (by simp [results, Try.results13, go_sem, x0, x1, x2, x3, x4, x5]) rfl hres
  obtain ⟨s1, s2, s3, s4⟩ := machB_bounds a1
  have A1 := Lib.hid a1
  clear a1
  go_wp2_with fail
  refine (l27Is_any _ _ sy st A0 n0 k0 q h a A n c ts B m d us C l e os _ HM1.out HF1.out (HX.out.below y1) (HY.out.below y1) (HZ.out.below y1) hn hm hl HNS.out HMS.out s1 s2 s3 s4).mono ?_
  rintro e W2 ⟨rfl, z2⟩
  have y2 := y1.trans (z2.mono y1.size)
  have cN := c2.below' z2
  have yN := y2
  cases a2 : fmB sy st ⟨q, h, a, nums ts, nums us, os⟩
  · have HN : Hid (res = (Fm.zero, 0, 1)) := Lib.hid (by rw [HRES.out]; unfold stepFormF; rw [A1.out, a2]; rfl)
    clear a2
    have x0 : W2.cell? ⟨(w.heap.size + 1 + 1), 0, none⟩ = some (.int .i64 0) := cN.cell 0
    have x1 : W2.cell? ⟨(w.heap.size + 1 + 1), 1, none⟩ = some (.int .i64 0) := cN.cell 1
    have x2 : W2.cell? ⟨(w.heap.size + 1 + 1), 2, none⟩ = some (.int .i64 0) := cN.cell 2
    have x3 : W2.cell? ⟨(w.heap.size + 1 + 1), 3, none⟩ = some (.slice none 0 0) := cN.cell 3
    have x4 : W2.cell? ⟨(w.heap.size + 1 + 1), 4, none⟩ = some (.slice none 0 0) := cN.cell 4
    have x5 : W2.cell? ⟨(w.heap.size + 1 + 1), 5, none⟩ = some (.slice none 0 0) := cN.cell 5
    have f0 := cN.frozen 0
    have f1 := cN.frozen 1
    have f2 := cN.frozen 2
    have f3 := cN.frozen 3
    have f4 := cN.frozen 4
    have f5 := cN.frozen 5
    go_wp2_with fail
    clear x0 x1 x2 x3 x4 x5
    have dB : Blk ((((((W2.setCell ⟨(w.heap.size + 1 + 1), 0, none⟩ (.int .i64 0)).setCell ⟨(w.heap.size + 1 + 1), 1, none⟩ (.int .i64 0)).setCell ⟨(w.heap.size + 1 + 1), 2, none⟩ (.int .i64 0)).setCell ⟨(w.heap.size + 1 + 1), 3, none⟩ (.slice none 0 0)).setCell ⟨(w.heap.size + 1 + 1), 4, none⟩ (.slice none 0 0)).setCell ⟨(w.heap.size + 1 + 1), 5, none⟩ (.slice none 0 0)) (w.heap.size + 1 + 1) 31 #[.int .i64 0, .int .i64 0, .int .i64 0, .slice none 0 0, .slice none 0 0, .slice none 0 0] := fm_set cN (.int .i64 0) (.int .i64 0) (.int .i64 0) (.slice none 0 0) (.slice none 0 0) (.slice none 0 0)
    have yS : ∀ (lo : Nat) (w0 : World), Below lo w0 W2 → lo ≤ (w.heap.size + 1 + 1) → Below lo w0 ((((((W2.setCell ⟨(w.heap.size + 1 + 1), 0, none⟩ (.int .i64 0)).setCell ⟨(w.heap.size + 1 + 1), 1, none⟩ (.int .i64 0)).setCell ⟨(w.heap.size + 1 + 1), 2, none⟩ (.int .i64 0)).setCell ⟨(w.heap.size + 1 + 1), 3, none⟩ (.slice none 0 0)).setCell ⟨(w.heap.size + 1 + 1), 4, none⟩ (.slice none 0 0)).setCell ⟨(w.heap.size + 1 + 1), 5, none⟩ (.slice none 0 0)) := fun lo w0 h hl => fm_below h hl (.int .i64 0) (.int .i64 0) (.int .i64 0) (.slice none 0 0) (.slice none 0 0) (.slice none 0 0)
    have kS : ∀ k, k ≠ (w.heap.size + 1 + 1) → ((((((W2.setCell ⟨(w.heap.size + 1 + 1), 0, none⟩ (.int .i64 0)).setCell ⟨(w.heap.size + 1 + 1), 1, none⟩ (.int .i64 0)).setCell ⟨(w.heap.size + 1 + 1), 2, none⟩ (.int .i64 0)).setCell ⟨(w.heap.size + 1 + 1), 3, none⟩ (.slice none 0 0)).setCell ⟨(w.heap.size + 1 + 1), 4, none⟩ (.slice none 0 0)).setCell ⟨(w.heap.size + 1 + 1), 5, none⟩ (.slice none 0 0)).heap[k]? = W2.heap[k]? := fun k hk => fm_kept (.int .i64 0) (.int .i64 0) (.int .i64 0) (.slice none 0 0) (.slice none 0 0) (.slice none 0 0) k hk
    generalize (((((W2.setCell ⟨(w.heap.size + 1 + 1), 0, none⟩ (.int .i64 0)).setCell ⟨(w.heap.size + 1 + 1), 1, none⟩ (.int .i64 0)).setCell ⟨(w.heap.size + 1 + 1), 2, none⟩ (.int .i64 0)).setCell ⟨(w.heap.size + 1 + 1), 3, none⟩ (.slice none 0 0)).setCell ⟨(w.heap.size + 1 + 1), 4, none⟩ (.slice none 0 0)).setCell ⟨(w.heap.size + 1 + 1), 5, none⟩ (.slice none 0 0) = wf at *
    have x0 : wf.cell? ⟨(w.heap.size + 1 + 1), 0, none⟩ = some (.int .i64 0) := dB.cell 0
    have x1 : wf.cell? ⟨(w.heap.size + 1 + 1), 1, none⟩ = some (.int .i64 0) := dB.cell 1
    have x2 : wf.cell? ⟨(w.heap.size + 1 + 1), 2, none⟩ = some (.int .i64 0) := dB.cell 2
    have x3 : wf.cell? ⟨(w.heap.size + 1 + 1), 3, none⟩ = some (.slice none 0 0) := dB.cell 3
    have x4 : wf.cell? ⟨(w.heap.size + 1 + 1), 4, none⟩ = some (.slice none 0 0) := dB.cell 4
    have x5 : wf.cell? ⟨(w.heap.size + 1 + 1), 5, none⟩ = some (.slice none 0 0) := dB.cell 5
    have hres : NewFmI3 w res (.returned (.tuple #[.agg #[.int .i64 0, .int .i64 0, .int .i64 0, .slice none 0 0, .slice none 0 0, .slice none 0 0], .int .i64 0, .int .i64 1])) wf := by rw [HN.out]; exact ⟨none, 0, [], none, 0, [], none, 0, rfl, FmR.zero _ _, yS _ _ yN (by omega)⟩
    exact bodyPost_ret (v := .tuple #[.agg #[.int .i64 0, .int .i64 0, .int .i64 0, .slice none 0 0, .slice none 0 0, .slice none 0 0], .int .i64 0, .int .i64 1]) (by simp [results, Try.results13, go_sem, x0, x1, x2, x3, x4, x5]) rfl hres
  have HN : Hid (res = nextFm sy st rs ⟨q, h, a, nums ts, nums us, os⟩) := Lib.hid (by rw [HRES.out]; unfold stepFormF; rw [A1.out, a2]; rfl)
  have HNX := Lib.hid (l27Next_any w.heap.size (w.heap.size + 1) sy st A0 n0 k0 rs q h a A n c ts B m d us C l e os W2 (HM1.out.below z2) (HR.out.below y2) A1.out (((b1.below' z1).below' z2).fmAt (nums ts) (nums us) os) (HX.out.below y2) (HY.out.below y2) (HZ.out.below y2) a2)
  rw [← HN.out] at HNX
  clear a2 HRES HN
  go_wp2_with fail
  refine HNX.out.mono ?_
  rintro e W3 ⟨A', c', ts', B', d', us', C', k', rfl, hR3, z3⟩
  obtain ⟨⟨q', h', a', FW, FR, O'⟩, kd, cd⟩ := res
  dsimp only at hR3 ⊢
  have y3 := y2.trans (z3.mono y2.size)
  have c3 := cN.below' z3
  have x0 : W3.cell? ⟨(w.heap.size + 1 + 1), 0, none⟩ = some (.int .i64 0) := c3.cell 0
  have x1 : W3.cell? ⟨(w.heap.size + 1 + 1), 1, none⟩ = some (.int .i64 0) := c3.cell 1
  have x2 : W3.cell? ⟨(w.heap.size + 1 + 1), 2, none⟩ = some (.int .i64 0) := c3.cell 2
  have x3 : W3.cell? ⟨(w.heap.size + 1 + 1), 3, none⟩ = some (.slice none 0 0) := c3.cell 3
  have x4 : W3.cell? ⟨(w.heap.size + 1 + 1), 4, none⟩ = some (.slice none 0 0) := c3.cell 4
  have x5 : W3.cell? ⟨(w.heap.size + 1 + 1), 5, none⟩ = some (.slice none 0 0) := c3.cell 5
  have f0 := c3.frozen 0
  have f1 := c3.frozen 1
  have f2 := c3.frozen 2
  have f3 := c3.frozen 3
  have f4 := c3.frozen 4
  have f5 := c3.frozen 5
  go_wp2_with fail
  clear x0 x1 x2 x3 x4 x5
  have dB : Blk ((((((W3.setCell ⟨(w.heap.size + 1 + 1), 0, none⟩ (.int .i64 q')).setCell ⟨(w.heap.size + 1 + 1), 1, none⟩ (.int .i64 h')).setCell ⟨(w.heap.size + 1 + 1), 2, none⟩ (.int .i64 a')).setCell ⟨(w.heap.size + 1 + 1), 3, none⟩ (.slice A' ts'.length c')).setCell ⟨(w.heap.size + 1 + 1), 4, none⟩ (.slice B' us'.length d')).setCell ⟨(w.heap.size + 1 + 1), 5, none⟩ (.slice C' O'.length k')) (w.heap.size + 1 + 1) 31 #[.int .i64 q', .int .i64 h', .int .i64 a', .slice A' ts'.length c', .slice B' us'.length d', .slice C' O'.length k'] := fm_set c3 (.int .i64 q') (.int .i64 h') (.int .i64 a') (.slice A' ts'.length c') (.slice B' us'.length d') (.slice C' O'.length k')
  have yS : ∀ (lo : Nat) (w0 : World), Below lo w0 W3 → lo ≤ (w.heap.size + 1 + 1) → Below lo w0 ((((((W3.setCell ⟨(w.heap.size + 1 + 1), 0, none⟩ (.int .i64 q')).setCell ⟨(w.heap.size + 1 + 1), 1, none⟩ (.int .i64 h')).setCell ⟨(w.heap.size + 1 + 1), 2, none⟩ (.int .i64 a')).setCell ⟨(w.heap.size + 1 + 1), 3, none⟩ (.slice A' ts'.length c')).setCell ⟨(w.heap.size + 1 + 1), 4, none⟩ (.slice B' us'.length d')).setCell ⟨(w.heap.size + 1 + 1), 5, none⟩ (.slice C' O'.length k')) := fun lo w0 h hl => fm_below h hl (.int .i64 q') (.int .i64 h') (.int .i64 a') (.slice A' ts'.length c') (.slice B' us'.length d') (.slice C' O'.length k')
  have kS : ∀ k, k ≠ (w.heap.size + 1 + 1) → ((((((W3.setCell ⟨(w.heap.size + 1 + 1), 0, none⟩ (.int .i64 q')).setCell ⟨(w.heap.size + 1 + 1), 1, none⟩ (.int .i64 h')).setCell ⟨(w.heap.size + 1 + 1), 2, none⟩ (.int .i64 a')).setCell ⟨(w.heap.size + 1 + 1), 3, none⟩ (.slice A' ts'.length c')).setCell ⟨(w.heap.size + 1 + 1), 4, none⟩ (.slice B' us'.length d')).setCell ⟨(w.heap.size + 1 + 1), 5, none⟩ (.slice C' O'.length k')).heap[k]? = W3.heap[k]? := fun k hk => fm_kept (.int .i64 q') (.int .i64 h') (.int .i64 a') (.slice A' ts'.length c') (.slice B' us'.length d') (.slice C' O'.length k') k hk
  generalize (((((W3.setCell ⟨(w.heap.size + 1 + 1), 0, none⟩ (.int .i64 q')).setCell ⟨(w.heap.size + 1 + 1), 1, none⟩ (.int .i64 h')).setCell ⟨(w.heap.size + 1 + 1), 2, none⟩ (.int .i64 a')).setCell ⟨(w.heap.size + 1 + 1), 3, none⟩ (.slice A' ts'.length c')).setCell ⟨(w.heap.size + 1 + 1), 4, none⟩ (.slice B' us'.length d')).setCell ⟨(w.heap.size + 1 + 1), 5, none⟩ (.slice C' O'.length k') = wf at *
  have x0 : wf.cell? ⟨(w.heap.size + 1 + 1), 0, none⟩ = some (.int .i64 q') := dB.cell 0
  have x1 : wf.cell? ⟨(w.heap.size + 1 + 1), 1, none⟩ = some (.int .i64 h') := dB.cell 1
  have x2 : wf.cell? ⟨(w.heap.size + 1 + 1), 2, none⟩ = some (.int .i64 a') := dB.cell 2
  have x3 : wf.cell? ⟨(w.heap.size + 1 + 1), 3, none⟩ = some (.slice A' ts'.length c') := dB.cell 3
  have x4 : wf.cell? ⟨(w.heap.size + 1 + 1), 4, none⟩ = some (.slice B' us'.length d') := dB.cell 4
  have x5 : wf.cell? ⟨(w.heap.size + 1 + 1), 5, none⟩ = some (.slice C' O'.length k') := dB.cell 5
  have hres : NewFmI3 w (⟨q', h', a', FW, FR, O'⟩, kd, cd) (.returned (.tuple #[.agg #[.int .i64 q', .int .i64 h', .int .i64 a', .slice A' ts'.length c', .slice B' us'.length d', .slice C' O'.length k'], .int .i64 kd, .int .i64 cd])) wf := ⟨A', c', ts', B', d', us', C', k', rfl, ⟨(hR3.1.far c3 (by decide) (by decide) kS).mono y2.size, hR3.2⟩, yS _ _ y3 (by omega)⟩
  exact bodyPost_ret (v := .tuple #[.agg #[.int .i64 q', .int .i64 h', .int .i64 a', .slice A' ts'.length c', .slice B' us'.length d', .slice C' O'.length k'], .int .i64 kd, .int .i64 cd]) (by simp [results, Try.results13, go_sem, x0, x1, x2, x3, x4, x5]) rfl hres
end Go.Proofs.Ytbpofkggoolmpaa
