/-
  Contract of the reference's RunFormula.
-/
import Derived.Test.YtbpofkggoolmpaaPbFmAll2
import Derived.Test.YtbpofkggoolmpaaPbFmAll19
import Derived.Test.YtbpofkggoolmpaaPbFmAll20
namespace Go.Proofs.Ytbpofkggoolmpaa
open Go.RowKit

/-- A run that has steps left. -/
def RunT (w1 : World) (g : Nat) (sy st : Int) (rs : List R3) (f : Fm) (N j : Nat) (wr : World) : Prop :=
  ∃ fi : Fm, FmBox wr w1.heap.size g fi ∧ fmB sy st fi = true ∧ runFm sy st rs N f = runFm sy st rs j fi ∧ Below w1.heap.size w1 wr
/-- A step from a box. -/
theorem nextBox_any (gm g : Nat) (sy st : Int) (A0 : Option Addr) (n0 k0 : Nat) (rs : List R3) (fi : Fm) (lo : Nat) (w : World) (hm : MachAt w gm sy st A0 n0 k0) (hr : S3 w A0 n0 rs) (hv : machB sy st rs = true) (hF : FmBox w lo g fi) (hfi : fmB sy st fi = true) :
    Calls Try.prog 87 #[.pointer (some ⟨gm, 0, none⟩), .pointer (some ⟨g, 0, none⟩)] w (NewFmI3 w (nextFm sy st rs fi)) := by
  obtain ⟨A, c, ts, B, d, us, C, k, hb, hR, hl⟩ := hF
  obtain ⟨q, h, a, FW, FR, O⟩ := fi
  obtain ⟨hO, e1, e2⟩ := hR
  dsimp only at hb hO e1 e2
  subst e1 e2
  exact l27Next_any gm g sy st A0 n0 k0 rs q h a A ts.length c ts B us.length d us C O.length k O w hm hr hv (hb.fmAt _ _ _) hO.1.sii hO.2.1.sii hO.2.2.1.asI hfi

set_option maxRecDepth 100000 in
set_option maxHeartbeats 2000000 in
theorem runFormulaS_any (sy st : Int) (A0 : Option Addr) (n0 k0 : Nat) (rs : List R3) (q h a : Int) (A : Option Addr) (n c : Nat) (ts : List Sl) (B : Option Addr) (m d : Nat) (us : List Sl) (C : Option Addr) (l e : Nat) (os : List Int) (bd : Int) (w : World) (hr : S3 w A0 n0 rs) (hx : SII w A n ts) (hy : SII w B m us) (hz : SI w C l os)
    (hn0 : n0 ≤ 1048576) (hn : n ≤ 1048576) (hm : m ≤ 1048576) (hl : l ≤ 1048576) (hns : ∀ t ∈ ts, t.xs.length ≤ 1048576) (hms : ∀ t ∈ us, t.xs.length ≤ 1048576) :
    Calls Try.prog 22 #[.agg #[.int .i64 sy, .int .i64 st, .slice A0 n0 k0], .agg #[.int .i64 q, .int .i64 h, .int .i64 a, .slice A n c, .slice B m d, .slice C l e], .int .i64 bd] w (NewFmI w (runFormF sy st rs ⟨q, h, a, nums ts, nums us, os⟩ bd)) := by
  obtain ⟨res, hres⟩ : ∃ res, res = runFormF sy st rs ⟨q, h, a, nums ts, nums us, os⟩ bd := ⟨_, rfl⟩
  rw [← hres]
  have HRES := Lib.hid hres
  have HNS := Lib.hid hns
  have HMS := Lib.hid hms
  have HR := Lib.hid hr
  have HX := Lib.hid hx
  have HY := Lib.hid hy
  have HZ := Lib.hid hz
  clear hres hns hms hr hx hy hz
  obtain ⟨W, hW_⟩ : ∃ W, W = ((w.alloc (.cells #[.int .i64 sy, .int .i64 st, .slice A0 n0 k0] 36)).alloc (.cells #[.int .i64 q, .int .i64 h, .int .i64 a, .slice A n c, .slice B m d, .slice C l e] 31)).alloc (.cells #[.int .i64 0, .int .i64 0, .int .i64 0, .slice none 0 0, .slice none 0 0, .slice none 0 0] 31) := ⟨_, rfl⟩
  have s_1 : (w.alloc (.cells #[.int .i64 sy, .int .i64 st, .slice A0 n0 k0] 36)).heap.size = w.heap.size + 1 := by simp
  have s_2 : ((w.alloc (.cells #[.int .i64 sy, .int .i64 st, .slice A0 n0 k0] 36)).alloc (.cells #[.int .i64 q, .int .i64 h, .int .i64 a, .slice A n c, .slice B m d, .slice C l e] 31)).heap.size = w.heap.size + 1 + 1 := by simp
  have b0 : Blk W w.heap.size 36 #[.int .i64 sy, .int .i64 st, .slice A0 n0 k0] := by rw [hW_]; exact ((Blk.new w _ _).alloc _).alloc _
  have b1 : Blk W (w.heap.size + 1) 31 #[.int .i64 q, .int .i64 h, .int .i64 a, .slice A n c, .slice B m d, .slice C l e] := by rw [hW_, ← s_1]; exact (Blk.new _ _ _).alloc _
  have b2 : Blk W (w.heap.size + 1 + 1) 31 #[.int .i64 0, .int .i64 0, .int .i64 0, .slice none 0 0, .slice none 0 0, .slice none 0 0] := by rw [hW_, ← s_2]; exact Blk.new _ _ _
  have y0 : Below w.heap.size w W := by rw [hW_]; exact (((Below.refl _ _).alloc (Nat.le_refl _) _).alloc (by simp) _).alloc (by simp; omega) _
  have HW := Lib.hid hW_
  clear hW_ s_1 s_2
  have HM := Lib.hid b0.machAt
  have HF := Lib.hid (b1.fmAt (nums ts) (nums us) os)
  go_enter Try.func22, Try.ntmps22
  go_wp2_with fail
  rw [← HW.out]
  refine (l05Is_any _ _ _ _ _ _ rs _ HM.out (HR.out.below y0) hn0).mono ?_
  rintro e W1 ⟨rfl, z1⟩
  have y1 := y0.trans (z1.mono y0.size)
  have c2 := b2.below' z1
  have HM1 := Lib.hid (HM.out.below z1)
  have HF1 := Lib.hid ((b1.below' z1).fmAt (nums ts) (nums us) os)
  cases a1 : machB sy st rs
  · have HN : Hid (res = (Fm.zero, 1)) := Lib.hid (by rw [HRES.out]; unfold runFormF; rw [a1]; rfl)
    clear a1
    have cN := c2
    have yN := y1
    have x0 : W1.cell? ⟨(w.heap.size + 1 + 1), 0, none⟩ = some (.int .i64 0) := cN.cell 0
    have x1 : W1.cell? ⟨(w.heap.size + 1 + 1), 1, none⟩ = some (.int .i64 0) := cN.cell 1
    have x2 : W1.cell? ⟨(w.heap.size + 1 + 1), 2, none⟩ = some (.int .i64 0) := cN.cell 2
    have x3 : W1.cell? ⟨(w.heap.size + 1 + 1), 3, none⟩ = some (.slice none 0 0) := cN.cell 3
    have x4 : W1.cell? ⟨(w.heap.size + 1 + 1), 4, none⟩ = some (.slice none 0 0) := cN.cell 4
    have x5 : W1.cell? ⟨(w.heap.size + 1 + 1), 5, none⟩ = some (.slice none 0 0) := cN.cell 5
    have f0 := cN.frozen 0
    have f1 := cN.frozen 1
    have f2 := cN.frozen 2
    have f3 := cN.frozen 3
    have f4 := cN.frozen 4
    have f5 := cN.frozen 5
    go_wp2_with fail
    clear x0 x1 x2 x3 x4 x5
    have dB : Blk ((((((W1.setCell ⟨(w.heap.size + 1 + 1), 0, none⟩ (.int .i64 0)).setCell ⟨(w.heap.size + 1 + 1), 1, none⟩ (.int .i64 0)).setCell ⟨(w.heap.size + 1 + 1), 2, none⟩ (.int .i64 0)).setCell ⟨(w.heap.size + 1 + 1), 3, none⟩ (.slice none 0 0)).setCell ⟨(w.heap.size + 1 + 1), 4, none⟩ (.slice none 0 0)).setCell ⟨(w.heap.size + 1 + 1), 5, none⟩ (.slice none 0 0)) (w.heap.size + 1 + 1) 31 #[.int .i64 0, .int .i64 0, .int .i64 0, .slice none 0 0, .slice none 0 0, .slice none 0 0] := fm_set cN (.int .i64 0) (.int .i64 0) (.int .i64 0) (.slice none 0 0) (.slice none 0 0) (.slice none 0 0)
    have yS : ∀ (lo : Nat) (w0 : World), Below lo w0 W1 → lo ≤ (w.heap.size + 1 + 1) → Below lo w0 ((((((W1.setCell ⟨(w.heap.size + 1 + 1), 0, none⟩ (.int .i64 0)).setCell ⟨(w.heap.size + 1 + 1), 1, none⟩ (.int .i64 0)).setCell ⟨(w.heap.size + 1 + 1), 2, none⟩ (.int .i64 0)).setCell ⟨(w.heap.size + 1 + 1), 3, none⟩ (.slice none 0 0)).setCell ⟨(w.heap.size + 1 + 1), 4, none⟩ (.slice none 0 0)).setCell ⟨(w.heap.size + 1 + 1), 5, none⟩ (.slice none 0 0)) := fun lo w0 h hl => fm_below h hl (.int .i64 0) (.int .i64 0) (.int .i64 0) (.slice none 0 0) (.slice none 0 0) (.slice none 0 0)
    have kS : ∀ k, k ≠ (w.heap.size + 1 + 1) → ((((((W1.setCell ⟨(w.heap.size + 1 + 1), 0, none⟩ (.int .i64 0)).setCell ⟨(w.heap.size + 1 + 1), 1, none⟩ (.int .i64 0)).setCell ⟨(w.heap.size + 1 + 1), 2, none⟩ (.int .i64 0)).setCell ⟨(w.heap.size + 1 + 1), 3, none⟩ (.slice none 0 0)).setCell ⟨(w.heap.size + 1 + 1), 4, none⟩ (.slice none 0 0)).setCell ⟨(w.heap.size + 1 + 1), 5, none⟩ (.slice none 0 0)).heap[k]? = W1.heap[k]? := fun k hk => fm_kept (.int .i64 0) (.int .i64 0) (.int .i64 0) (.slice none 0 0) (.slice none 0 0) (.slice none 0 0) k hk
    generalize (((((W1.setCell ⟨(w.heap.size + 1 + 1), 0, none⟩ (.int .i64 0)).setCell ⟨(w.heap.size + 1 + 1), 1, none⟩ (.int .i64 0)).setCell ⟨(w.heap.size + 1 + 1), 2, none⟩ (.int .i64 0)).setCell ⟨(w.heap.size + 1 + 1), 3, none⟩ (.slice none 0 0)).setCell ⟨(w.heap.size + 1 + 1), 4, none⟩ (.slice none 0 0)).setCell ⟨(w.heap.size + 1 + 1), 5, none⟩ (.slice none 0 0) = wf at *
    have x0 : wf.cell? ⟨(w.heap.size + 1 + 1), 0, none⟩ = some (.int .i64 0) := dB.cell 0
    have x1 : wf.cell? ⟨(w.heap.size + 1 + 1), 1, none⟩ = some (.int .i64 0) := dB.cell 1
    have x2 : wf.cell? ⟨(w.heap.size + 1 + 1), 2, none⟩ = some (.int .i64 0) := dB.cell 2
    have x3 : wf.cell? ⟨(w.heap.size + 1 + 1), 3, none⟩ = some (.slice none 0 0) := dB.cell 3
    have x4 : wf.cell? ⟨(w.heap.size + 1 + 1), 4, none⟩ = some (.slice none 0 0) := dB.cell 4
    have x5 : wf.cell? ⟨(w.heap.size + 1 + 1), 5, none⟩ = some (.slice none 0 0) := dB.cell 5
    have hres : NewFmI w res (.returned (.tuple #[.agg #[.int .i64 0, .int .i64 0, .int .i64 0, .slice none 0 0, .slice none 0 0, .slice none 0 0], .int .i64 1])) wf := by rw [HN.out]; exact ⟨none, 0, [], none, 0, [], none, 0, rfl, FmR.zero _ _, yS _ _ yN (by omega)⟩
    exact bodyPost_ret (v := .tuple #[.agg #[.int .i64 0, .int .i64 0, .int .i64 0, .slice none 0 0, .slice none 0 0, .slice none 0 0], .int .i64 1]) (by simp [results, Try.results22, go_sem, x0, x1, x2, x3, x4, x5]) rfl hres
  obtain ⟨s1, s2, s3, s4⟩ := machB_bounds a1
  have A1 := Lib.hid a1
  clear a1
  go_wp2_with fail
  refine (l27Is_any _ _ sy st A0 n0 k0 q h a A n c ts B m d us C l e os _ HM1.out HF1.out (HX.out.below y1) (HY.out.below y1) (HZ.out.below y1) hn hm hl HNS.out HMS.out s1 s2 s3 s4).mono ?_
  rintro e W2 ⟨rfl, z2⟩
  have y2 := y1.trans (z2.mono y1.size)
  have cN := c2.below' z2
  have yN := y2
  cases a2 : fmB sy st ⟨q, h, a, nums ts, nums us, os⟩
  · have HN : Hid (res = (Fm.zero, 1)) := Lib.hid (by rw [HRES.out]; unfold runFormF; rw [A1.out, a2]; rfl)
    clear a2
    have x0 : W2.cell? ⟨(w.heap.size + 1 + 1), 0, none⟩ = some (.int .i64 0) := cN.cell 0
    have x1 : W2.cell? ⟨(w.heap.size + 1 + 1), 1, none⟩ = some (.int .i64 0) := cN.cell 1
    have x2 : W2.cell? ⟨(w.heap.size + 1 + 1), 2, none⟩ = some (.int .i64 0) := cN.cell 2
    have x3 : W2.cell? ⟨(w.heap.size + 1 + 1), 3, none⟩ = some (.slice none 0 0) := cN.cell 3
    have x4 : W2.cell? ⟨(w.heap.size + 1 + 1), 4, none⟩ = some (.slice none 0 0) := cN.cell 4
    have x5 : W2.cell? ⟨(w.heap.size + 1 + 1), 5, none⟩ = some (.slice none 0 0) := cN.cell 5
    have f0 := cN.frozen 0
    have f1 := cN.frozen 1
    have f2 := cN.frozen 2
    have f3 := cN.frozen 3
    have f4 := cN.frozen 4
    have f5 := cN.frozen 5
    go_wp2_with fail
    clear x0 x1 x2 x3 x4 x5
    have dB : Blk ((((((W2.setCell ⟨(w.heap.size + 1 + 1), 0, none⟩ (.int .i64 0)).setCell ⟨(w.heap.size + 1 + 1), 1, none⟩ (.int .i64 0)).setCell ⟨(w.heap.size + 1 + 1), 2, none⟩ (.int .i64 0)).setCell ⟨(w.heap.size + 1 + 1), 3, none⟩ (.slice none 0 0)).setCell ⟨(w.heap.size + 1 + 1), 4, none⟩ (.slice none 0 0)).setCell ⟨(w.heap.size + 1 + 1), 5, none⟩ (.slice none 0 0)) (w.heap.size + 1 + 1) 31 #[.int .i64 0, .int .i64 0, .int .i64 0, .slice none 0 0, .slice none 0 0, .slice none 0 0] := fm_set cN (.int .i64 0) (.int .i64 0) (.int .i64 0) (.slice none 0 0) (.slice none 0 0) (.slice none 0 0)
    have yS : ∀ (lo : Nat) (w0 : World), Below lo w0 W2 → lo ≤ (w.heap.size + 1 + 1) → Below lo w0 ((((((W2.setCell ⟨(w.heap.size + 1 + 1), 0, none⟩ (.int .i64 0)).setCell ⟨(w.heap.size + 1 + 1), 1, none⟩ (.int .i64 0)).setCell ⟨(w.heap.size + 1 + 1), 2, none⟩ (.int .i64 0)).setCell ⟨(w.heap.size + 1 + 1), 3, none⟩ (.slice none 0 0)).setCell ⟨(w.heap.size + 1 + 1), 4, none⟩ (.slice none 0 0)).setCell ⟨(w.heap.size + 1 + 1), 5, none⟩ (.slice none 0 0)) := fun lo w0 h hl => fm_below h hl (.int .i64 0) (.int .i64 0) (.int .i64 0) (.slice none 0 0) (.slice none 0 0) (.slice none 0 0)
    have kS : ∀ k, k ≠ (w.heap.size + 1 + 1) → ((((((W2.setCell ⟨(w.heap.size + 1 + 1), 0, none⟩ (.int .i64 0)).setCell ⟨(w.heap.size + 1 + 1), 1, none⟩ (.int .i64 0)).setCell ⟨(w.heap.size + 1 + 1), 2, none⟩ (.int .i64 0)).setCell ⟨(w.heap.size + 1 + 1), 3, none⟩ (.slice none 0 0)).setCell ⟨(w.heap.size + 1 + 1), 4, none⟩ (.slice none 0 0)).setCell ⟨(w.heap.size + 1 + 1), 5, none⟩ (.slice none 0 0)).heap[k]? = W2.heap[k]? := fun k hk => fm_kept (.int .i64 0) (.int .i64 0) (.int .i64 0) (.slice none 0 0) (.slice none 0 0) (.slice none 0 0) k hk
    generalize (((((W2.setCell ⟨(w.heap.size + 1 + 1), 0, none⟩ (.int .i64 0)).setCell ⟨(w.heap.size + 1 + 1), 1, none⟩ (.int .i64 0)).setCell ⟨(w.heap.size + 1 + 1), 2, none⟩ (.int .i64 0)).setCell ⟨(w.heap.size + 1 + 1), 3, none⟩ (.slice none 0 0)).setCell ⟨(w.heap.size + 1 + 1), 4, none⟩ (.slice none 0 0)).setCell ⟨(w.heap.size + 1 + 1), 5, none⟩ (.slice none 0 0) = wf at *
    have x0 : wf.cell? ⟨(w.heap.size + 1 + 1), 0, none⟩ = some (.int .i64 0) := dB.cell 0
    have x1 : wf.cell? ⟨(w.heap.size + 1 + 1), 1, none⟩ = some (.int .i64 0) := dB.cell 1
    have x2 : wf.cell? ⟨(w.heap.size + 1 + 1), 2, none⟩ = some (.int .i64 0) := dB.cell 2
    have x3 : wf.cell? ⟨(w.heap.size + 1 + 1), 3, none⟩ = some (.slice none 0 0) := dB.cell 3
    have x4 : wf.cell? ⟨(w.heap.size + 1 + 1), 4, none⟩ = some (.slice none 0 0) := dB.cell 4
    have x5 : wf.cell? ⟨(w.heap.size + 1 + 1), 5, none⟩ = some (.slice none 0 0) := dB.cell 5
    have hres : NewFmI w res (.returned (.tuple #[.agg #[.int .i64 0, .int .i64 0, .int .i64 0, .slice none 0 0, .slice none 0 0, .slice none 0 0], .int .i64 1])) wf := by rw [HN.out]; exact ⟨none, 0, [], none, 0, [], none, 0, rfl, FmR.zero _ _, yS _ _ yN (by omega)⟩
    exact bodyPost_ret (v := .tuple #[.agg #[.int .i64 0, .int .i64 0, .int .i64 0, .slice none 0 0, .slice none 0 0, .slice none 0 0], .int .i64 1]) (by simp [results, Try.results22, go_sem, x0, x1, x2, x3, x4, x5]) rfl hres
  have HFB := Lib.hid a2
  have hd : Hid (res = if inB bd 0 400 then runFm sy st rs bd.toNat ⟨q, h, a, nums ts, nums us, os⟩ else (Fm.zero, 2)) := Lib.hid (by rw [HRES.out]; unfold runFormF; rw [A1.out, a2]; rfl)
  clear a2 HRES
  cases a3 : inB bd 0 400
  · have A3 := Lib.hid a3
    have HN : Hid (res = (Fm.zero, 2)) := Lib.hid (by rw [hd.out, a3]; rfl)
    clear a3 hd
    have x0 : W2.cell? ⟨(w.heap.size + 1 + 1), 0, none⟩ = some (.int .i64 0) := cN.cell 0
    have x1 : W2.cell? ⟨(w.heap.size + 1 + 1), 1, none⟩ = some (.int .i64 0) := cN.cell 1
    have x2 : W2.cell? ⟨(w.heap.size + 1 + 1), 2, none⟩ = some (.int .i64 0) := cN.cell 2
    have x3 : W2.cell? ⟨(w.heap.size + 1 + 1), 3, none⟩ = some (.slice none 0 0) := cN.cell 3
    have x4 : W2.cell? ⟨(w.heap.size + 1 + 1), 4, none⟩ = some (.slice none 0 0) := cN.cell 4
    have x5 : W2.cell? ⟨(w.heap.size + 1 + 1), 5, none⟩ = some (.slice none 0 0) := cN.cell 5
    have f0 := cN.frozen 0
    have f1 := cN.frozen 1
    have f2 := cN.frozen 2
    have f3 := cN.frozen 3
    have f4 := cN.frozen 4
    have f5 := cN.frozen 5
    go_wp2_with (go_at_call 102; refine (l00In_is A3.out _).mono ?_; rintro e w' ⟨rfl, rfl⟩)
    clear x0 x1 x2 x3 x4 x5
    have dB : Blk ((((((W2.setCell ⟨(w.heap.size + 1 + 1), 0, none⟩ (.int .i64 0)).setCell ⟨(w.heap.size + 1 + 1), 1, none⟩ (.int .i64 0)).setCell ⟨(w.heap.size + 1 + 1), 2, none⟩ (.int .i64 0)).setCell ⟨(w.heap.size + 1 + 1), 3, none⟩ (.slice none 0 0)).setCell ⟨(w.heap.size + 1 + 1), 4, none⟩ (.slice none 0 0)).setCell ⟨(w.heap.size + 1 + 1), 5, none⟩ (.slice none 0 0)) (w.heap.size + 1 + 1) 31 #[.int .i64 0, .int .i64 0, .int .i64 0, .slice none 0 0, .slice none 0 0, .slice none 0 0] := fm_set cN (.int .i64 0) (.int .i64 0) (.int .i64 0) (.slice none 0 0) (.slice none 0 0) (.slice none 0 0)
    have yS : ∀ (lo : Nat) (w0 : World), Below lo w0 W2 → lo ≤ (w.heap.size + 1 + 1) → Below lo w0 ((((((W2.setCell ⟨(w.heap.size + 1 + 1), 0, none⟩ (.int .i64 0)).setCell ⟨(w.heap.size + 1 + 1), 1, none⟩ (.int .i64 0)).setCell ⟨(w.heap.size + 1 + 1), 2, none⟩ (.int .i64 0)).setCell ⟨(w.heap.size + 1 + 1), 3, none⟩ (.slice none 0 0)).setCell ⟨(w.heap.size + 1 + 1), 4, none⟩ (.slice none 0 0)).setCell ⟨(w.heap.size + 1 + 1), 5, none⟩ (.slice none 0 0)) := fun lo w0 h hl => fm_below h hl (.int .i64 0) (.int .i64 0) (.int .i64 0) (.slice none 0 0) (.slice none 0 0) (.slice none 0 0)
    have kS : ∀ k, k ≠ (w.heap.size + 1 + 1) → ((((((W2.setCell ⟨(w.heap.size + 1 + 1), 0, none⟩ (.int .i64 0)).setCell ⟨(w.heap.size + 1 + 1), 1, none⟩ (.int .i64 0)).setCell ⟨(w.heap.size + 1 + 1), 2, none⟩ (.int .i64 0)).setCell ⟨(w.heap.size + 1 + 1), 3, none⟩ (.slice none 0 0)).setCell ⟨(w.heap.size + 1 + 1), 4, none⟩ (.slice none 0 0)).setCell ⟨(w.heap.size + 1 + 1), 5, none⟩ (.slice none 0 0)).heap[k]? = W2.heap[k]? := fun k hk => fm_kept (.int .i64 0) (.int .i64 0) (.int .i64 0) (.slice none 0 0) (.slice none 0 0) (.slice none 0 0) k hk
    generalize (((((W2.setCell ⟨(w.heap.size + 1 + 1), 0, none⟩ (.int .i64 0)).setCell ⟨(w.heap.size + 1 + 1), 1, none⟩ (.int .i64 0)).setCell ⟨(w.heap.size + 1 + 1), 2, none⟩ (.int .i64 0)).setCell ⟨(w.heap.size + 1 + 1), 3, none⟩ (.slice none 0 0)).setCell ⟨(w.heap.size + 1 + 1), 4, none⟩ (.slice none 0 0)).setCell ⟨(w.heap.size + 1 + 1), 5, none⟩ (.slice none 0 0) = wf at *
    have x0 : wf.cell? ⟨(w.heap.size + 1 + 1), 0, none⟩ = some (.int .i64 0) := dB.cell 0
    have x1 : wf.cell? ⟨(w.heap.size + 1 + 1), 1, none⟩ = some (.int .i64 0) := dB.cell 1
    have x2 : wf.cell? ⟨(w.heap.size + 1 + 1), 2, none⟩ = some (.int .i64 0) := dB.cell 2
    have x3 : wf.cell? ⟨(w.heap.size + 1 + 1), 3, none⟩ = some (.slice none 0 0) := dB.cell 3
    have x4 : wf.cell? ⟨(w.heap.size + 1 + 1), 4, none⟩ = some (.slice none 0 0) := dB.cell 4
    have x5 : wf.cell? ⟨(w.heap.size + 1 + 1), 5, none⟩ = some (.slice none 0 0) := dB.cell 5
    have hres : NewFmI w res (.returned (.tuple #[.agg #[.int .i64 0, .int .i64 0, .int .i64 0, .slice none 0 0, .slice none 0 0, .slice none 0 0], .int .i64 2])) wf := by rw [HN.out]; exact ⟨none, 0, [], none, 0, [], none, 0, rfl, FmR.zero _ _, yS _ _ yN (by omega)⟩
    exact bodyPost_ret (v := .tuple #[.agg #[.int .i64 0, .int .i64 0, .int .i64 0, .slice none 0 0, .slice none 0 0, .slice none 0 0], .int .i64 2]) (by simp [results, Try.results22, go_sem, x0, x1, x2, x3, x4, x5]) rfl hres
  have A3 := Lib.hid a3
  have hb01 := (inB_iff _ _ _).1 a3
  obtain ⟨N, rfl⟩ : ∃ N : Nat, bd = (N : Int) := ⟨bd.toNat, by omega⟩
  have HN : Hid (res = runFm sy st rs N ⟨q, h, a, nums ts, nums us, os⟩) := Lib.hid (by rw [hd.out, a3, Int.toNat_natCast]; rfl)
  clear a3 hd
  have hN4 : N ≤ 400 := by omega
  have b2a := (b1.below' z1).below' z2
  have b2m := (b0.below' z1).below' z2
  have HM2 := Lib.hid (HM1.out.below z2)
  have HR2 := Lib.hid (HR.out.below y2)
  have HOW := Lib.hid (fun W' (z : Below W2.heap.size W2 W') => l27Own_any (w.heap.size + 1) q h a A n c ts B m d us C l e os W' ((b2a.below' z).fmAt (nums ts) (nums us) os) ((HX.out.below y2).below z) ((HY.out.below y2).below z) ((HZ.out.below y2).below z) hn hm hl HNS.out HMS.out)
  have HNX := Lib.hid (fun (g : Nat) (fi : Fm) (W' : World) (z : Below W2.heap.size W2 W') (hF : FmBox W' W2.heap.size g fi) (hfi : fmB sy st fi = true) => nextBox_any w.heap.size g sy st A0 n0 k0 rs fi W2.heap.size W' (HM2.out.below z) (HR2.out.below z) A1.out hF hfi)
  have hWsz : w.heap.size + 1 + 1 < W2.heap.size := cN.lt
  go_wp2_with (go_at_call 102; refine (l00In_is A3.out _).mono ?_; rintro e w' ⟨rfl, rfl⟩)
  refine (HOW.out _ (Below.refl _ _)).mono ?_
  rintro e W3 ⟨A9, c9, ts9, B9, d9, us9, C9, k9, rfl, hR3, z3⟩
  dsimp only at hR3 ⊢
  obtain ⟨W4, hW_⟩ : ∃ W_, W_ = W3.alloc (.cells #[.int .i64 q, .int .i64 h, .int .i64 a, .slice A9 ts9.length c9, .slice B9 us9.length d9, .slice C9 os.length k9] 31) := ⟨_, rfl⟩
  have b4 : Blk W4 W3.heap.size 31 #[.int .i64 q, .int .i64 h, .int .i64 a, .slice A9 ts9.length c9, .slice B9 us9.length d9, .slice C9 os.length k9] := by rw [hW_]; exact Blk.new W3 _ _
  have z4 : Below W3.heap.size W3 W4 := by rw [hW_]; exact (Below.refl _ _).alloc (Nat.le_refl _) _
  have HW4 := Lib.hid hW_
  clear hW_
  have hg3 := z3.size
  have HS0 : Hid (RunT W2 W3.heap.size sy st rs ⟨q, h, a, nums ts, nums us, os⟩ N N W4) := Lib.hid ⟨_, ⟨A9, c9, ts9, B9, d9, us9, C9, k9, b4, hR3.below z4, hg3⟩, HFB.out, rfl, z3.trans (z4.mono z3.size)⟩
  clear HOW hR3 b4
  go_upto_region 6 with fail
  rw [← HW4.out]
  go_wp2_with fail
  go_loopw [2] (fun s2 wr => ∃ j : Nat, j ≤ N ∧ s2 = .int .i64 (j : Int) ∧ Hid (RunT W2 W3.heap.size sy st rs ⟨q, h, a, nums ts, nums us, os⟩ N j wr)) (fun s2 _ => (intOf s2).toNat)
  case atStart => exact ⟨N, Nat.le_refl _, rfl, HS0⟩
  case round =>
    obtain ⟨j, hj, rfl, HS⟩ := hrel
    obtain ⟨fi, hFi, hfi, hrun, zr⟩ := HS.out
    have HRUN := Lib.hid hrun
    have HFI := Lib.hid hfi
    have d2 : Blk wr (w.heap.size + 1 + 1) 31 #[.int .i64 0, .int .i64 0, .int .i64 0, .slice none 0 0, .slice none 0 0, .slice none 0 0] := cN.below' zr
    have y3 : Below w.heap.size w wr := y2.trans (zr.mono y2.size)
    clear hrun hfi HS HS0
    by_cases hlt : 0 < j
    rotate_left
    · have hj0 : j = 0 := by omega
      have HNF : Hid (res = (fi, 0)) := Lib.hid (by rw [HN.out, HRUN.out, hj0]; rfl)
      obtain rfl := HNF.out
      have i2 : ¬ (0 : Int) < (j : Int) := by omega
      obtain ⟨A', c', ts', B', d', us', C', k', hb', hR', hl'⟩ := hFi
      clear HNF HN HRUN HFI HNX
      obtain ⟨q', h', a', FW', FR', O'⟩ := fi
      dsimp only at hb' hR' ⊢
      have v0 : wr.cell? ⟨W3.heap.size, 0, none⟩ = some (.int .i64 q') := hb'.cell 0
      have v1 : wr.cell? ⟨W3.heap.size, 1, none⟩ = some (.int .i64 h') := hb'.cell 1
      have v2 : wr.cell? ⟨W3.heap.size, 2, none⟩ = some (.int .i64 a') := hb'.cell 2
      have v3 : wr.cell? ⟨W3.heap.size, 3, none⟩ = some (.slice A' ts'.length c') := hb'.cell 3
      have v4 : wr.cell? ⟨W3.heap.size, 4, none⟩ = some (.slice B' us'.length d') := hb'.cell 4
      have v5 : wr.cell? ⟨W3.heap.size, 5, none⟩ = some (.slice C' O'.length k') := hb'.cell 5
      have x0 : wr.cell? ⟨(w.heap.size + 1 + 1), 0, none⟩ = some (.int .i64 0) := d2.cell 0
      have x1 : wr.cell? ⟨(w.heap.size + 1 + 1), 1, none⟩ = some (.int .i64 0) := d2.cell 1
      have x2 : wr.cell? ⟨(w.heap.size + 1 + 1), 2, none⟩ = some (.int .i64 0) := d2.cell 2
      have x3 : wr.cell? ⟨(w.heap.size + 1 + 1), 3, none⟩ = some (.slice none 0 0) := d2.cell 3
      have x4 : wr.cell? ⟨(w.heap.size + 1 + 1), 4, none⟩ = some (.slice none 0 0) := d2.cell 4
      have x5 : wr.cell? ⟨(w.heap.size + 1 + 1), 5, none⟩ = some (.slice none 0 0) := d2.cell 5
      have f0 := d2.frozen 0
      have f1 := d2.frozen 1
      have f2 := d2.frozen 2
      have f3 := d2.frozen 3
      have f4 := d2.frozen 4
      have f5 := d2.frozen 5
      have hgn : W3.heap.size ≠ w.heap.size + 1 + 1 := by omega
      go_wp2_with fail
      clear x0 x1 x2 x3 x4 x5 v0 v1 v2 v3 v4 v5
      have dB : Blk ((((((wr.setCell ⟨(w.heap.size + 1 + 1), 0, none⟩ (.int .i64 q')).setCell ⟨(w.heap.size + 1 + 1), 1, none⟩ (.int .i64 h')).setCell ⟨(w.heap.size + 1 + 1), 2, none⟩ (.int .i64 a')).setCell ⟨(w.heap.size + 1 + 1), 3, none⟩ (.slice A' ts'.length c')).setCell ⟨(w.heap.size + 1 + 1), 4, none⟩ (.slice B' us'.length d')).setCell ⟨(w.heap.size + 1 + 1), 5, none⟩ (.slice C' O'.length k')) (w.heap.size + 1 + 1) 31 #[.int .i64 q', .int .i64 h', .int .i64 a', .slice A' ts'.length c', .slice B' us'.length d', .slice C' O'.length k'] := fm_set d2 (.int .i64 q') (.int .i64 h') (.int .i64 a') (.slice A' ts'.length c') (.slice B' us'.length d') (.slice C' O'.length k')
      have yS : ∀ (lo : Nat) (w0 : World), Below lo w0 wr → lo ≤ (w.heap.size + 1 + 1) → Below lo w0 ((((((wr.setCell ⟨(w.heap.size + 1 + 1), 0, none⟩ (.int .i64 q')).setCell ⟨(w.heap.size + 1 + 1), 1, none⟩ (.int .i64 h')).setCell ⟨(w.heap.size + 1 + 1), 2, none⟩ (.int .i64 a')).setCell ⟨(w.heap.size + 1 + 1), 3, none⟩ (.slice A' ts'.length c')).setCell ⟨(w.heap.size + 1 + 1), 4, none⟩ (.slice B' us'.length d')).setCell ⟨(w.heap.size + 1 + 1), 5, none⟩ (.slice C' O'.length k')) := fun lo w0 h hl => fm_below h hl (.int .i64 q') (.int .i64 h') (.int .i64 a') (.slice A' ts'.length c') (.slice B' us'.length d') (.slice C' O'.length k')
      have kS : ∀ k, k ≠ (w.heap.size + 1 + 1) → ((((((wr.setCell ⟨(w.heap.size + 1 + 1), 0, none⟩ (.int .i64 q')).setCell ⟨(w.heap.size + 1 + 1), 1, none⟩ (.int .i64 h')).setCell ⟨(w.heap.size + 1 + 1), 2, none⟩ (.int .i64 a')).setCell ⟨(w.heap.size + 1 + 1), 3, none⟩ (.slice A' ts'.length c')).setCell ⟨(w.heap.size + 1 + 1), 4, none⟩ (.slice B' us'.length d')).setCell ⟨(w.heap.size + 1 + 1), 5, none⟩ (.slice C' O'.length k')).heap[k]? = wr.heap[k]? := fun k hk => fm_kept (.int .i64 q') (.int .i64 h') (.int .i64 a') (.slice A' ts'.length c') (.slice B' us'.length d') (.slice C' O'.length k') k hk
      generalize (((((wr.setCell ⟨(w.heap.size + 1 + 1), 0, none⟩ (.int .i64 q')).setCell ⟨(w.heap.size + 1 + 1), 1, none⟩ (.int .i64 h')).setCell ⟨(w.heap.size + 1 + 1), 2, none⟩ (.int .i64 a')).setCell ⟨(w.heap.size + 1 + 1), 3, none⟩ (.slice A' ts'.length c')).setCell ⟨(w.heap.size + 1 + 1), 4, none⟩ (.slice B' us'.length d')).setCell ⟨(w.heap.size + 1 + 1), 5, none⟩ (.slice C' O'.length k') = wf at *
      have x0 : wf.cell? ⟨(w.heap.size + 1 + 1), 0, none⟩ = some (.int .i64 q') := dB.cell 0
      have x1 : wf.cell? ⟨(w.heap.size + 1 + 1), 1, none⟩ = some (.int .i64 h') := dB.cell 1
      have x2 : wf.cell? ⟨(w.heap.size + 1 + 1), 2, none⟩ = some (.int .i64 a') := dB.cell 2
      have x3 : wf.cell? ⟨(w.heap.size + 1 + 1), 3, none⟩ = some (.slice A' ts'.length c') := dB.cell 3
      have x4 : wf.cell? ⟨(w.heap.size + 1 + 1), 4, none⟩ = some (.slice B' us'.length d') := dB.cell 4
      have x5 : wf.cell? ⟨(w.heap.size + 1 + 1), 5, none⟩ = some (.slice C' O'.length k') := dB.cell 5
      have hRf : FmR wf w.heap.size ⟨q', h', a', FW', FR', O'⟩ A' c' ts' B' d' us' C' k' := ⟨(hR'.1.far d2 (by decide) (by decide) kS).mono y2.size, hR'.2⟩
      have hres : NewFmI w (⟨q', h', a', FW', FR', O'⟩, 0) (.returned (.tuple #[.agg #[.int .i64 q', .int .i64 h', .int .i64 a', .slice A' ts'.length c', .slice B' us'.length d', .slice C' O'.length k'], .int .i64 0])) wf := ⟨A', c', ts', B', d', us', C', k', rfl, hRf, yS _ _ y3 (by omega)⟩
      exact bodyPost_ret (v := .tuple #[.agg #[.int .i64 q', .int .i64 h', .int .i64 a', .slice A' ts'.length c', .slice B' us'.length d', .slice C' O'.length k'], .int .i64 0]) (by simp [results, Try.results22, go_sem, x0, x1, x2, x3, x4, x5]) rfl hres
    have i2 : (0 : Int) < (j : Int) := by omega
    have HS2 := Lib.hid (HNX.out _ fi wr zr hFi HFI.out)
    have HRN : Hid (runFm sy st rs N ⟨q, h, a, nums ts, nums us, os⟩ = if (nextFm sy st rs fi).2.2 = 0 then runFm sy st rs (j - 1) (nextFm sy st rs fi).1 else (Fm.zero, (nextFm sy st rs fi).2.2)) := Lib.hid (by rw [HRUN.out, show j = (j - 1) + 1 by omega]; rfl)
    have HOKF : Hid ((nextFm sy st rs fi).2.2 = 0 → fmB sy st (nextFm sy st rs fi).1 = true) := Lib.hid nextFm_ok
    generalize nextFm sy st rs fi = nx at *
    obtain ⟨rf, rk, rc⟩ := nx
    have HFi := Lib.hid hFi
    clear hFi HRUN
    go_wp2_with fail
    refine HS2.out.mono ?_
    rintro en W5 ⟨A', c', ts', B', d', us', C', k', rfl, hR5, z5⟩
    obtain ⟨W6, hW_⟩ : ∃ W_, W_ = W5.alloc (.cells #[.int .i64 rf.q, .int .i64 rf.h, .int .i64 rf.a, .slice A' ts'.length c', .slice B' us'.length d', .slice C' rf.O.length k'] 31) := ⟨_, rfl⟩
    have b6 : Blk W6 W5.heap.size 31 #[.int .i64 rf.q, .int .i64 rf.h, .int .i64 rf.a, .slice A' ts'.length c', .slice B' us'.length d', .slice C' rf.O.length k'] := by rw [hW_]; exact Blk.new W5 _ _
    have z6 : Below W5.heap.size W5 W6 := by rw [hW_]; exact (Below.refl _ _).alloc (Nat.le_refl _) _
    have HW6 := Lib.hid hW_
    clear hW_
    have z26 : Below W2.heap.size W2 W6 := zr.trans ((z5.trans (z6.mono z5.size)).mono zr.size)
    have d26 : Blk W6 (w.heap.size + 1 + 1) 31 #[.int .i64 0, .int .i64 0, .int .i64 0, .slice none 0 0, .slice none 0 0, .slice none 0 0] := cN.below' z26
    have y6 : Below w.heap.size w W6 := y2.trans (z26.mono y2.size)
    dsimp only at HRN HOKF hR5 ⊢
    have hR6 := hR5.below z6
    have HB6 := HFi.out.below (z5.trans (z6.mono z5.size))
    obtain ⟨A8, c8, ts8, B8, d8, us8, C8, k8, b8, hR8, hl8⟩ := HB6
    clear HS2 hR5
    have hgg : W5.heap.size ≠ W3.heap.size := by have := b8.lt; have := HFi.out; obtain ⟨_, _, _, _, _, _, _, _, bb, _⟩ := this; have := bb.lt; have := z5.size; omega
    clear hR8
    go_upto_region 9 with fail
    rw [← HW6.out]
    by_cases hc : rc = 0
    rotate_left
    · obtain rfl : res = (Fm.zero, rc) := by rw [HN.out, HRN.out, if_neg hc]
      have x0 : W6.cell? ⟨(w.heap.size + 1 + 1), 0, none⟩ = some (.int .i64 0) := d26.cell 0
      have x1 : W6.cell? ⟨(w.heap.size + 1 + 1), 1, none⟩ = some (.int .i64 0) := d26.cell 1
      have x2 : W6.cell? ⟨(w.heap.size + 1 + 1), 2, none⟩ = some (.int .i64 0) := d26.cell 2
      have x3 : W6.cell? ⟨(w.heap.size + 1 + 1), 3, none⟩ = some (.slice none 0 0) := d26.cell 3
      have x4 : W6.cell? ⟨(w.heap.size + 1 + 1), 4, none⟩ = some (.slice none 0 0) := d26.cell 4
      have x5 : W6.cell? ⟨(w.heap.size + 1 + 1), 5, none⟩ = some (.slice none 0 0) := d26.cell 5
      have f0 := d26.frozen 0
      have f1 := d26.frozen 1
      have f2 := d26.frozen 2
      have f3 := d26.frozen 3
      have f4 := d26.frozen 4
      have f5 := d26.frozen 5
      go_wp2_with fail
      clear x0 x1 x2 x3 x4 x5
      have dB : Blk ((((((W6.setCell ⟨(w.heap.size + 1 + 1), 0, none⟩ (.int .i64 0)).setCell ⟨(w.heap.size + 1 + 1), 1, none⟩ (.int .i64 0)).setCell ⟨(w.heap.size + 1 + 1), 2, none⟩ (.int .i64 0)).setCell ⟨(w.heap.size + 1 + 1), 3, none⟩ (.slice none 0 0)).setCell ⟨(w.heap.size + 1 + 1), 4, none⟩ (.slice none 0 0)).setCell ⟨(w.heap.size + 1 + 1), 5, none⟩ (.slice none 0 0)) (w.heap.size + 1 + 1) 31 #[.int .i64 0, .int .i64 0, .int .i64 0, .slice none 0 0, .slice none 0 0, .slice none 0 0] := fm_set d26 (.int .i64 0) (.int .i64 0) (.int .i64 0) (.slice none 0 0) (.slice none 0 0) (.slice none 0 0)
      have yS : ∀ (lo : Nat) (w0 : World), Below lo w0 W6 → lo ≤ (w.heap.size + 1 + 1) → Below lo w0 ((((((W6.setCell ⟨(w.heap.size + 1 + 1), 0, none⟩ (.int .i64 0)).setCell ⟨(w.heap.size + 1 + 1), 1, none⟩ (.int .i64 0)).setCell ⟨(w.heap.size + 1 + 1), 2, none⟩ (.int .i64 0)).setCell ⟨(w.heap.size + 1 + 1), 3, none⟩ (.slice none 0 0)).setCell ⟨(w.heap.size + 1 + 1), 4, none⟩ (.slice none 0 0)).setCell ⟨(w.heap.size + 1 + 1), 5, none⟩ (.slice none 0 0)) := fun lo w0 h hl => fm_below h hl (.int .i64 0) (.int .i64 0) (.int .i64 0) (.slice none 0 0) (.slice none 0 0) (.slice none 0 0)
      have kS : ∀ k, k ≠ (w.heap.size + 1 + 1) → ((((((W6.setCell ⟨(w.heap.size + 1 + 1), 0, none⟩ (.int .i64 0)).setCell ⟨(w.heap.size + 1 + 1), 1, none⟩ (.int .i64 0)).setCell ⟨(w.heap.size + 1 + 1), 2, none⟩ (.int .i64 0)).setCell ⟨(w.heap.size + 1 + 1), 3, none⟩ (.slice none 0 0)).setCell ⟨(w.heap.size + 1 + 1), 4, none⟩ (.slice none 0 0)).setCell ⟨(w.heap.size + 1 + 1), 5, none⟩ (.slice none 0 0)).heap[k]? = W6.heap[k]? := fun k hk => fm_kept (.int .i64 0) (.int .i64 0) (.int .i64 0) (.slice none 0 0) (.slice none 0 0) (.slice none 0 0) k hk
      generalize (((((W6.setCell ⟨(w.heap.size + 1 + 1), 0, none⟩ (.int .i64 0)).setCell ⟨(w.heap.size + 1 + 1), 1, none⟩ (.int .i64 0)).setCell ⟨(w.heap.size + 1 + 1), 2, none⟩ (.int .i64 0)).setCell ⟨(w.heap.size + 1 + 1), 3, none⟩ (.slice none 0 0)).setCell ⟨(w.heap.size + 1 + 1), 4, none⟩ (.slice none 0 0)).setCell ⟨(w.heap.size + 1 + 1), 5, none⟩ (.slice none 0 0) = wf at *
      have x0 : wf.cell? ⟨(w.heap.size + 1 + 1), 0, none⟩ = some (.int .i64 0) := dB.cell 0
      have x1 : wf.cell? ⟨(w.heap.size + 1 + 1), 1, none⟩ = some (.int .i64 0) := dB.cell 1
      have x2 : wf.cell? ⟨(w.heap.size + 1 + 1), 2, none⟩ = some (.int .i64 0) := dB.cell 2
      have x3 : wf.cell? ⟨(w.heap.size + 1 + 1), 3, none⟩ = some (.slice none 0 0) := dB.cell 3
      have x4 : wf.cell? ⟨(w.heap.size + 1 + 1), 4, none⟩ = some (.slice none 0 0) := dB.cell 4
      have x5 : wf.cell? ⟨(w.heap.size + 1 + 1), 5, none⟩ = some (.slice none 0 0) := dB.cell 5
      have hres : NewFmI w (Fm.zero, rc) (.returned (.tuple #[.agg #[.int .i64 0, .int .i64 0, .int .i64 0, .slice none 0 0, .slice none 0 0, .slice none 0 0], .int .i64 rc])) wf := ⟨none, 0, [], none, 0, [], none, 0, rfl, FmR.zero _ _, yS _ _ y6 (by omega)⟩
      exact bodyPost_ret (v := .tuple #[.agg #[.int .i64 0, .int .i64 0, .int .i64 0, .slice none 0 0, .slice none 0 0, .slice none 0 0], .int .i64 rc]) (by simp [results, Try.results22, go_sem, x0, x1, x2, x3, x4, x5]) rfl hres
    · subst hc
      obtain ⟨q', h', a', FW', FR', O'⟩ := rf
      dsimp only at b6 hR6
      have v0 : W6.cell? ⟨W5.heap.size, 0, none⟩ = some (.int .i64 q') := b6.cell 0
      have v1 : W6.cell? ⟨W5.heap.size, 1, none⟩ = some (.int .i64 h') := b6.cell 1
      have v2 : W6.cell? ⟨W5.heap.size, 2, none⟩ = some (.int .i64 a') := b6.cell 2
      have v3 : W6.cell? ⟨W5.heap.size, 3, none⟩ = some (.slice A' ts'.length c') := b6.cell 3
      have v4 : W6.cell? ⟨W5.heap.size, 4, none⟩ = some (.slice B' us'.length d') := b6.cell 4
      have v5 : W6.cell? ⟨W5.heap.size, 5, none⟩ = some (.slice C' O'.length k') := b6.cell 5
      have x0 : W6.cell? ⟨W3.heap.size, 0, none⟩ = some (.int .i64 fi.q) := b8.cell 0
      have x1 : W6.cell? ⟨W3.heap.size, 1, none⟩ = some (.int .i64 fi.h) := b8.cell 1
      have x2 : W6.cell? ⟨W3.heap.size, 2, none⟩ = some (.int .i64 fi.a) := b8.cell 2
      have x3 : W6.cell? ⟨W3.heap.size, 3, none⟩ = some (.slice A8 ts8.length c8) := b8.cell 3
      have x4 : W6.cell? ⟨W3.heap.size, 4, none⟩ = some (.slice B8 us8.length d8) := b8.cell 4
      have x5 : W6.cell? ⟨W3.heap.size, 5, none⟩ = some (.slice C8 fi.O.length k8) := b8.cell 5
      have f0 := b8.frozen 0
      have f1 := b8.frozen 1
      have f2 := b8.frozen 2
      have f3 := b8.frozen 3
      have f4 := b8.frozen 4
      have f5 := b8.frozen 5
      go_wp2_with fail
      clear x0 x1 x2 x3 x4 x5 v0 v1 v2 v3 v4 v5
      have dB : Blk ((((((W6.setCell ⟨W3.heap.size, 0, none⟩ (.int .i64 q')).setCell ⟨W3.heap.size, 1, none⟩ (.int .i64 h')).setCell ⟨W3.heap.size, 2, none⟩ (.int .i64 a')).setCell ⟨W3.heap.size, 3, none⟩ (.slice A' ts'.length c')).setCell ⟨W3.heap.size, 4, none⟩ (.slice B' us'.length d')).setCell ⟨W3.heap.size, 5, none⟩ (.slice C' O'.length k')) W3.heap.size 31 #[.int .i64 q', .int .i64 h', .int .i64 a', .slice A' ts'.length c', .slice B' us'.length d', .slice C' O'.length k'] := fm_set b8 (.int .i64 q') (.int .i64 h') (.int .i64 a') (.slice A' ts'.length c') (.slice B' us'.length d') (.slice C' O'.length k')
      have yS : ∀ (lo : Nat) (w0 : World), Below lo w0 W6 → lo ≤ W3.heap.size → Below lo w0 ((((((W6.setCell ⟨W3.heap.size, 0, none⟩ (.int .i64 q')).setCell ⟨W3.heap.size, 1, none⟩ (.int .i64 h')).setCell ⟨W3.heap.size, 2, none⟩ (.int .i64 a')).setCell ⟨W3.heap.size, 3, none⟩ (.slice A' ts'.length c')).setCell ⟨W3.heap.size, 4, none⟩ (.slice B' us'.length d')).setCell ⟨W3.heap.size, 5, none⟩ (.slice C' O'.length k')) := fun lo w0 h hl => fm_below h hl (.int .i64 q') (.int .i64 h') (.int .i64 a') (.slice A' ts'.length c') (.slice B' us'.length d') (.slice C' O'.length k')
      have kS : ∀ k, k ≠ W3.heap.size → ((((((W6.setCell ⟨W3.heap.size, 0, none⟩ (.int .i64 q')).setCell ⟨W3.heap.size, 1, none⟩ (.int .i64 h')).setCell ⟨W3.heap.size, 2, none⟩ (.int .i64 a')).setCell ⟨W3.heap.size, 3, none⟩ (.slice A' ts'.length c')).setCell ⟨W3.heap.size, 4, none⟩ (.slice B' us'.length d')).setCell ⟨W3.heap.size, 5, none⟩ (.slice C' O'.length k')).heap[k]? = W6.heap[k]? := fun k hk => fm_kept (.int .i64 q') (.int .i64 h') (.int .i64 a') (.slice A' ts'.length c') (.slice B' us'.length d') (.slice C' O'.length k') k hk
      generalize (((((W6.setCell ⟨W3.heap.size, 0, none⟩ (.int .i64 q')).setCell ⟨W3.heap.size, 1, none⟩ (.int .i64 h')).setCell ⟨W3.heap.size, 2, none⟩ (.int .i64 a')).setCell ⟨W3.heap.size, 3, none⟩ (.slice A' ts'.length c')).setCell ⟨W3.heap.size, 4, none⟩ (.slice B' us'.length d')).setCell ⟨W3.heap.size, 5, none⟩ (.slice C' O'.length k') = wf at *
      have hRf := hR6.1.far b8 (by decide) (by decide) kS
      have HS3 : Hid (RunT W2 W3.heap.size sy st rs ⟨q, h, a, nums ts, nums us, os⟩ N (j - 1) wf) := Lib.hid ⟨⟨q', h', a', FW', FR', O'⟩, ⟨A', c', ts', B', d', us', C', k', dB, ⟨hRf.mono zr.size, hR6.2⟩, hg3⟩, HOKF.out rfl, by rw [HRN.out, if_pos rfl], yS _ _ z26 hg3⟩
      go_wp2_with fail
      exact ⟨⟨j - 1, by omega, by go_num, HS3⟩, by simp [intOf]; omega⟩
end Go.Proofs.Ytbpofkggoolmpaa
