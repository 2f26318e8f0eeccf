/-
  Contract of impl.RunFormula.
-/
import Derived.Test.YtbpofkggoolmpaaPbFmAll0
import Derived.Test.YtbpofkggoolmpaaPbFmAll1
import Derived.Test.YtbpofkggoolmpaaPbFmAll5
import Derived.Test.YtbpofkggoolmpaaPbFmAll6
import Derived.Test.YtbpofkggoolmpaaPbFmAll7
import Derived.Test.YtbpofkggoolmpaaPbFmAll17
import Derived.BigGuardPart
import Derived.ProofKit
import Derived.OpenShut
import Derived.ChangeOld
import Derived.Deep.Slices
import Derived.Lib.SmallJoins
namespace Go.Proofs.Ytbpofkggoolmpaa
open Go.RowKit

/-- A run that stands ahead of its step with number i. -/
def RunS (w1 : World) (g : Nat) (sy st : Int) (rs : List R3) (f : Fm) (N i : Nat) (wr : World) : Prop :=
  ∃ fi : Fm, FmBox wr w1.heap.size g fi ∧ fmB sy st fi = true ∧ runFm sy st rs N f = runFm sy st rs (N - i) fi ∧ Below w1.heap.size w1 wr
theorem runFm_step {sy st : Int} {rs : List R3} {f fi : Fm} {N i : Nat} (hi : i < N) (h : runFm sy st rs N f = runFm sy st rs (N - i) fi) : runFm sy st rs N f = if (nextFm sy st rs fi).2.2 = 0 then runFm sy st rs (N - (i + 1)) (nextFm sy st rs fi).1 else (Fm.zero, (nextFm sy st rs fi).2.2) := by
  rw [h, show N - i = (N - (i + 1)) + 1 by omega]; rfl

set_option maxRecDepth 100000 in
set_option maxHeartbeats 4000000 in
theorem runFormulaI_any (sy st : Int) (A0 : Option Addr) (n0 k0 : Nat) (rs : List R3) (q h a : Int) (A : Option Addr) (n c : Nat) (ts : List Sl) (B : Option Addr) (m d : Nat) (us : List Sl) (C : Option Addr) (l e : Nat) (os : List Int) (b : Int) (w : World) (hr : S3 w A0 n0 rs) (hx : SII w A n ts) (hy : SII w B m us) (hz : SI w C l os)
    (hn0 : n0 ≤ 1048576) (hn : n ≤ 1048576) (hm : m ≤ 1048576) (hl : l ≤ 1048576) (hns : ∀ t ∈ ts, t.xs.length ≤ 1048576) (hms : ∀ t ∈ us, t.xs.length ≤ 1048576) :
    Calls Try.prog 23 #[.agg #[.int .i64 sy, .int .i64 st, .slice A0 n0 k0], .agg #[.int .i64 q, .int .i64 h, .int .i64 a, .slice A n c, .slice B m d, .slice C l e], .int .i64 b] w (NewFmI w (runFormF sy st rs ⟨q, h, a, nums ts, nums us, os⟩ b)) := by
  obtain ⟨res, hres⟩ : ∃ res, res = runFormF sy st rs ⟨q, h, a, nums ts, nums us, os⟩ b := ⟨_, rfl⟩
  rw [← hres]
  have HRES := Lib.hid hres
  clear hres
  obtain ⟨W, hW_⟩ : ∃ W, W = ((w.alloc (.cells #[.int .i64 sy, .int .i64 st, .slice A0 n0 k0] 36)).alloc (.cells #[.int .i64 q, .int .i64 h, .int .i64 a, .slice A n c, .slice B m d, .slice C l e] 31)).alloc (.cells #[.int .i64 0, .int .i64 0, .int .i64 0, .slice none 0 0, .slice none 0 0, .slice none 0 0] 31) := ⟨_, rfl⟩
  have s_1 : (w.alloc (.cells #[.int .i64 sy, .int .i64 st, .slice A0 n0 k0] 36)).heap.size = w.heap.size + 1 := by simp
  have s_2 : ((w.alloc (.cells #[.int .i64 sy, .int .i64 st, .slice A0 n0 k0] 36)).alloc (.cells #[.int .i64 q, .int .i64 h, .int .i64 a, .slice A n c, .slice B m d, .slice C l e] 31)).heap.size = w.heap.size + 1 + 1 := by simp
  have b0 : Blk W w.heap.size 36 #[.int .i64 sy, .int .i64 st, .slice A0 n0 k0] := by rw [hW_]; exact ((Blk.new w _ _).alloc _).alloc _
  have b1 : Blk W (w.heap.size + 1) 31 #[.int .i64 q, .int .i64 h, .int .i64 a, .slice A n c, .slice B m d, .slice C l e] := by rw [hW_, ← s_1]; exact (Blk.new _ _ _).alloc _
  have b2 : Blk W (w.heap.size + 1 + 1) 31 #[.int .i64 0, .int .i64 0, .int .i64 0, .slice none 0 0, .slice none 0 0, .slice none 0 0] := by rw [hW_, ← s_2]; exact Blk.new _ _ _
  have y0 : Below w.heap.size w W := by rw [hW_]; exact (((Below.refl _ _).alloc (Nat.le_refl _) _).alloc (by simp) _).alloc (by simp; omega) _
  have HW := Lib.hid hW_
  clear hW_ s_1 s_2
  have u0 : W.cell? ⟨w.heap.size, 0, none⟩ = some (.int .i64 sy) := b0.cell 0
  have u1 : W.cell? ⟨w.heap.size, 1, none⟩ = some (.int .i64 st) := b0.cell 1
  have u2 : W.cell? ⟨w.heap.size, 2, none⟩ = some (.slice A0 n0 k0) := b0.cell 2
  have v0 : W.cell? ⟨(w.heap.size + 1), 0, none⟩ = some (.int .i64 q) := b1.cell 0
  have v1 : W.cell? ⟨(w.heap.size + 1), 1, none⟩ = some (.int .i64 h) := b1.cell 1
  have v2 : W.cell? ⟨(w.heap.size + 1), 2, none⟩ = some (.int .i64 a) := b1.cell 2
  have v3 : W.cell? ⟨(w.heap.size + 1), 3, none⟩ = some (.slice A n c) := b1.cell 3
  have v4 : W.cell? ⟨(w.heap.size + 1), 4, none⟩ = some (.slice B m d) := b1.cell 4
  have v5 : W.cell? ⟨(w.heap.size + 1), 5, none⟩ = some (.slice C l e) := b1.cell 5
  have HR := Lib.hid (hr.below y0)
  have HX := Lib.hid (hx.below y0)
  have HY := Lib.hid (hy.below y0)
  have HZ := Lib.hid (hz.below y0)
  have HNS := Lib.hid hns
  have HMS := Lib.hid hms
  have hWsz : w.heap.size + 1 + 1 < W.heap.size := b2.lt
  clear hr hx hy hz hns hms
  go_enter Try.func23, Try.ntmps23
  go_upto_region 1 with fail
  rw [← HW.out]
  go_wp2_with fail
  refine (validFormula_any _ _ _ _ _ rs _ _ _ _ _ _ ts _ _ _ us _ _ _ os _ HR.out HX.out HY.out HZ.out hn0 hn hm hl HNS.out HMS.out).mono ?_
  rintro en W1 ⟨rfl, z1⟩
  have y1 := y0.trans (z1.mono y0.size)
  have c0 := b0.below' z1
  have c1 := b1.below' z1
  have c2 := b2.below' z1
  have hs1 := z1.size
  clear u0 u1 u2 v0 v1 v2 v3 v4 v5
  cases hv : (machB sy st rs && fmB sy st ⟨q, h, a, nums ts, nums us, os⟩)
  · obtain rfl : res = (Fm.zero, 1) := by rw [HRES.out]; unfold runFormF; rw [hv]; rfl
    clear hv
    have x0 : W1.cell? ⟨(w.heap.size + 1 + 1), 0, none⟩ = some (.int .i64 0) := c2.cell 0
    have x1 : W1.cell? ⟨(w.heap.size + 1 + 1), 1, none⟩ = some (.int .i64 0) := c2.cell 1
    have x2 : W1.cell? ⟨(w.heap.size + 1 + 1), 2, none⟩ = some (.int .i64 0) := c2.cell 2
    have x3 : W1.cell? ⟨(w.heap.size + 1 + 1), 3, none⟩ = some (.slice none 0 0) := c2.cell 3
    have x4 : W1.cell? ⟨(w.heap.size + 1 + 1), 4, none⟩ = some (.slice none 0 0) := c2.cell 4
    have x5 : W1.cell? ⟨(w.heap.size + 1 + 1), 5, none⟩ = some (.slice none 0 0) := c2.cell 5
    have f0 := c2.frozen 0
    have f1 := c2.frozen 1
    have f2 := c2.frozen 2
    have f3 := c2.frozen 3
    have f4 := c2.frozen 4
    have f5 := c2.frozen 5
    go_wp2_with fail
    clear x0 x1 x2 x3 x4 x5
    have dB : Blk ((((((W1.setCell ⟨(w.heap.size + 1 + 1), 0, none⟩ (.int .i64 0)).setCell ⟨(w.heap.size + 1 + 1), 1, none⟩ (.int .i64 0)).setCell ⟨(w.heap.size + 1 + 1), 2, none⟩ (.int .i64 0)).setCell ⟨(w.heap.size + 1 + 1), 3, none⟩ (.slice none 0 0)).setCell ⟨(w.heap.size + 1 + 1), 4, none⟩ (.slice none 0 0)).setCell ⟨(w.heap.size + 1 + 1), 5, none⟩ (.slice none 0 0)) (w.heap.size + 1 + 1) 31 #[.int .i64 0, .int .i64 0, .int .i64 0, .slice none 0 0, .slice none 0 0, .slice none 0 0] := fm_set c2 (.int .i64 0) (.int .i64 0) (.int .i64 0) (.slice none 0 0) (.slice none 0 0) (.slice none 0 0)
    have yS : ∀ (lo : Nat) (w0 : World), Below lo w0 W1 → lo ≤ (w.heap.size + 1 + 1) → Below lo w0 ((((((W1.setCell ⟨(w.heap.size + 1 + 1), 0, none⟩ (.int .i64 0)).setCell ⟨(w.heap.size + 1 + 1), 1, none⟩ (.int .i64 0)).setCell ⟨(w.heap.size + 1 + 1), 2, none⟩ (.int .i64 0)).setCell ⟨(w.heap.size + 1 + 1), 3, none⟩ (.slice none 0 0)).setCell ⟨(w.heap.size + 1 + 1), 4, none⟩ (.slice none 0 0)).setCell ⟨(w.heap.size + 1 + 1), 5, none⟩ (.slice none 0 0)) := fun lo w0 h hl => fm_below h hl (.int .i64 0) (.int .i64 0) (.int .i64 0) (.slice none 0 0) (.slice none 0 0) (.slice none 0 0)
    have kS : ∀ k, k ≠ (w.heap.size + 1 + 1) → ((((((W1.setCell ⟨(w.heap.size + 1 + 1), 0, none⟩ (.int .i64 0)).setCell ⟨(w.heap.size + 1 + 1), 1, none⟩ (.int .i64 0)).setCell ⟨(w.heap.size + 1 + 1), 2, none⟩ (.int .i64 0)).setCell ⟨(w.heap.size + 1 + 1), 3, none⟩ (.slice none 0 0)).setCell ⟨(w.heap.size + 1 + 1), 4, none⟩ (.slice none 0 0)).setCell ⟨(w.heap.size + 1 + 1), 5, none⟩ (.slice none 0 0)).heap[k]? = W1.heap[k]? := fun k hk => fm_kept (.int .i64 0) (.int .i64 0) (.int .i64 0) (.slice none 0 0) (.slice none 0 0) (.slice none 0 0) k hk
    generalize (((((W1.setCell ⟨(w.heap.size + 1 + 1), 0, none⟩ (.int .i64 0)).setCell ⟨(w.heap.size + 1 + 1), 1, none⟩ (.int .i64 0)).setCell ⟨(w.heap.size + 1 + 1), 2, none⟩ (.int .i64 0)).setCell ⟨(w.heap.size + 1 + 1), 3, none⟩ (.slice none 0 0)).setCell ⟨(w.heap.size + 1 + 1), 4, none⟩ (.slice none 0 0)).setCell ⟨(w.heap.size + 1 + 1), 5, none⟩ (.slice none 0 0) = wf at *
    have x0 : wf.cell? ⟨(w.heap.size + 1 + 1), 0, none⟩ = some (.int .i64 0) := dB.cell 0
    have x1 : wf.cell? ⟨(w.heap.size + 1 + 1), 1, none⟩ = some (.int .i64 0) := dB.cell 1
    have x2 : wf.cell? ⟨(w.heap.size + 1 + 1), 2, none⟩ = some (.int .i64 0) := dB.cell 2
    have x3 : wf.cell? ⟨(w.heap.size + 1 + 1), 3, none⟩ = some (.slice none 0 0) := dB.cell 3
    have x4 : wf.cell? ⟨(w.heap.size + 1 + 1), 4, none⟩ = some (.slice none 0 0) := dB.cell 4
    have x5 : wf.cell? ⟨(w.heap.size + 1 + 1), 5, none⟩ = some (.slice none 0 0) := dB.cell 5
    have hres : NewFmI w (Fm.zero, 1) (.returned (.tuple #[.agg #[.int .i64 0, .int .i64 0, .int .i64 0, .slice none 0 0, .slice none 0 0, .slice none 0 0], .int .i64 1])) wf := ⟨none, 0, [], none, 0, [], none, 0, rfl, FmR.zero _ _, yS _ _ y1 (by omega)⟩
    exact bodyPost_ret (v := .tuple #[.agg #[.int .i64 0, .int .i64 0, .int .i64 0, .slice none 0 0, .slice none 0 0, .slice none 0 0], .int .i64 1]) (by simp [results, Try.results23, go_sem, x0, x1, x2, x3, x4, x5]) rfl hres
  cases a1 : inB b 0 400
  · obtain rfl : res = (Fm.zero, 2) := by rw [HRES.out]; unfold runFormF; rw [hv, a1]; rfl
    have A1 := Lib.hid a1
    clear hv a1
    have x0 : W1.cell? ⟨(w.heap.size + 1 + 1), 0, none⟩ = some (.int .i64 0) := c2.cell 0
    have x1 : W1.cell? ⟨(w.heap.size + 1 + 1), 1, none⟩ = some (.int .i64 0) := c2.cell 1
    have x2 : W1.cell? ⟨(w.heap.size + 1 + 1), 2, none⟩ = some (.int .i64 0) := c2.cell 2
    have x3 : W1.cell? ⟨(w.heap.size + 1 + 1), 3, none⟩ = some (.slice none 0 0) := c2.cell 3
    have x4 : W1.cell? ⟨(w.heap.size + 1 + 1), 4, none⟩ = some (.slice none 0 0) := c2.cell 4
    have x5 : W1.cell? ⟨(w.heap.size + 1 + 1), 5, none⟩ = some (.slice none 0 0) := c2.cell 5
    have f0 := c2.frozen 0
    have f1 := c2.frozen 1
    have f2 := c2.frozen 2
    have f3 := c2.frozen 3
    have f4 := c2.frozen 4
    have f5 := c2.frozen 5
    go_wp2_with (go_at_call 104; refine (within_is A1.out _).mono ?_; rintro e w' ⟨rfl, rfl⟩)
    clear x0 x1 x2 x3 x4 x5
    have dB : Blk ((((((W1.setCell ⟨(w.heap.size + 1 + 1), 0, none⟩ (.int .i64 0)).setCell ⟨(w.heap.size + 1 + 1), 1, none⟩ (.int .i64 0)).setCell ⟨(w.heap.size + 1 + 1), 2, none⟩ (.int .i64 0)).setCell ⟨(w.heap.size + 1 + 1), 3, none⟩ (.slice none 0 0)).setCell ⟨(w.heap.size + 1 + 1), 4, none⟩ (.slice none 0 0)).setCell ⟨(w.heap.size + 1 + 1), 5, none⟩ (.slice none 0 0)) (w.heap.size + 1 + 1) 31 #[.int .i64 0, .int .i64 0, .int .i64 0, .slice none 0 0, .slice none 0 0, .slice none 0 0] := fm_set c2 (.int .i64 0) (.int .i64 0) (.int .i64 0) (.slice none 0 0) (.slice none 0 0) (.slice none 0 0)
    have yS : ∀ (lo : Nat) (w0 : World), Below lo w0 W1 → lo ≤ (w.heap.size + 1 + 1) → Below lo w0 ((((((W1.setCell ⟨(w.heap.size + 1 + 1), 0, none⟩ (.int .i64 0)).setCell ⟨(w.heap.size + 1 + 1), 1, none⟩ (.int .i64 0)).setCell ⟨(w.heap.size + 1 + 1), 2, none⟩ (.int .i64 0)).setCell ⟨(w.heap.size + 1 + 1), 3, none⟩ (.slice none 0 0)).setCell ⟨(w.heap.size + 1 + 1), 4, none⟩ (.slice none 0 0)).setCell ⟨(w.heap.size + 1 + 1), 5, none⟩ (.slice none 0 0)) := fun lo w0 h hl => fm_below h hl (.int .i64 0) (.int .i64 0) (.int .i64 0) (.slice none 0 0) (.slice none 0 0) (.slice none 0 0)
    have kS : ∀ k, k ≠ (w.heap.size + 1 + 1) → ((((((W1.setCell ⟨(w.heap.size + 1 + 1), 0, none⟩ (.int .i64 0)).setCell ⟨(w.heap.size + 1 + 1), 1, none⟩ (.int .i64 0)).setCell ⟨(w.heap.size + 1 + 1), 2, none⟩ (.int .i64 0)).setCell ⟨(w.heap.size + 1 + 1), 3, none⟩ (.slice none 0 0)).setCell ⟨(w.heap.size + 1 + 1), 4, none⟩ (.slice none 0 0)).setCell ⟨(w.heap.size + 1 + 1), 5, none⟩ (.slice none 0 0)).heap[k]? = W1.heap[k]? := fun k hk => fm_kept (.int .i64 0) (.int .i64 0) (.int .i64 0) (.slice none 0 0) (.slice none 0 0) (.slice none 0 0) k hk
    generalize (((((W1.setCell ⟨(w.heap.size + 1 + 1), 0, none⟩ (.int .i64 0)).setCell ⟨(w.heap.size + 1 + 1), 1, none⟩ (.int .i64 0)).setCell ⟨(w.heap.size + 1 + 1), 2, none⟩ (.int .i64 0)).setCell ⟨(w.heap.size + 1 + 1), 3, none⟩ (.slice none 0 0)).setCell ⟨(w.heap.size + 1 + 1), 4, none⟩ (.slice none 0 0)).setCell ⟨(w.heap.size + 1 + 1), 5, none⟩ (.slice none 0 0) = wf at *
    have x0 : wf.cell? ⟨(w.heap.size + 1 + 1), 0, none⟩ = some (.int .i64 0) := dB.cell 0
    have x1 : wf.cell? ⟨(w.heap.size + 1 + 1), 1, none⟩ = some (.int .i64 0) := dB.cell 1
    have x2 : wf.cell? ⟨(w.heap.size + 1 + 1), 2, none⟩ = some (.int .i64 0) := dB.cell 2
    have x3 : wf.cell? ⟨(w.heap.size + 1 + 1), 3, none⟩ = some (.slice none 0 0) := dB.cell 3
    have x4 : wf.cell? ⟨(w.heap.size + 1 + 1), 4, none⟩ = some (.slice none 0 0) := dB.cell 4
    have x5 : wf.cell? ⟨(w.heap.size + 1 + 1), 5, none⟩ = some (.slice none 0 0) := dB.cell 5
    have hres : NewFmI w (Fm.zero, 2) (.returned (.tuple #[.agg #[.int .i64 0, .int .i64 0, .int .i64 0, .slice none 0 0, .slice none 0 0, .slice none 0 0], .int .i64 2])) wf := ⟨none, 0, [], none, 0, [], none, 0, rfl, FmR.zero _ _, yS _ _ y1 (by omega)⟩
    exact bodyPost_ret (v := .tuple #[.agg #[.int .i64 0, .int .i64 0, .int .i64 0, .slice none 0 0, .slice none 0 0, .slice none 0 0], .int .i64 2]) (by simp [results, Try.results23, go_sem, x0, x1, x2, x3, x4, x5]) rfl hres
  have A1 := Lib.hid a1
  have hb01 := (inB_iff _ _ _).1 a1
  obtain ⟨N, rfl⟩ : ∃ N : Nat, b = (N : Int) := ⟨b.toNat, by omega⟩
  have HN : Hid (res = runFm sy st rs N ⟨q, h, a, nums ts, nums us, os⟩) := Lib.hid (by rw [HRES.out]; unfold runFormF; rw [hv, a1, Int.toNat_natCast]; rfl)
  have hv2 := hv
  rw [Bool.and_eq_true] at hv
  obtain ⟨hmb, hfb⟩ := hv
  have HCP := Lib.hid (copyFormula_any q h a A n c ts B m d us C l e os W1 (HX.out.below z1) (HY.out.below z1) (HZ.out.below z1) hn hm hl HNS.out HMS.out)
  have HST := Lib.hid (fun (g : Nat) (fi : Fm) (W2 : World) (z : Below W1.heap.size W1 W2) (hF : FmBox W2 W1.heap.size g fi) (hfi : fmB sy st fi = true) => fmStep_any sy st A0 n0 k0 rs g W1.heap.size fi W2 ((HR.out.below z1).below z) hmb hF hfi)
  have HFB := Lib.hid hfb
  have HV2 := Lib.hid hv2
  clear hmb hfb HRES a1 hv2
  have hN4 : N ≤ 400 := by omega
  have v0 : W1.cell? ⟨(w.heap.size + 1), 0, none⟩ = some (.int .i64 q) := c1.cell 0
  have v1 : W1.cell? ⟨(w.heap.size + 1), 1, none⟩ = some (.int .i64 h) := c1.cell 1
  have v2 : W1.cell? ⟨(w.heap.size + 1), 2, none⟩ = some (.int .i64 a) := c1.cell 2
  have v3 : W1.cell? ⟨(w.heap.size + 1), 3, none⟩ = some (.slice A n c) := c1.cell 3
  have v4 : W1.cell? ⟨(w.heap.size + 1), 4, none⟩ = some (.slice B m d) := c1.cell 4
  have v5 : W1.cell? ⟨(w.heap.size + 1), 5, none⟩ = some (.slice C l e) := c1.cell 5
  go_wp2_with (go_at_call 104; refine (within_is A1.out _).mono ?_; rintro e w' ⟨rfl, rfl⟩)
  refine HCP.out.mono ?_
  rintro en W2 ⟨g, rfl, hF2, z2⟩
  have HS0 : Hid (RunS W1 g sy st rs ⟨q, h, a, nums ts, nums us, os⟩ N 0 W2) := Lib.hid ⟨_, hF2, HFB.out, rfl, z2⟩
  clear v0 v1 v2 v3 v4 v5 HCP hF2
  go_wp2_with fail
  go_loopw [24] (fun s24 wr => ∃ i : Nat, i ≤ N ∧ s24 = .int .i64 (i : Int) ∧ Hid (RunS W1 g sy st rs ⟨q, h, a, nums ts, nums us, os⟩ N i wr)) (fun s24 _ => N - (intOf s24).toNat)
  case atStart => exact ⟨0, Nat.zero_le _, rfl, HS0⟩
  case round =>
    obtain ⟨i, hi, rfl, HS⟩ := hrel
    obtain ⟨fi, hFi, hfi, hrun, zr⟩ := HS.out
    have HRUN := Lib.hid hrun
    have HFI := Lib.hid hfi
    have i1 : (0 : Int) ≤ (i : Int) := by omega
    have d0 : Blk wr w.heap.size 36 #[.int .i64 sy, .int .i64 st, .slice A0 n0 k0] := c0.below zr (by omega)
    have d2 : Blk wr (w.heap.size + 1 + 1) 31 #[.int .i64 0, .int .i64 0, .int .i64 0, .slice none 0 0, .slice none 0 0, .slice none 0 0] := c2.below zr (by omega)
    have y3 : Below w.heap.size w wr := y1.trans (zr.mono y1.size)
    clear hrun hfi HS HS0 z2
    by_cases hlt : i < N
    rotate_left
    · have hiN : i = N := by omega
      subst hiN
      have HNF : Hid (res = (fi, 0)) := Lib.hid (by rw [HN.out, HRUN.out, Nat.sub_self]; rfl)
      obtain rfl := HNF.out
      obtain ⟨A', c', ts', B', d', us', C', k', hb', hR', hl'⟩ := hFi
      clear HNF HN HRUN HFI HST
      obtain ⟨q', h', a', FW', FR', os'⟩ := fi
      dsimp only at hb' hR' ⊢
      have i2 : ¬ (i : Int) < (i : Int) := by omega
      have v0 : wr.cell? ⟨g, 0, none⟩ = some (.int .i64 q') := hb'.cell 0
      have v1 : wr.cell? ⟨g, 1, none⟩ = some (.int .i64 h') := hb'.cell 1
      have v2 : wr.cell? ⟨g, 2, none⟩ = some (.int .i64 a') := hb'.cell 2
      have v3 : wr.cell? ⟨g, 3, none⟩ = some (.slice A' ts'.length c') := hb'.cell 3
      have v4 : wr.cell? ⟨g, 4, none⟩ = some (.slice B' us'.length d') := hb'.cell 4
      have v5 : wr.cell? ⟨g, 5, none⟩ = some (.slice C' os'.length k') := hb'.cell 5
      have x0 : wr.cell? ⟨(w.heap.size + 1 + 1), 0, none⟩ = some (.int .i64 0) := d2.cell 0
      have x1 : wr.cell? ⟨(w.heap.size + 1 + 1), 1, none⟩ = some (.int .i64 0) := d2.cell 1
      have x2 : wr.cell? ⟨(w.heap.size + 1 + 1), 2, none⟩ = some (.int .i64 0) := d2.cell 2
      have x3 : wr.cell? ⟨(w.heap.size + 1 + 1), 3, none⟩ = some (.slice none 0 0) := d2.cell 3
      have x4 : wr.cell? ⟨(w.heap.size + 1 + 1), 4, none⟩ = some (.slice none 0 0) := d2.cell 4
      have x5 : wr.cell? ⟨(w.heap.size + 1 + 1), 5, none⟩ = some (.slice none 0 0) := d2.cell 5
      have f0 := d2.frozen 0
      have f1 := d2.frozen 1
      have f2 := d2.frozen 2
      have f3 := d2.frozen 3
      have f4 := d2.frozen 4
      have f5 := d2.frozen 5
      have hgn : g ≠ w.heap.size + 1 + 1 := by omega
      go_wp2_with fail
      clear x0 x1 x2 x3 x4 x5 v0 v1 v2 v3 v4 v5
      have dB : Blk ((((((wr.setCell ⟨(w.heap.size + 1 + 1), 0, none⟩ (.int .i64 q')).setCell ⟨(w.heap.size + 1 + 1), 1, none⟩ (.int .i64 h')).setCell ⟨(w.heap.size + 1 + 1), 2, none⟩ (.int .i64 a')).setCell ⟨(w.heap.size + 1 + 1), 3, none⟩ (.slice A' ts'.length c')).setCell ⟨(w.heap.size + 1 + 1), 4, none⟩ (.slice B' us'.length d')).setCell ⟨(w.heap.size + 1 + 1), 5, none⟩ (.slice C' os'.length k')) (w.heap.size + 1 + 1) 31 #[.int .i64 q', .int .i64 h', .int .i64 a', .slice A' ts'.length c', .slice B' us'.length d', .slice C' os'.length k'] := fm_set d2 (.int .i64 q') (.int .i64 h') (.int .i64 a') (.slice A' ts'.length c') (.slice B' us'.length d') (.slice C' os'.length k')
      have yS : ∀ (lo : Nat) (w0 : World), Below lo w0 wr → lo ≤ (w.heap.size + 1 + 1) → Below lo w0 ((((((wr.setCell ⟨(w.heap.size + 1 + 1), 0, none⟩ (.int .i64 q')).setCell ⟨(w.heap.size + 1 + 1), 1, none⟩ (.int .i64 h')).setCell ⟨(w.heap.size + 1 + 1), 2, none⟩ (.int .i64 a')).setCell ⟨(w.heap.size + 1 + 1), 3, none⟩ (.slice A' ts'.length c')).setCell ⟨(w.heap.size + 1 + 1), 4, none⟩ (.slice B' us'.length d')).setCell ⟨(w.heap.size + 1 + 1), 5, none⟩ (.slice C' os'.length k')) := fun lo w0 h hl => fm_below h hl (.int .i64 q') (.int .i64 h') (.int .i64 a') (.slice A' ts'.length c') (.slice B' us'.length d') (.slice C' os'.length k')
      have kS : ∀ k, k ≠ (w.heap.size + 1 + 1) → ((((((wr.setCell ⟨(w.heap.size + 1 + 1), 0, none⟩ (.int .i64 q')).setCell ⟨(w.heap.size + 1 + 1), 1, none⟩ (.int .i64 h')).setCell ⟨(w.heap.size + 1 + 1), 2, none⟩ (.int .i64 a')).setCell ⟨(w.heap.size + 1 + 1), 3, none⟩ (.slice A' ts'.length c')).setCell ⟨(w.heap.size + 1 + 1), 4, none⟩ (.slice B' us'.length d')).setCell ⟨(w.heap.size + 1 + 1), 5, none⟩ (.slice C' os'.length k')).heap[k]? = wr.heap[k]? := fun k hk => fm_kept (.int .i64 q') (.int .i64 h') (.int .i64 a') (.slice A' ts'.length c') (.slice B' us'.length d') (.slice C' os'.length k') k hk
      generalize (((((wr.setCell ⟨(w.heap.size + 1 + 1), 0, none⟩ (.int .i64 q')).setCell ⟨(w.heap.size + 1 + 1), 1, none⟩ (.int .i64 h')).setCell ⟨(w.heap.size + 1 + 1), 2, none⟩ (.int .i64 a')).setCell ⟨(w.heap.size + 1 + 1), 3, none⟩ (.slice A' ts'.length c')).setCell ⟨(w.heap.size + 1 + 1), 4, none⟩ (.slice B' us'.length d')).setCell ⟨(w.heap.size + 1 + 1), 5, none⟩ (.slice C' os'.length k') = wf at *
      have x0 : wf.cell? ⟨(w.heap.size + 1 + 1), 0, none⟩ = some (.int .i64 q') := dB.cell 0
      have x1 : wf.cell? ⟨(w.heap.size + 1 + 1), 1, none⟩ = some (.int .i64 h') := dB.cell 1
      have x2 : wf.cell? ⟨(w.heap.size + 1 + 1), 2, none⟩ = some (.int .i64 a') := dB.cell 2
      have x3 : wf.cell? ⟨(w.heap.size + 1 + 1), 3, none⟩ = some (.slice A' ts'.length c') := dB.cell 3
      have x4 : wf.cell? ⟨(w.heap.size + 1 + 1), 4, none⟩ = some (.slice B' us'.length d') := dB.cell 4
      have x5 : wf.cell? ⟨(w.heap.size + 1 + 1), 5, none⟩ = some (.slice C' os'.length k') := dB.cell 5
      have hRf : FmR wf w.heap.size ⟨q', h', a', FW', FR', os'⟩ A' c' ts' B' d' us' C' k' := ⟨(hR'.1.far d2 (by decide) (by decide) kS).mono y1.size, hR'.2⟩
      have hres : NewFmI w (⟨q', h', a', FW', FR', os'⟩, 0) (.returned (.tuple #[.agg #[.int .i64 q', .int .i64 h', .int .i64 a', .slice A' ts'.length c', .slice B' us'.length d', .slice C' os'.length k'], .int .i64 0])) wf := ⟨A', c', ts', B', d', us', C', k', rfl, hRf, yS _ _ y3 (by omega)⟩
      exact bodyPost_ret (v := .tuple #[.agg #[.int .i64 q', .int .i64 h', .int .i64 a', .slice A' ts'.length c', .slice B' us'.length d', .slice C' os'.length k'], .int .i64 0]) (by simp [results, Try.results23, go_sem, x0, x1, x2, x3, x4, x5]) rfl hres
    have i2 : (i : Int) < (N : Int) := by omega
    have HS2 := Lib.hid (HST.out g fi wr zr hFi HFI.out)
    have HRN := Lib.hid (runFm_step hlt HRUN.out)
    have HOKF : Hid ((nextFm sy st rs fi).2.2 = 0 → fmB sy st (nextFm sy st rs fi).1 = true) := Lib.hid nextFm_ok
    generalize nextFm sy st rs fi = nx at *
    obtain ⟨rf, rk, rc⟩ := nx
    have u0 : wr.cell? ⟨w.heap.size, 0, none⟩ = some (.int .i64 sy) := d0.cell 0
    have u1 : wr.cell? ⟨w.heap.size, 1, none⟩ = some (.int .i64 st) := d0.cell 1
    have u2 : wr.cell? ⟨w.heap.size, 2, none⟩ = some (.slice A0 n0 k0) := d0.cell 2
    go_wp2_with fail
    refine HS2.out.mono ?_
    rintro en W3 ⟨kd, ii, rfl, hok, z3, fr3⟩
    have z13 : Below W1.heap.size W1 W3 := zr.trans z3
    have d23 : Blk W3 (w.heap.size + 1 + 1) 31 #[.int .i64 0, .int .i64 0, .int .i64 0, .slice none 0 0, .slice none 0 0, .slice none 0 0] := c2.below z13 (by omega)
    have y33 : Below w.heap.size w W3 := y1.trans (z13.mono y1.size)
    have HOK := Lib.hid hok
    clear hok u0 u1 u2 HS2 z3 fr3 d0 d2 y3
    dsimp only at HOK HRN HOKF ⊢
    by_cases hc : rc = 0
    rotate_left
    · obtain rfl : res = (Fm.zero, rc) := by rw [HN.out, HRN.out, if_neg hc]
      have x0 : W3.cell? ⟨(w.heap.size + 1 + 1), 0, none⟩ = some (.int .i64 0) := d23.cell 0
      have x1 : W3.cell? ⟨(w.heap.size + 1 + 1), 1, none⟩ = some (.int .i64 0) := d23.cell 1
      have x2 : W3.cell? ⟨(w.heap.size + 1 + 1), 2, none⟩ = some (.int .i64 0) := d23.cell 2
      have x3 : W3.cell? ⟨(w.heap.size + 1 + 1), 3, none⟩ = some (.slice none 0 0) := d23.cell 3
      have x4 : W3.cell? ⟨(w.heap.size + 1 + 1), 4, none⟩ = some (.slice none 0 0) := d23.cell 4
      have x5 : W3.cell? ⟨(w.heap.size + 1 + 1), 5, none⟩ = some (.slice none 0 0) := d23.cell 5
      have f0 := d23.frozen 0
      have f1 := d23.frozen 1
      have f2 := d23.frozen 2
      have f3 := d23.frozen 3
      have f4 := d23.frozen 4
      have f5 := d23.frozen 5
      go_wp2_with fail
      clear x0 x1 x2 x3 x4 x5
      have dB : Blk ((((((W3.setCell ⟨(w.heap.size + 1 + 1), 0, none⟩ (.int .i64 0)).setCell ⟨(w.heap.size + 1 + 1), 1, none⟩ (.int .i64 0)).setCell ⟨(w.heap.size + 1 + 1), 2, none⟩ (.int .i64 0)).setCell ⟨(w.heap.size + 1 + 1), 3, none⟩ (.slice none 0 0)).setCell ⟨(w.heap.size + 1 + 1), 4, none⟩ (.slice none 0 0)).setCell ⟨(w.heap.size + 1 + 1), 5, none⟩ (.slice none 0 0)) (w.heap.size + 1 + 1) 31 #[.int .i64 0, .int .i64 0, .int .i64 0, .slice none 0 0, .slice none 0 0, .slice none 0 0] := fm_set d23 (.int .i64 0) (.int .i64 0) (.int .i64 0) (.slice none 0 0) (.slice none 0 0) (.slice none 0 0)
      have yS : ∀ (lo : Nat) (w0 : World), Below lo w0 W3 → lo ≤ (w.heap.size + 1 + 1) → Below lo w0 ((((((W3.setCell ⟨(w.heap.size + 1 + 1), 0, none⟩ (.int .i64 0)).setCell ⟨(w.heap.size + 1 + 1), 1, none⟩ (.int .i64 0)).setCell ⟨(w.heap.size + 1 + 1), 2, none⟩ (.int .i64 0)).setCell ⟨(w.heap.size + 1 + 1), 3, none⟩ (.slice none 0 0)).setCell ⟨(w.heap.size + 1 + 1), 4, none⟩ (.slice none 0 0)).setCell ⟨(w.heap.size + 1 + 1), 5, none⟩ (.slice none 0 0)) := fun lo w0 h hl => fm_below h hl (.int .i64 0) (.int .i64 0) (.int .i64 0) (.slice none 0 0) (.slice none 0 0) (.slice none 0 0)
      have kS : ∀ k, k ≠ (w.heap.size + 1 + 1) → ((((((W3.setCell ⟨(w.heap.size + 1 + 1), 0, none⟩ (.int .i64 0)).setCell ⟨(w.heap.size + 1 + 1), 1, none⟩ (.int .i64 0)).setCell ⟨(w.heap.size + 1 + 1), 2, none⟩ (.int .i64 0)).setCell ⟨(w.heap.size + 1 + 1), 3, none⟩ (.slice none 0 0)).setCell ⟨(w.heap.size + 1 + 1), 4, none⟩ (.slice none 0 0)).setCell ⟨(w.heap.size + 1 + 1), 5, none⟩ (.slice none 0 0)).heap[k]? = W3.heap[k]? := fun k hk => fm_kept (.int .i64 0) (.int .i64 0) (.int .i64 0) (.slice none 0 0) (.slice none 0 0) (.slice none 0 0) k hk
      generalize (((((W3.setCell ⟨(w.heap.size + 1 + 1), 0, none⟩ (.int .i64 0)).setCell ⟨(w.heap.size + 1 + 1), 1, none⟩ (.int .i64 0)).setCell ⟨(w.heap.size + 1 + 1), 2, none⟩ (.int .i64 0)).setCell ⟨(w.heap.size + 1 + 1), 3, none⟩ (.slice none 0 0)).setCell ⟨(w.heap.size + 1 + 1), 4, none⟩ (.slice none 0 0)).setCell ⟨(w.heap.size + 1 + 1), 5, none⟩ (.slice none 0 0) = wf at *
      have x0 : wf.cell? ⟨(w.heap.size + 1 + 1), 0, none⟩ = some (.int .i64 0) := dB.cell 0
      have x1 : wf.cell? ⟨(w.heap.size + 1 + 1), 1, none⟩ = some (.int .i64 0) := dB.cell 1
      have x2 : wf.cell? ⟨(w.heap.size + 1 + 1), 2, none⟩ = some (.int .i64 0) := dB.cell 2
      have x3 : wf.cell? ⟨(w.heap.size + 1 + 1), 3, none⟩ = some (.slice none 0 0) := dB.cell 3
      have x4 : wf.cell? ⟨(w.heap.size + 1 + 1), 4, none⟩ = some (.slice none 0 0) := dB.cell 4
      have x5 : wf.cell? ⟨(w.heap.size + 1 + 1), 5, none⟩ = some (.slice none 0 0) := dB.cell 5
      have hres : NewFmI w (Fm.zero, rc) (.returned (.tuple #[.agg #[.int .i64 0, .int .i64 0, .int .i64 0, .slice none 0 0, .slice none 0 0, .slice none 0 0], .int .i64 rc])) wf := ⟨none, 0, [], none, 0, [], none, 0, rfl, FmR.zero _ _, yS _ _ y33 (by omega)⟩
      exact bodyPost_ret (v := .tuple #[.agg #[.int .i64 0, .int .i64 0, .int .i64 0, .slice none 0 0, .slice none 0 0, .slice none 0 0], .int .i64 rc]) (by simp [results, Try.results23, go_sem, x0, x1, x2, x3, x4, x5]) rfl hres
    · subst hc
      obtain ⟨_, hF3⟩ := HOK.out rfl
      have HS3 : Hid (RunS W1 g sy st rs ⟨q, h, a, nums ts, nums us, os⟩ N (i + 1) W3) := Lib.hid ⟨rf, hF3, HOKF.out rfl, by rw [HRN.out, if_pos rfl], z13⟩
      clear hF3 HOK HOKF HRN HRUN
      go_wp2_with fail
      exact ⟨⟨i + 1, by omega, by go_num, HS3⟩, by simp [intOf]; omega⟩
end Go.Proofs.Ytbpofkggoolmpaa

/-
  A formula tape that a law keeps in a box, compares, marks and reads again.
-/
namespace Go.Proofs.Ytbpofkggoolmpaa
open Go.RowKit

/-- A formula tape that is short enough. -/
def FmLen (f : Fm) : Prop := f.W.length ≤ 1048576 ∧ f.R.length ≤ 1048576 ∧ f.O.length ≤ 1048576 ∧ (f.W.map List.length).sum ≤ 1048576 ∧ (f.R.map List.length).sum ≤ 1048576
theorem sum_le_bound {k : Nat} : ∀ {xss : List (List Int)}, (∀ x ∈ xss, x.length ≤ k) → (xss.map List.length).sum ≤ xss.length * k
  | [], _ => by simp
  | x :: t, h => by
    have h1 := sum_le_bound (xss := t) fun y hy => h y (List.mem_cons_of_mem _ hy)
    have h2 := h x List.mem_cons_self
    rw [List.map_cons, List.sum_cons, List.length_cons, Nat.add_mul]
    omega
theorem FmLen.zero : FmLen Fm.zero := by unfold FmLen Fm.zero; simp
theorem FmLen.valid {sy st : Int} {f : Fm} (h : fmB sy st f = true) : FmLen f := by
  obtain ⟨_, _, h1, h2, _, h3, _⟩ := fmB_parts h
  unfold fmB at h
  simp only [Bool.and_eq_true] at h
  obtain ⟨⟨⟨⟨⟨_, hw⟩, hr⟩, _⟩, _⟩, _⟩ := h
  rw [List.all_eq_true] at hw hr
  have w1 := sum_le_bound (k := 100) (xss := f.W) fun x hx => by
    have := hw x hx
    unfold wallB at this
    simp only [Bool.and_eq_true, decide_eq_true_eq] at this
    omega
  have r1 := sum_le_bound (k := 20) (xss := f.R) fun x hx => by
    have := hr x hx
    unfold repB inB at this
    simp only [Bool.and_eq_true, decide_eq_true_eq] at this
    omega
  unfold FmLen
  have : f.W.length * 100 ≤ 400 := by omega
  have : f.R.length * 20 ≤ 60 := by omega
  omega
theorem formulaOfF_len (sy st : Int) (rs : List R3) (q : Int) (xs : List Int) (xss : List (List Int)) : FmLen (formulaOfF sy st rs q xs xss).1 := by
  unfold formulaOfF
  split
  · split
    · unfold bounceF
      split
      · dsimp only
        split
        · rename_i h
          rw [Bool.and_eq_true] at h
          exact .valid h.1
        · exact .zero
      · exact .zero
    · exact .zero
  · exact .zero
theorem nextFm_len (sy st : Int) (rs : List R3) (f : Fm) : FmLen (nextFm sy st rs f).1 := by
  unfold nextFm
  split
  · exact .zero
  · split
    · rename_i h; exact .valid h
    · exact .zero
theorem stepFormF_len (sy st : Int) (rs : List R3) (f : Fm) : FmLen (stepFormF sy st rs f).1 := by
  unfold stepFormF
  split
  · exact nextFm_len _ _ _ _
  · exact .zero
theorem runFm_len (sy st : Int) (rs : List R3) : ∀ (n : Nat) (f : Fm), FmLen f → FmLen (runFm sy st rs n f).1
  | 0, _, h => h
  | n + 1, f, _ => by
    unfold runFm
    split
    · exact runFm_len sy st rs n _ (nextFm_len _ _ _ _)
    · exact .zero
theorem runFormF_len (sy st : Int) (rs : List R3) (f : Fm) (n : Int) : FmLen (runFormF sy st rs f n).1 := by
  unfold runFormF
  split
  · rename_i h
    rw [Bool.and_eq_true] at h
    split
    · exact runFm_len _ _ _ _ _ (.valid h.2)
    · exact .zero
  · exact .zero

/-- How many numbers it has. -/
def fmTot (f : Fm) : Nat := (f.W.map List.length).sum + (f.R.map List.length).sum + f.O.length
theorem total_nums (ts : List Sl) : total ts = ((nums ts).map List.length).sum := by
  unfold nums
  induction ts with
  | nil => rfl
  | cons t ts ih => simp [total] at ih ⊢; try omega
section
variable {w w' : World} {lo lo' c d k : Nat} {f : Fm} {A B C : Option Addr} {ts us : List Sl}
theorem FmR.alloc (h : FmR w lo f A c ts B d us C k) (o : Obj) : FmR (w.alloc o) lo f A c ts B d us C k := ⟨h.1.alloc o, h.2⟩
theorem FmR.blk_ge (h : FmR w lo f A c ts B d us C k) : ∀ b, FmBlk A ts B us C b → lo ≤ b ∧ b < w.heap.size := h.1.blk_ge
theorem FmR.kept (h : FmR w lo f A c ts B d us C k) (hk : ∀ b, FmBlk A ts B us C b → w'.heap[b]? = w.heap[b]?) : FmR w' lo f A c ts B d us C k := ⟨h.1.kept hk, h.2⟩
theorem FmR.mkf_far {T : List TypeId} {l hh : Nat} (h : FmR w lo f A c ts B d us C k) (hf : MkF T l hh w w') (hd : ∀ b, lo ≤ b → b < l ∨ hh ≤ b) : FmR w' lo f A c ts B d us C k :=
  h.kept fun b hb => hf.far (h.blk_ge b hb).2 (hd b (h.blk_ge b hb).1)
theorem FmR.mkf_below {T : List TypeId} {w0 : World} {l hh : Nat} (h0 : FmR w0 lo f A c ts B d us C k) (hl : w0.heap.size ≤ l) (h : FmR w lo f A c ts B d us C k) (hf : MkF T l hh w w') : FmR w' lo f A c ts B d us C k :=
  h.kept fun b hb => hf.far (h.blk_ge b hb).2 (.inl (Nat.lt_of_lt_of_le (h0.blk_ge b hb).2 hl))
theorem FmR.touch_below {w0 : World} {l hh : Nat} (h0 : FmR w0 lo f A c ts B d us C k) (hl : w0.heap.size ≤ l) (h : FmR w lo f A c ts B d us C k) (ht : Tch l hh w w') : FmR w' lo f A c ts B d us C k :=
  h.kept fun b hb => ht.block b (h.blk_ge b hb).2 (.inl (Nat.lt_of_lt_of_le (h0.blk_ge b hb).2 hl))
theorem FmR.lens (h : FmR w lo f A c ts B d us C k) (hl : FmLen f) : ts.length ≤ 1048576 ∧ us.length ≤ 1048576 ∧ f.O.length ≤ 1048576 ∧ total ts ≤ 1048576 ∧ total us ≤ 1048576 := by
  obtain ⟨h1, h2, h3, h4, h5⟩ := hl
  rw [← h.2.1] at h1 h4
  rw [← h.2.2] at h2 h5
  rw [← total_nums] at h4 h5
  rw [nums_len] at h1 h2
  exact ⟨h1, h2, h3, h4, h5⟩
end
theorem eqFormula_r {w : World} {lo lo' c d k c' d' k' : Nat} {f : Fm} {A B C A' B' C' : Option Addr} {ts us ts' us' : List Sl} (h : FmR w lo f A c ts B d us C k) (h' : FmR w lo' f A' c' ts' B' d' us' C' k') (hl : FmLen f) :
    Calls Try.prog 17 #[.agg #[.int .i64 f.q, .int .i64 f.h, .int .i64 f.a, .slice A ts.length c, .slice B us.length d, .slice C f.O.length k], .agg #[.int .i64 f.q, .int .i64 f.h, .int .i64 f.a, .slice A' ts'.length c', .slice B' us'.length d', .slice C' f.O.length k']] w fun e w' => e = .returned (.bool true) ∧ Below w.heap.size w w' := by
  obtain ⟨l1, l2, l3, l4, l5⟩ := h.lens hl
  have e1 : ts'.length = ts.length := by rw [← nums_len ts', ← nums_len ts, h.2.1, h'.2.1]
  have e2 : us'.length = us.length := by rw [← nums_len us', ← nums_len us, h.2.2, h'.2.2]
  have s1 := h'.1.1.sii
  have s2 := h'.1.2.1.sii
  rw [e1] at s1
  rw [e2] at s2
  rw [e1, e2]
  refine (eqFormula_any _ _ _ _ _ _ ts _ _ _ us _ _ _ f.O _ _ _ _ _ _ ts' _ _ _ us' _ _ _ f.O _ h.1.1.sii s1 l1 (fun t ht => by have := row_total ht; omega) h.1.2.1.sii s2 l2 (fun t ht => by have := row_total ht; omega) h.1.2.2.1.asI h'.1.2.2.1.asI l3).mono ?_
  rintro e w' ⟨rfl, z⟩
  rw [h.2.1, h.2.2, h'.2.1, h'.2.2, sameFormulaB_self]
  exact ⟨rfl, z⟩
/-- A formula tape behind its marks. -/
def FmMk (w : World) (f : Fm) (A : Option Addr) (ts : List Sl) (B : Option Addr) (us : List Sl) (C : Option Addr) (_k : Nat) : Prop :=
  MarkedII w A ts.length ts 1 ∧ MarkedII w B us.length us (1 + total ts) ∧ SI w C f.O.length (marks (1 + total ts + total us) f.O.length) ∧ FmLen f ∧ nums ts = f.W ∧ nums us = f.R
theorem FmMk.below {w w' : World} {f : Fm} {A B C : Option Addr} {ts us : List Sl} {k : Nat} (h : FmMk w f A ts B us C k) (z : Below w.heap.size w w') : FmMk w' f A ts B us C k := ⟨h.1.below z, h.2.1.below z, h.2.2.1.below z, h.2.2.2⟩
theorem markFormula_r {w : World} {lo hi c d k : Nat} {f : Fm} {A B C : Option Addr} {ts us : List Sl} (h : FmR w lo f A c ts B d us C k) (hl : FmLen f) (kb : ∀ b, FmBlk A ts B us C b → b < hi) (hhi : hi ≤ w.heap.size) :
    Calls Try.prog 20 #[.agg #[.int .i64 f.q, .int .i64 f.h, .int .i64 f.a, .slice A ts.length c, .slice B us.length d, .slice C f.O.length k], .int .i64 1] w fun e w' => e = .returned (.int .i64 (1 + fmTot f)) ∧ FmMk w' f A ts B us C k ∧ Tch lo hi w w' := by
  obtain ⟨l1, l2, l3, l4, l5⟩ := h.lens hl
  refine (markFormula_c _ _ _ _ _ _ ts _ _ _ us _ _ _ f.O 1 _ lo hi h.1.1 h.1.2.1 h.1.2.2.1 h.1.2.2.2 (fun t ht b hb => kb b (.inr (.inl ⟨t, ht, hb⟩))) (fun t ht b hb => kb b (.inr (.inr (.inr (.inl ⟨t, ht, hb⟩))))) (fun b hb => kb b (.inr (.inr (.inr (.inr hb))))) hhi (by decide) l1 l2 l3 l4 l5 (by omega) (by omega)).mono ?_
  rintro e w' ⟨rfl, mA, mB, oC, t⟩
  refine ⟨ret_int ?_, ⟨mA, mB, oC.si, hl, h.2⟩, t⟩
  unfold fmTot
  rw [← h.2.1, ← h.2.2, ← total_nums, ← total_nums]
  omega
theorem heldFormula_r {w : World} {c d k : Nat} {f : Fm} {A B C : Option Addr} {ts us : List Sl} (h : FmMk w f A ts B us C k) :
    Calls Try.prog 21 #[.agg #[.int .i64 f.q, .int .i64 f.h, .int .i64 f.a, .slice A ts.length c, .slice B us.length d, .slice C f.O.length k], .int .i64 1] w fun e w' => e = .returned (.int .i64 (1 + fmTot f)) ∧ Below w.heap.size w w' := by
  obtain ⟨mA, mB, mC, ⟨h1, h2, h3, h4, h5⟩, e1, e2⟩ := h
  rw [← e1] at h1 h4
  rw [← e2] at h2 h5
  rw [← total_nums] at h4 h5
  rw [nums_len] at h1 h2
  refine (heldFormula_c _ _ _ _ _ _ ts _ _ _ us _ _ _ 1 _ mA mB mC h1 h2 h3 h4 h5 (by omega) (by omega)).mono ?_
  rintro e w' ⟨rfl, z⟩
  refine ⟨ret_int ?_, z⟩
  unfold fmTot
  rw [← e1, ← e2, ← total_nums, ← total_nums]
  omega
/-- Its box. -/
theorem form_set {w : World} {g : Nat} {v0 v1 v2 v3 v4 v5 : Value} (h : Blk w g 31 #[v0, v1, v2, v3, v4, v5]) (a b c d e f : Value) :
    Blk ((((((w.setCell ⟨g, 0, none⟩ a).setCell ⟨g, 1, none⟩ b).setCell ⟨g, 2, none⟩ c).setCell ⟨g, 3, none⟩ d).setCell ⟨g, 4, none⟩ e).setCell ⟨g, 5, none⟩ f) g 31 #[a, b, c, d, e, f] := fm_set h a b c d e f
theorem form_below {w0 w : World} {lo g : Nat} (h : Below lo w0 w) (hl : lo ≤ g) (a b c d e f : Value) :
    Below lo w0 ((((((w.setCell ⟨g, 0, none⟩ a).setCell ⟨g, 1, none⟩ b).setCell ⟨g, 2, none⟩ c).setCell ⟨g, 3, none⟩ d).setCell ⟨g, 4, none⟩ e).setCell ⟨g, 5, none⟩ f) := fm_below h hl a b c d e f
theorem form_far2 {w : World} {g lo c d k : Nat} {fm : Fm} {A B C : Option Addr} {ts us : List Sl} {vs : Array Value} (hg : Blk w g 31 vs) (h : FmR w lo fm A c ts B d us C k) (x0 x1 x2 x3 x4 x5 : Value) :
    FmR ((((((w.setCell ⟨g, 0, none⟩ x0).setCell ⟨g, 1, none⟩ x1).setCell ⟨g, 2, none⟩ x2).setCell ⟨g, 3, none⟩ x3).setCell ⟨g, 4, none⟩ x4).setCell ⟨g, 5, none⟩ x5) lo fm A c ts B d us C k :=
  ⟨h.1.far hg (by decide) (by decide) (fm_kept x0 x1 x2 x3 x4 x5), h.2⟩
/-- A result of FormulaOf, and of StepFormula, in a box. -/
def FormBox (lo : Nat) (W : World) (s6 s7 : Value) (r : Fm × Int) (wx : World) : Prop :=
  ∃ g A c ts B d us C k, s6 = .pointer (some ⟨g, 0, none⟩) ∧ s7 = .int .i64 r.2 ∧ lo ≤ g ∧ Blk wx g 31 #[.int .i64 r.1.q, .int .i64 r.1.h, .int .i64 r.1.a, .slice A ts.length c, .slice B us.length d, .slice C r.1.O.length k] ∧ FmR wx lo r.1 A c ts B d us C k ∧ Below W.heap.size W wx
def FormBox3 (lo : Nat) (W : World) (s6 s7 s8 : Value) (r : Fm × Int × Int) (wx : World) : Prop :=
  ∃ g A c ts B d us C k, s6 = .pointer (some ⟨g, 0, none⟩) ∧ s7 = .int .i64 r.2.1 ∧ s8 = .int .i64 r.2.2 ∧ lo ≤ g ∧ Blk wx g 31 #[.int .i64 r.1.q, .int .i64 r.1.h, .int .i64 r.1.a, .slice A ts.length c, .slice B us.length d, .slice C r.1.O.length k] ∧ FmR wx lo r.1 A c ts B d us C k ∧ Below W.heap.size W wx
end Go.Proofs.Ytbpofkggoolmpaa

/-
  Contracts of the laws' helpers over Machine: szMachine, toMachine, eqMachine, markMachine.
-/
namespace Go.Proofs.Ytbpofkggoolmpaa
open Go.RowKit

set_option maxHeartbeats 400000 in
theorem szMachine_any (d0 : Int) (d1 : Int) (A0 : Option Addr) (n0 c0 : Nat) (left : Int) (w : World) (h0 : n0 ≤ 9223372036854775807) (g0 : 0 ≤ left) (g1 : left ≤ 1048576) :
    Calls Try.prog 11 #[.agg #[.int .i64 d0, .int .i64 d1, .slice A0 n0 c0], .int .i64 left] w (SzP w left ((n0 : Int))) := by
  obtain ⟨W, hW⟩ : ∃ W, W = w.alloc (.cells #[.int .i64 d0, .int .i64 d1, .slice A0 n0 c0] 24) := ⟨_, rfl⟩
  have b0 : Blk W w.heap.size 24 #[.int .i64 d0, .int .i64 d1, .slice A0 n0 c0] := by rw [hW]; exact Blk.new w _ _
  have z0 : Below w.heap.size w W := by rw [hW]; exact (Below.refl _ _).alloc (Nat.le_refl _) _
  have HW := Lib.hid hW
  clear hW
  go_enter Try.func11, Try.ntmps11
  go_wp2_with fail
  rw [← HW.out]
  refine (szR_p A0 n0 c0 left W h0 (by omega) (by omega)).mono ?_
  rintro e w1 ⟨z1, rfl, l1, u1, e1, b1⟩
  have E1 := Lib.hid e1
  clear e1
  have y1 : Below w.heap.size w w1 := z0.trans (b1.mono z0.size)
  by_cases hneg1 : z1 < 0
  · go_wp2_with fail
    go_ret
    exact ⟨-1, rfl, by omega, by omega, by omega, y1⟩
  go_wp2_with fail
  go_ret
  exact ⟨z1, rfl, by omega, by omega, fun _ => by have t1 := E1.out (by omega); omega, y1⟩

def ToMachine (w : World) (d0 : Int) (d1 : Int) (n0 : Nat) (x0 : List R3) (e : Ending) (w' : World) : Prop :=
  ∃ B0, e = .returned (.agg #[.int .i64 d0, .int .i64 d1, .slice B0 n0 n0]) ∧ Own w' w.heap.size 229 3 B0 n0 n0 (cells3 x0) ∧ Below w.heap.size w w'

set_option maxHeartbeats 1000000 in
theorem toMachine_any (d0 : Int) (d1 : Int) (A0 : Option Addr) (n0 c0 : Nat) (x0 : List R3) (w : World) (r0 : S3 w A0 n0 x0) (h0 : n0 ≤ 1048576) :
    Calls Try.prog 14 #[.agg #[.int .i64 d0, .int .i64 d1, .slice A0 n0 c0]] w (ToMachine w d0 d1 n0 x0) := by
  obtain ⟨W, hW⟩ : ∃ W, W = ((w.alloc (.cells #[.int .i64 d0, .int .i64 d1, .slice A0 n0 c0] 24)).alloc (.cells #[.int .i64 0, .int .i64 0, .slice none 0 0] 36)).alloc (.cells #[.int .i64 d0, .int .i64 d1, .slice none 0 0] 36) := ⟨_, rfl⟩
  have s1 : (w.alloc (.cells #[.int .i64 d0, .int .i64 d1, .slice A0 n0 c0] 24)).heap.size = w.heap.size + 1 := by simp
  have s2 : ((w.alloc (.cells #[.int .i64 d0, .int .i64 d1, .slice A0 n0 c0] 24)).alloc (.cells #[.int .i64 0, .int .i64 0, .slice none 0 0] 36)).heap.size = w.heap.size + 1 + 1 := by simp
  have b0 : Blk W w.heap.size 24 #[.int .i64 d0, .int .i64 d1, .slice A0 n0 c0] := by rw [hW]; exact ((Blk.new w _ _).alloc _).alloc _
  have b1 : Blk W (w.heap.size + 1) 36 #[.int .i64 0, .int .i64 0, .slice none 0 0] := by rw [hW, ← s1]; exact (Blk.new _ _ _).alloc _
  have b2 : Blk W (w.heap.size + 1 + 1) 36 #[.int .i64 d0, .int .i64 d1, .slice none 0 0] := by rw [hW, ← s2]; exact Blk.new _ _ _
  have y0 : Below w.heap.size w W := by rw [hW]; exact (((Below.refl _ _).alloc (Nat.le_refl _) _).alloc (by simp) _).alloc (by simp; omega) _
  have hz : w.heap.size + 1 + 1 < W.heap.size := b2.lt
  have HW := Lib.hid hW
  clear hW s1 s2
  go_enter Try.func14, Try.ntmps14
  go_wp2_with fail
  rw [← HW.out]
  clear HW
  refine (toR _ _ _ x0 _ (r0.below y0) h0).mono ?_
  rintro e w0 ⟨B0, rfl, o0, bz0⟩
  have b0 := b0.below' bz0
  have b1 := b1.below' bz0
  have b2 := b2.below' bz0
  have yc0 : Below w.heap.size w w0 := y0.trans (bz0.mono y0.size)
  have hw0 : W.heap.size ≤ w0.heap.size := by have := bz0.size; omega
  have p0 : w0.cell? ⟨w.heap.size + 1 + 1, 2, none⟩ = some (.slice none 0 0) := b2.cell 2
  have pf0 := b2.frozen 2
  have a0 : w0.cell? ⟨w.heap.size + 1 + 1, 0, none⟩ = some (.int .i64 d0) := b2.cell 0
  have a1 : w0.cell? ⟨w.heap.size + 1 + 1, 1, none⟩ = some (.int .i64 d1) := b2.cell 1
  have c0_ : w0.cell? ⟨w.heap.size + 1, 0, none⟩ = some (.int .i64 0) := b1.cell 0
  have f0_ := b1.frozen 0
  have c1_ : w0.cell? ⟨w.heap.size + 1, 1, none⟩ = some (.int .i64 0) := b1.cell 1
  have f1_ := b1.frozen 1
  have c2_ : w0.cell? ⟨w.heap.size + 1, 2, none⟩ = some (.slice none 0 0) := b1.cell 2
  have f2_ := b1.frozen 2
  go_wp2_with fail
  have dB : Blk ((((w0.setCell ⟨w.heap.size + 1 + 1, 2, none⟩ (.slice B0 n0 n0)).setCell ⟨w.heap.size + 1, 0, none⟩ (.int .i64 d0)).setCell ⟨w.heap.size + 1, 1, none⟩ (.int .i64 d1)).setCell ⟨w.heap.size + 1, 2, none⟩ (.slice B0 n0 n0)) (w.heap.size + 1) 36 #[.int .i64 d0, .int .i64 d1, .slice B0 n0 n0] := (((b1.far (p := ⟨w.heap.size + 1 + 1, 2, none⟩) (by simp) _).set_ 0 _).set_ 1 _).set_ 2 _
  have m0 : Own ((((w0.setCell ⟨w.heap.size + 1 + 1, 2, none⟩ (.slice B0 n0 n0)).setCell ⟨w.heap.size + 1, 0, none⟩ (.int .i64 d0)).setCell ⟨w.heap.size + 1, 1, none⟩ (.int .i64 d1)).setCell ⟨w.heap.size + 1, 2, none⟩ (.slice B0 n0 n0)) W.heap.size 229 3 B0 n0 n0 (cells3 x0) := (((o0.far (fun e => by have := o0.blk_ge _ e; simp at this; omega) _).far (fun e => by have := o0.blk_ge _ e; simp at this; omega) _).far (fun e => by have := o0.blk_ge _ e; simp at this; omega) _).far (fun e => by have := o0.blk_ge _ e; simp at this; omega) _
  have yf : Below w.heap.size w ((((w0.setCell ⟨w.heap.size + 1 + 1, 2, none⟩ (.slice B0 n0 n0)).setCell ⟨w.heap.size + 1, 0, none⟩ (.int .i64 d0)).setCell ⟨w.heap.size + 1, 1, none⟩ (.int .i64 d1)).setCell ⟨w.heap.size + 1, 2, none⟩ (.slice B0 n0 n0)) := (((yc0.setCell (by simp; omega) _).setCell (by simp) _).setCell (by simp) _).setCell (by simp) _
  generalize (((w0.setCell ⟨w.heap.size + 1 + 1, 2, none⟩ (.slice B0 n0 n0)).setCell ⟨w.heap.size + 1, 0, none⟩ (.int .i64 d0)).setCell ⟨w.heap.size + 1, 1, none⟩ (.int .i64 d1)).setCell ⟨w.heap.size + 1, 2, none⟩ (.slice B0 n0 n0) = wf at *
  have g0_ : wf.cell? ⟨w.heap.size + 1, 0, none⟩ = some (.int .i64 d0) := dB.cell 0
  have g1_ : wf.cell? ⟨w.heap.size + 1, 1, none⟩ = some (.int .i64 d1) := dB.cell 1
  have g2_ : wf.cell? ⟨w.heap.size + 1, 2, none⟩ = some (.slice B0 n0 n0) := dB.cell 2
  have hres : ToMachine w d0 d1 n0 x0 (.returned (.agg #[.int .i64 d0, .int .i64 d1, .slice B0 n0 n0])) wf := ⟨B0, rfl, m0.mono (by omega), yf⟩
  exact bodyPost_ret (v := .agg #[.int .i64 d0, .int .i64 d1, .slice B0 n0 n0]) (by simp [results, Try.results14, go_sem, g0_, g1_, g2_]) rfl hres

def sameMachineB (d0 d0' : Int) (d1 d1' : Int) (x0 x0' : List R3) : Bool :=
  decide (d0 = d0') && decide (d1 = d1') && same3 x0 x0'
theorem sameMachineB_self (d0 : Int) (d1 : Int) (x0 : List R3) : sameMachineB d0 d0 d1 d1 x0 x0 = true := by simp [sameMachineB, same3]

set_option maxHeartbeats 1000000 in
theorem eqMachine_any (d0 : Int) (d1 : Int) (A0 : Option Addr) (n0 c0 : Nat) (x0 : List R3) (d0' : Int) (d1' : Int) (A0' : Option Addr) (n0' c0' : Nat) (x0' : List R3) (w : World) (r0 : S3 w A0 n0 x0) (r0' : S3 w A0' n0' x0') (h0 : n0 ≤ 1048576) :
    Calls Try.prog 18 #[.agg #[.int .i64 d0, .int .i64 d1, .slice A0 n0 c0], .agg #[.int .i64 d0', .int .i64 d1', .slice A0' n0' c0']] w fun e w' => e = .returned (.bool (sameMachineB d0 d0' d1 d1' x0 x0')) ∧ Below w.heap.size w w' := by
  obtain ⟨W, hW⟩ : ∃ W, W = (w.alloc (.cells #[.int .i64 d0, .int .i64 d1, .slice A0 n0 c0] 36)).alloc (.cells #[.int .i64 d0', .int .i64 d1', .slice A0' n0' c0'] 36) := ⟨_, rfl⟩
  have s1 : (w.alloc (.cells #[.int .i64 d0, .int .i64 d1, .slice A0 n0 c0] 36)).heap.size = w.heap.size + 1 := by simp
  have b0 : Blk W w.heap.size 36 #[.int .i64 d0, .int .i64 d1, .slice A0 n0 c0] := by rw [hW]; exact (Blk.new w _ _).alloc _
  have b1 : Blk W (w.heap.size + 1) 36 #[.int .i64 d0', .int .i64 d1', .slice A0' n0' c0'] := by rw [hW, ← s1]; exact Blk.new _ _ _
  have y0 : Below w.heap.size w W := by rw [hW]; exact ((Below.refl _ _).alloc (Nat.le_refl _) _).alloc (by simp) _
  have HW := Lib.hid hW
  clear hW s1
  cases hd_d0 : (d0 != d0')
  · skip
    have HD_d0 := Lib.hid (show d0 = d0' by simpa using hd_d0)
    cases hd_d1 : (d1 != d1')
    · skip
      have HD_d1 := Lib.hid (show d1 = d1' by simpa using hd_d1)
      go_enter Try.func18, Try.ntmps18
      go_wp2_with fail
      rw [← HW.out]
      clear hd_d0 hd_d1
      refine (eqR _ _ _ _ _ _ x0 x0' _ (r0.below y0) (r0'.below y0) (by omega)).mono ?_
      rintro e w0 ⟨rfl, bz0⟩
      have yy0 : Below w.heap.size w w0 := y0.trans (bz0.mono y0.size)
      have b0 := b0.below' bz0
      have b1 := b1.below' bz0
      cases hs0 : same3 x0 x0'
      · have HS := Lib.hid hs0
        clear hs0
        go_wp2_with fail
        go_ret
        exact ⟨ret_bool (by unfold sameMachineB; rw [HS.out]; simp), yy0⟩
      · skip
        have HS0 := Lib.hid hs0
        clear hs0
        go_wp2_with fail
        go_ret
        exact ⟨ret_bool (by unfold sameMachineB; rw [HS0.out]; simp [HD_d0.out, HD_d1.out]), yy0⟩
    · have HD := Lib.hid (show ¬ d1 = d1' by simpa using hd_d1)
      go_enter Try.func18, Try.ntmps18
      go_wp2_with fail
      rw [← HW.out]
      go_ret
      exact ⟨ret_bool (by unfold sameMachineB; simp [HD.out]), y0⟩
  · have HD := Lib.hid (show ¬ d0 = d0' by simpa using hd_d0)
    go_enter Try.func18, Try.ntmps18
    go_wp2_with fail
    rw [← HW.out]
    go_ret
    exact ⟨ret_bool (by unfold sameMachineB; simp [HD.out]), y0⟩

set_option maxHeartbeats 400000 in
theorem markMachine_m (T : List TypeId) (d0 : Int) (d1 : Int) (A0 : Option Addr) (n0 c0 : Nat) (p : Int) (w : World) (lo hi : Nat) (m0 : Mk w lo hi 229 3 A0 n0) (h0 : n0 ≤ 1048576) (tR : 229 ∈ T) (tX : 36 ∉ T) (g0 : 0 ≤ p) (g1 : p ≤ 9223372036800000000) :
    Calls Try.prog 19 #[.agg #[.int .i64 d0, .int .i64 d1, .slice A0 n0 c0], .int .i64 p] w (MarkP T w lo hi (n0 * 3) p) := by
  obtain ⟨W, hW⟩ : ∃ W, W = w.alloc (.cells #[.int .i64 d0, .int .i64 d1, .slice A0 n0 c0] 36) := ⟨_, rfl⟩
  have b0 : Blk W w.heap.size 36 #[.int .i64 d0, .int .i64 d1, .slice A0 n0 c0] := by rw [hW]; exact Blk.new w _ _
  have z0 : Below w.heap.size w W := by rw [hW]; exact (Below.refl _ _).alloc (Nat.le_refl _) _
  have HW := Lib.hid hW
  clear hW
  have TR := Lib.hid tR
  have TX := Lib.hid tX
  clear tR tX
  go_enter Try.func19, Try.ntmps19
  have f0 : MkF T lo hi w W := MkF.of_below z0
  go_wp2_with fail
  rw [← HW.out]
  refine (markR_m T _ _ _ _ _ lo hi (m0.mkf f0) TR.out (by omega) (by omega)).mono ?_
  rintro e w0 ⟨rfl, ff0⟩
  have f1 := f0.trans ff0
  have b0 := b0.mkf ff0 TX.out
  go_wp2_with fail
  go_ret
  exact ⟨ret_int (by omega), f1⟩
end Go.Proofs.Ytbpofkggoolmpaa

/-
  From the reading of an argument to the words of the walks, and from a walk to a row's post. No program is in sight.
-/
namespace Go.Proofs.Ytbpofkggoolmpaa
open Go.ChangeShapes Go.WideShapes Go.ChangeAt Go.RowKit Go.Deep

section
variable {H : Type} {enc : TypeId × Value → H} {P : Program} {w : World} {base : Nat} {spare : Nat → Bool} {held : Bool}

theorem addr_none {w : World} {a : Addr} {k : Nat} {v : Value} (h : w.cell? (a.add k) = some v) : a = ⟨a.block, a.off, none⟩ ∨ 0 < k := by
  by_cases hk : k = 0
  · subst hk
    have h1 : (a.add 0) = a := by simp [Addr.add]
    rw [h1] at h
    have := World.cell?_spot h
    left; cases a; simp_all
  · right; omega

/-- A slice of numbers that came in. -/
theorem si_of_trod {t e : TypeId} {fuel : Nat} {v : Value} {x : DataW H × List MemPlace} (ht : P.underlying t = some (.slice e)) (he : P.underlying e = some (.int .i64)) (hc : P.cellsOf e = 1) (h : DataW.trod enc P w base (fun _ => true) held fuel t [v] = some x) :
    ∃ A n c xs, v = .slice A n c ∧ SI w A n xs ∧ n ≤ c ∧ c ≤ 9223372036854775807 ∧ ∀ z ∈ xs, -9223372036854775808 ≤ z ∧ z ≤ 9223372036854775807 := by
  rcases open_ints ht he hc h with ⟨hcs, _⟩ | ⟨a, len, cap, zs, hcs, _, hl, hm, hz, _, hcell, hwf⟩
  · simp at hcs; subst hcs
    exact ⟨none, 0, 0, [], rfl, Rd.nil, by omega, by omega, by simp⟩
  · simp at hcs; subst hcs
    simp at hz
    have hm' : cap ≤ 9223372036854775807 := by simp only [maxLen] at hm; omega
    refine ⟨some a, len, cap, zs.take len, rfl, ⟨by rw [length_ints]; simp; omega, fun hn => ?_⟩, hl, hm', fun z hz' => ?_⟩
    · rw [length_ints] at hn
      simp at hn
      have h0 := hcell 0 (by omega)
      have hs : a = ⟨a.block, a.off, none⟩ := by
        rcases addr_none h0 with h1 | h1
        · exact h1
        · omega
      refine ⟨a.block, a.off, by rw [← hs], fun k hk => ?_⟩
      rw [length_ints] at hk
      simp at hk
      have hk' := hcell k (by omega)
      rw [hs, add_lit] at hk'
      rw [ints_get, hk']
      simp [List.getD, List.getElem?_eq_getElem (show k < zs.length by omega)]
    · have := hwf z (List.mem_of_mem_take hz')
      simpa [Lit.wf, IntKind.min, IntKind.max, IntKind.signed, IntKind.bits] using this

/-- A slice of slices of numbers that came in. -/
theorem sii_of_trod {t e q : TypeId} {fuel : Nat} {v : Value} {x : DataW H × List MemPlace} (ht : P.underlying t = some (.slice e)) (he : P.underlying e = some (.slice q)) (hq : P.underlying q = some (.int .i64)) (ce : P.cellsOf e = 1) (cq : P.cellsOf q = 1)
    (h : DataW.trod enc P w base (fun _ => true) held fuel t [v] = some x) :
    ∃ A n c ts, v = .slice A n c ∧ SII w A n ts ∧ n ≤ c ∧ c ≤ 9223372036854775807 ∧ (∀ t ∈ ts, t.xs.length ≤ t.c ∧ t.c ≤ 9223372036854775807) ∧ ∀ t ∈ ts, ∀ z ∈ t.xs, -9223372036854775808 ≤ z ∧ z ≤ 9223372036854775807 := by
  rcases open_slice1 ht ce h with ⟨hcs, _⟩ | ⟨a, len, cap, m, n, V, D, Pl, hcs, _, hl, hm, hmm, _, hi⟩
  · simp at hcs; subst hcs
    exact ⟨none, 0, 0, [], rfl, ⟨Rd.nil, by simp⟩, by omega, by omega, by simp, by simp⟩
  · simp at hcs; subst hcs
    simp at hmm; subst hmm
    have hm' : m ≤ 9223372036854775807 := by simp only [maxLen] at hm; omega
    have each : ∀ i, i < m → ∃ t : Sl, V i = t.val ∧ SI w t.A t.xs.length t.xs ∧ (t.xs.length ≤ t.c ∧ t.c ≤ 9223372036854775807) ∧ ∀ z ∈ t.xs, -9223372036854775808 ≤ z ∧ z ≤ 9223372036854775807 := by
      intro i him
      obtain ⟨A, k, c, xs, hV, hS, h1, h2, h3⟩ := si_of_trod he hq cq (hi i him).2
      have hk : xs.length = k := hS.len
      subst hk
      exact ⟨⟨A, c, xs⟩, hV, hS, ⟨h1, h2⟩, h3⟩
    have hall : ∃ T : Nat → Sl, ∀ i, i < m → V i = (T i).val ∧ SI w (T i).A (T i).xs.length (T i).xs ∧ ((T i).xs.length ≤ (T i).c ∧ (T i).c ≤ 9223372036854775807) ∧ ∀ z ∈ (T i).xs, -9223372036854775808 ≤ z ∧ z ≤ 9223372036854775807 :=
      ⟨fun i => if h : i < m then (each i h).choose else ⟨none, 0, []⟩, fun i him => by simp only [him, dif_pos]; exact (each i him).choose_spec⟩
    obtain ⟨T, hT⟩ := hall
    refine ⟨some a, len, m, (List.range len).map T, rfl, ⟨⟨by simp, fun hn => ?_⟩, fun t ht' => ?_⟩, hl, hm', fun t ht' => ?_, fun t ht' => ?_⟩
    · simp at hn
      have h0 := (hi 0 (by omega)).1
      have hs : a = ⟨a.block, a.off, none⟩ := by
        rcases addr_none h0 with h1 | h1
        · exact h1
        · omega
      refine ⟨a.block, a.off, by rw [← hs], fun k hk => ?_⟩
      simp at hk
      have hk' := (hi k (by omega)).1
      rw [hs, add_lit, (hT k (by omega)).1] at hk'
      rw [hk']; simp
    · obtain ⟨i, hi', rfl⟩ := List.mem_map.1 ht'
      exact (hT i (by have := List.mem_range.1 hi'; omega)).2.1
    · obtain ⟨i, hi', rfl⟩ := List.mem_map.1 ht'
      exact (hT i (by have := List.mem_range.1 hi'; omega)).2.2.1
    · obtain ⟨i, hi', rfl⟩ := List.mem_map.1 ht'
      exact (hT i (by have := List.mem_range.1 hi'; omega)).2.2.2
end

section
variable {H : Type} {enc : TypeId × Value → H} {P : Program}
theorem trodAll_stays (hl : laidOutB P = true) {W W' : World} {sp : Nat → Bool} (hb : Below W.heap.size W W') : ∀ {ts : List TypeId} {vs : List Value} {ds : List (DataW H)} {ps : List MemPlace}, (∀ t ∈ ts, P.readableRec t = true ∧ t < P.types.size) →
    DataW.TrodAll enc P W 0 (fun _ => true) true ts vs ds ps → (∀ x ∈ ps, x.block < W.heap.size) → (∀ x ∈ ps, sp x.block = true) → DataW.TrodAll enc P W' 0 sp true ts vs ds ps
  | [], vs, ds, ps, _, h, _, _ => by
    obtain ⟨rfl, rfl, rfl⟩ := trodAll_nil h
    exact trodAll_mk0
  | t :: ts, vs, ds, ps, hr, h, hlt, hs => by
    obtain ⟨v, vs', d, ds', p, q, rfl, rfl, rfl, h0, h1⟩ := trodAll_cons h
    exact trodAll_cons_mk (WideElems.Trod_stays hl (hr t (by simp)).1 (hr t (by simp)).2 h0 (fun x hx => hb.same (hlt x (by simp [hx]))) (fun x hx => hs x (by simp [hx])))
      (trodAll_stays hl hb (fun t' ht' => hr t' (by simp [ht'])) h1 (fun x hx => hlt x (by simp [hx])) (fun x hx => hs x (by simp [hx])))

/-- A law's post: it returned true, nothing that was there has turned. -/
theorem law_post {f : Func} {s : ChangeSpec} {b : TypeId} {W W' : World} {args : Array Value} {ds : List (DataW H)} {before : List MemPlace} (hl : laidOutB P = true) (hr : ∀ t ∈ f.params.toList, P.readableRec t = true ∧ t < P.types.size)
    (hvars : s.vars = []) (hres : f.resultTypes = #[b]) (hbool : P.underlying b = some .bool) (h1 : (s.fn H (ds ++ [])).results = [.lit (.bool true)]) (h2 : (s.fn H (ds ++ [])).args = ds) (h3 : (s.fn H (ds ++ [])).vars = [])
    (hW : DataW.Whole enc P f.params.toList s.vars false W args.toList ds [] before) (hb : Below W.heap.size W W') :
    s.post enc P f false true false false W args (.bool true) W' := by
  have hlt : ∀ p ∈ before, p.block < W.heap.size := fun p hp => hW.lt p hp
  have hold : ∀ p ∈ before, (fun b => decide (b < W.heap.size)) p.block = true := fun p hp => by simpa using hlt p hp
  obtain ⟨p, q, hA, hV, hps, hfz, hnd⟩ := id hW
  rw [hvars] at hV
  obtain ⟨_, rfl⟩ := trodVars_none hV
  simp only [List.append_nil] at hps
  subst hps
  refine ⟨ds, [], before, [], before, [], hW, ?_, ?_, ?_, World.keptBut_mono (fun p hp => ⟨hp, ?_⟩) (hb.frame (· ∈ before)), fun h => by cases h⟩
  · rw [h1, hres]
    exact trodAll_mk1 (shut_bool hbool true)
  · rw [h2]
    exact trodAll_stays hl hb hr hA hlt hold
  · rw [h3, hvars]; rfl
  · simp [hp]
end
end Go.Proofs.Ytbpofkggoolmpaa
