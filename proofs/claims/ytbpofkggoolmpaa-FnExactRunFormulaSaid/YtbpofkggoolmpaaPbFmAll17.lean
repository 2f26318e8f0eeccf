/-
  Contracts of impl.ValidFormula, impl.StepFormula and impl.RunFormula.
-/
import Derived.Test.YtbpofkggoolmpaaPbFmAll1
import Derived.Test.YtbpofkggoolmpaaPbFmAll2
import Derived.Test.YtbpofkggoolmpaaPbFmAll15
import Derived.Test.YtbpofkggoolmpaaPbFmAll16
namespace Go.Proofs.Ytbpofkggoolmpaa
open Go.RowKit

def NewFmI3 (w : World) (r : Fm × Int × Int) (e : Ending) (w' : World) : Prop :=
  ∃ A c ts B d us C k, e = .returned (.tuple #[.agg #[.int .i64 r.1.q, .int .i64 r.1.h, .int .i64 r.1.a, .slice A ts.length c, .slice B us.length d, .slice C r.1.O.length k], .int .i64 r.2.1, .int .i64 r.2.2]) ∧ FmR w' w.heap.size r.1 A c ts B d us C k ∧ Below w.heap.size w w'
theorem nextFm_err {sy st : Int} {rs : List R3} {f : Fm} (h : ¬ (nextFm sy st rs f).2.2 = 0) : nextFm sy st rs f = (Fm.zero, 0, (nextFm sy st rs f).2.2) := by
  unfold nextFm at h ⊢
  cases hm : moveF sy rs f with
  | none => rfl
  | some p =>
    obtain ⟨g, kd⟩ := p
    rw [hm] at h
    dsimp only at h ⊢
    by_cases h2 : fmB sy st g = true
    · rw [if_pos h2] at h; exact absurd rfl h
    · rw [if_neg h2]
theorem nextFm_ok {sy st : Int} {rs : List R3} {f : Fm} (h : (nextFm sy st rs f).2.2 = 0) : fmB sy st (nextFm sy st rs f).1 = true := by
  unfold nextFm at h ⊢
  cases hm : moveF sy rs f with
  | none => rw [hm] at h; exact absurd h (by simp)
  | some p =>
    obtain ⟨g, kd⟩ := p
    rw [hm] at h
    dsimp only at h ⊢
    by_cases h2 : fmB sy st g = true
    · rw [if_pos h2]; exact h2
    · rw [if_neg h2] at h; exact absurd h (by decide)

set_option maxRecDepth 100000 in
set_option maxHeartbeats 4000000 in
theorem validFormula_any (sy st : Int) (A0 : Option Addr) (n0 k0 : Nat) (rs : List R3) (q h a : Int) (A : Option Addr) (n c : Nat) (ts : List Sl) (B : Option Addr) (m d : Nat) (us : List Sl) (C : Option Addr) (l e : Nat) (os : List Int) (w : World) (hr : S3 w A0 n0 rs) (hx : SII w A n ts) (hy : SII w B m us) (hz : SI w C l os)
    (hn0 : n0 ≤ 1048576) (hn : n ≤ 1048576) (hm : m ≤ 1048576) (hl : l ≤ 1048576) (hns : ∀ t ∈ ts, t.xs.length ≤ 1048576) (hms : ∀ t ∈ us, t.xs.length ≤ 1048576) :
    Calls Try.prog 91 #[.agg #[.int .i64 sy, .int .i64 st, .slice A0 n0 k0], .agg #[.int .i64 q, .int .i64 h, .int .i64 a, .slice A n c, .slice B m d, .slice C l e]] w fun en w' => en = .returned (.bool (machB sy st rs && fmB sy st ⟨q, h, a, nums ts, nums us, os⟩)) ∧ Below w.heap.size w w' := by
  obtain ⟨res, hres⟩ : ∃ res, res = (machB sy st rs && fmB sy st ⟨q, h, a, nums ts, nums us, os⟩) := ⟨_, rfl⟩
  rw [← hres]
  have HRES := Lib.hid hres
  clear hres
  obtain ⟨W, hW_⟩ : ∃ W, W = (w.alloc (.cells #[.int .i64 sy, .int .i64 st, .slice A0 n0 k0] 36)).alloc (.cells #[.int .i64 q, .int .i64 h, .int .i64 a, .slice A n c, .slice B m d, .slice C l e] 31) := ⟨_, rfl⟩
  have s_1 : (w.alloc (.cells #[.int .i64 sy, .int .i64 st, .slice A0 n0 k0] 36)).heap.size = w.heap.size + 1 := by simp
  have b0 : Blk W w.heap.size 36 #[.int .i64 sy, .int .i64 st, .slice A0 n0 k0] := by rw [hW_]; exact (Blk.new w _ _).alloc _
  have b1 : Blk W (w.heap.size + 1) 31 #[.int .i64 q, .int .i64 h, .int .i64 a, .slice A n c, .slice B m d, .slice C l e] := by rw [hW_, ← s_1]; exact Blk.new _ _ _
  have y0 : Below w.heap.size w W := by rw [hW_]; exact ((Below.refl _ _).alloc (Nat.le_refl _) _).alloc (by simp) _
  have HW := Lib.hid hW_
  clear hW_ s_1
  have u0 : W.cell? ⟨w.heap.size, 0, none⟩ = some (.int .i64 sy) := b0.cell 0
  have u1 : W.cell? ⟨w.heap.size, 1, none⟩ = some (.int .i64 st) := b0.cell 1
  have u2 : W.cell? ⟨w.heap.size, 2, none⟩ = some (.slice A0 n0 k0) := b0.cell 2
  have HX := Lib.hid (hx.below y0)
  have HY := Lib.hid (hy.below y0)
  have HZ := Lib.hid (hz.below y0)
  have HNS := Lib.hid hns
  have HMS := Lib.hid hms
  go_enter Try.func91, Try.ntmps91
  go_upto_region 1 with fail
  rw [← HW.out]
  go_wp2_with fail
  refine (validMachine_any _ _ _ _ _ rs _ (hr.below y0) hn0).mono ?_
  rintro en W1 ⟨rfl, z1⟩
  have y1 := y0.trans (z1.mono y0.size)
  have b0' := b0.below' z1
  have b1' := b1.below' z1
  clear u0 u1 u2 hr hx hy hz hns hms
  have u0 : W1.cell? ⟨w.heap.size, 0, none⟩ = some (.int .i64 sy) := b0'.cell 0
  have u1 : W1.cell? ⟨w.heap.size, 1, none⟩ = some (.int .i64 st) := b0'.cell 1
  have u2 : W1.cell? ⟨w.heap.size, 2, none⟩ = some (.slice A0 n0 k0) := b0'.cell 2
  have v0 : W1.cell? ⟨(w.heap.size + 1), 0, none⟩ = some (.int .i64 q) := b1'.cell 0
  have v1 : W1.cell? ⟨(w.heap.size + 1), 1, none⟩ = some (.int .i64 h) := b1'.cell 1
  have v2 : W1.cell? ⟨(w.heap.size + 1), 2, none⟩ = some (.int .i64 a) := b1'.cell 2
  have v3 : W1.cell? ⟨(w.heap.size + 1), 3, none⟩ = some (.slice A n c) := b1'.cell 3
  have v4 : W1.cell? ⟨(w.heap.size + 1), 4, none⟩ = some (.slice B m d) := b1'.cell 4
  have v5 : W1.cell? ⟨(w.heap.size + 1), 5, none⟩ = some (.slice C l e) := b1'.cell 5
  cases hmb : machB sy st rs
  · have HMB := Lib.hid hmb
    clear hmb
    go_wp2_with fail
    go_ret
    exact ⟨ret_bool (by rw [HRES.out, HMB.out]; rfl), y1⟩
  · obtain ⟨s1, s2, s3, s4⟩ := machB_bounds hmb
    have HMB := Lib.hid hmb
    clear hmb
    have HV : Hid (fmB sy st ⟨q, h, a, nums ts, nums us, os⟩ = res) := Lib.hid (by rw [HRES.out, HMB.out]; rfl)
    clear HRES
    go_wp2_with fail
    refine (formulaOf_is HV.out _ (HX.out.below z1) (HY.out.below z1) (HZ.out.below z1) hn hm hl HNS.out HMS.out s1 s2 s3 s4).mono ?_
    rintro en W2 ⟨rfl, z2⟩
    go_wp2_with fail
    go_ret
    exact ⟨rfl, y1.trans (z2.mono y1.size)⟩

set_option maxRecDepth 100000 in
set_option maxHeartbeats 4000000 in
theorem stepFormulaI_any (sy st : Int) (A0 : Option Addr) (n0 k0 : Nat) (rs : List R3) (q h a : Int) (A : Option Addr) (n c : Nat) (ts : List Sl) (B : Option Addr) (m d : Nat) (us : List Sl) (C : Option Addr) (l e : Nat) (os : List Int) (w : World) (hr : S3 w A0 n0 rs) (hx : SII w A n ts) (hy : SII w B m us) (hz : SI w C l os)
    (hn0 : n0 ≤ 1048576) (hn : n ≤ 1048576) (hm : m ≤ 1048576) (hl : l ≤ 1048576) (hns : ∀ t ∈ ts, t.xs.length ≤ 1048576) (hms : ∀ t ∈ us, t.xs.length ≤ 1048576) :
    Calls Try.prog 16 #[.agg #[.int .i64 sy, .int .i64 st, .slice A0 n0 k0], .agg #[.int .i64 q, .int .i64 h, .int .i64 a, .slice A n c, .slice B m d, .slice C l e]] w (NewFmI3 w (stepFormF sy st rs ⟨q, h, a, nums ts, nums us, os⟩)) := by
  obtain ⟨res, hres⟩ : ∃ res, res = stepFormF sy st rs ⟨q, h, a, nums ts, nums us, os⟩ := ⟨_, rfl⟩
  rw [← hres]
  have HRES := Lib.hid hres
  clear hres
  obtain ⟨W, hW_⟩ : ∃ W, W = ((w.alloc (.cells #[.int .i64 sy, .int .i64 st, .slice A0 n0 k0] 36)).alloc (.cells #[.int .i64 q, .int .i64 h, .int .i64 a, .slice A n c, .slice B m d, .slice C l e] 31)).alloc (.cells #[.int .i64 0, .int .i64 0, .int .i64 0, .slice none 0 0, .slice none 0 0, .slice none 0 0] 31) := ⟨_, rfl⟩
  have s_1 : (w.alloc (.cells #[.int .i64 sy, .int .i64 st, .slice A0 n0 k0] 36)).heap.size = w.heap.size + 1 := by simp
  have s_2 : ((w.alloc (.cells #[.int .i64 sy, .int .i64 st, .slice A0 n0 k0] 36)).alloc (.cells #[.int .i64 q, .int .i64 h, .int .i64 a, .slice A n c, .slice B m d, .slice C l e] 31)).heap.size = w.heap.size + 1 + 1 := by simp
  have b0 : Blk W w.heap.size 36 #[.int .i64 sy, .int .i64 st, .slice A0 n0 k0] := by rw [hW_]; exact ((Blk.new w _ _).alloc _).alloc _
  have b1 : Blk W (w.heap.size + 1) 31 #[.int .i64 q, .int .i64 h, .int .i64 a, .slice A n c, .slice B m d, .slice C l e] := by rw [hW_, ← s_1]; exact (Blk.new _ _ _).alloc _
  have b2 : Blk W (w.heap.size + 1 + 1) 31 #[.int .i64 0, .int .i64 0, .int .i64 0, .slice none 0 0, .slice none 0 0, .slice none 0 0] := by rw [hW_, ← s_2]; exact Blk.new _ _ _
  have y0 : Below w.heap.size w W := by rw [hW_]; exact (((Below.refl _ _).alloc (Nat.le_refl _) _).alloc (by simp) _).alloc (by simp; omega) _
  have HW := Lib.hid hW_
  clear hW_ s_1 s_2
  have u0 : W.cell? ⟨w.heap.size, 0, none⟩ = some (.int .i64 sy) := b0.cell 0
  have u1 : W.cell? ⟨w.heap.size, 1, none⟩ = some (.int .i64 st) := b0.cell 1
  have u2 : W.cell? ⟨w.heap.size, 2, none⟩ = some (.slice A0 n0 k0) := b0.cell 2
  have v0 : W.cell? ⟨(w.heap.size + 1), 0, none⟩ = some (.int .i64 q) := b1.cell 0
  have v1 : W.cell? ⟨(w.heap.size + 1), 1, none⟩ = some (.int .i64 h) := b1.cell 1
  have v2 : W.cell? ⟨(w.heap.size + 1), 2, none⟩ = some (.int .i64 a) := b1.cell 2
  have v3 : W.cell? ⟨(w.heap.size + 1), 3, none⟩ = some (.slice A n c) := b1.cell 3
  have v4 : W.cell? ⟨(w.heap.size + 1), 4, none⟩ = some (.slice B m d) := b1.cell 4
  have v5 : W.cell? ⟨(w.heap.size + 1), 5, none⟩ = some (.slice C l e) := b1.cell 5
  have HR := Lib.hid (hr.below y0)
  have HX := Lib.hid (hx.below y0)
  have HY := Lib.hid (hy.below y0)
  have HZ := Lib.hid (hz.below y0)
  have HNS := Lib.hid hns
  have HMS := Lib.hid hms
  have hWsz : w.heap.size + 1 + 1 < W.heap.size := b2.lt
  clear hr hx hy hz hns hms
  go_enter Try.func16, Try.ntmps16
  go_upto_region 1 with fail
  rw [← HW.out]
  go_wp2_with fail
  refine (validFormula_any _ _ _ _ _ rs _ _ _ _ _ _ ts _ _ _ us _ _ _ os _ HR.out HX.out HY.out HZ.out hn0 hn hm hl HNS.out HMS.out).mono ?_
  rintro en W1 ⟨rfl, z1⟩
  have y1 := y0.trans (z1.mono y0.size)
  have c0 := b0.below' z1
  have c1 := b1.below' z1
  have c2 := b2.below' z1
  have hs1 := z1.size
  clear u0 u1 u2 v0 v1 v2 v3 v4 v5
  cases hv : (machB sy st rs && fmB sy st ⟨q, h, a, nums ts, nums us, os⟩)
  · obtain rfl : res = (Fm.zero, 0, 1) := by rw [HRES.out]; unfold stepFormF; rw [hv]; rfl
    clear hv
    have x0 : W1.cell? ⟨(w.heap.size + 1 + 1), 0, none⟩ = some (.int .i64 0) := c2.cell 0
    have x1 : W1.cell? ⟨(w.heap.size + 1 + 1), 1, none⟩ = some (.int .i64 0) := c2.cell 1
    have x2 : W1.cell? ⟨(w.heap.size + 1 + 1), 2, none⟩ = some (.int .i64 0) := c2.cell 2
    have x3 : W1.cell? ⟨(w.heap.size + 1 + 1), 3, none⟩ = some (.slice none 0 0) := c2.cell 3
    have x4 : W1.cell? ⟨(w.heap.size + 1 + 1), 4, none⟩ = some (.slice none 0 0) := c2.cell 4
    have x5 : W1.cell? ⟨(w.heap.size + 1 + 1), 5, none⟩ = some (.slice none 0 0) := c2.cell 5
    have f0 := c2.frozen 0
    have f1 := c2.frozen 1
    have f2 := c2.frozen 2
    have f3 := c2.frozen 3
    have f4 := c2.frozen 4
    have f5 := c2.frozen 5
    go_wp2_with fail
    clear x0 x1 x2 x3 x4 x5
    have dB : Blk ((((((W1.setCell ⟨(w.heap.size + 1 + 1), 0, none⟩ (.int .i64 0)).setCell ⟨(w.heap.size + 1 + 1), 1, none⟩ (.int .i64 0)).setCell ⟨(w.heap.size + 1 + 1), 2, none⟩ (.int .i64 0)).setCell ⟨(w.heap.size + 1 + 1), 3, none⟩ (.slice none 0 0)).setCell ⟨(w.heap.size + 1 + 1), 4, none⟩ (.slice none 0 0)).setCell ⟨(w.heap.size + 1 + 1), 5, none⟩ (.slice none 0 0)) (w.heap.size + 1 + 1) 31 #[.int .i64 0, .int .i64 0, .int .i64 0, .slice none 0 0, .slice none 0 0, .slice none 0 0] := fm_set c2 (.int .i64 0) (.int .i64 0) (.int .i64 0) (.slice none 0 0) (.slice none 0 0) (.slice none 0 0)
    have yS : ∀ (lo : Nat) (w0 : World), Below lo w0 W1 → lo ≤ (w.heap.size + 1 + 1) → Below lo w0 ((((((W1.setCell ⟨(w.heap.size + 1 + 1), 0, none⟩ (.int .i64 0)).setCell ⟨(w.heap.size + 1 + 1), 1, none⟩ (.int .i64 0)).setCell ⟨(w.heap.size + 1 + 1), 2, none⟩ (.int .i64 0)).setCell ⟨(w.heap.size + 1 + 1), 3, none⟩ (.slice none 0 0)).setCell ⟨(w.heap.size + 1 + 1), 4, none⟩ (.slice none 0 0)).setCell ⟨(w.heap.size + 1 + 1), 5, none⟩ (.slice none 0 0)) := fun lo w0 h hl => fm_below h hl (.int .i64 0) (.int .i64 0) (.int .i64 0) (.slice none 0 0) (.slice none 0 0) (.slice none 0 0)
    have kS : ∀ k, k ≠ (w.heap.size + 1 + 1) → ((((((W1.setCell ⟨(w.heap.size + 1 + 1), 0, none⟩ (.int .i64 0)).setCell ⟨(w.heap.size + 1 + 1), 1, none⟩ (.int .i64 0)).setCell ⟨(w.heap.size + 1 + 1), 2, none⟩ (.int .i64 0)).setCell ⟨(w.heap.size + 1 + 1), 3, none⟩ (.slice none 0 0)).setCell ⟨(w.heap.size + 1 + 1), 4, none⟩ (.slice none 0 0)).setCell ⟨(w.heap.size + 1 + 1), 5, none⟩ (.slice none 0 0)).heap[k]? = W1.heap[k]? := fun k hk => fm_kept (.int .i64 0) (.int .i64 0) (.int .i64 0) (.slice none 0 0) (.slice none 0 0) (.slice none 0 0) k hk
    generalize (((((W1.setCell ⟨(w.heap.size + 1 + 1), 0, none⟩ (.int .i64 0)).setCell ⟨(w.heap.size + 1 + 1), 1, none⟩ (.int .i64 0)).setCell ⟨(w.heap.size + 1 + 1), 2, none⟩ (.int .i64 0)).setCell ⟨(w.heap.size + 1 + 1), 3, none⟩ (.slice none 0 0)).setCell ⟨(w.heap.size + 1 + 1), 4, none⟩ (.slice none 0 0)).setCell ⟨(w.heap.size + 1 + 1), 5, none⟩ (.slice none 0 0) = wf at *
    have x0 : wf.cell? ⟨(w.heap.size + 1 + 1), 0, none⟩ = some (.int .i64 0) := dB.cell 0
    have x1 : wf.cell? ⟨(w.heap.size + 1 + 1), 1, none⟩ = some (.int .i64 0) := dB.cell 1
    have x2 : wf.cell? ⟨(w.heap.size + 1 + 1), 2, none⟩ = some (.int .i64 0) := dB.cell 2
    have x3 : wf.cell? ⟨(w.heap.size + 1 + 1), 3, none⟩ = some (.slice none 0 0) := dB.cell 3
    have x4 : wf.cell? ⟨(w.heap.size + 1 + 1), 4, none⟩ = some (.slice none 0 0) := dB.cell 4
    have x5 : wf.cell? ⟨(w.heap.size + 1 + 1), 5, none⟩ = some (.slice none 0 0) := dB.cell 5
    have hres : NewFmI3 w (Fm.zero, 0, 1) (.returned (.tuple #[.agg #[.int .i64 0, .int .i64 0, .int .i64 0, .slice none 0 0, .slice none 0 0, .slice none 0 0], .int .i64 0, .int .i64 1])) wf := ⟨none, 0, [], none, 0, [], none, 0, rfl, FmR.zero _ _, yS _ _ y1 (by omega)⟩
    exact bodyPost_ret (v := .tuple #[.agg #[.int .i64 0, .int .i64 0, .int .i64 0, .slice none 0 0, .slice none 0 0, .slice none 0 0], .int .i64 0, .int .i64 1]) (by simp [results, Try.results16, go_sem, x0, x1, x2, x3, x4, x5]) rfl hres
  rw [Bool.and_eq_true] at hv
  obtain ⟨hmb, hfb⟩ := hv
  obtain ⟨nx, hnx⟩ : ∃ nx, nx = nextFm sy st rs ⟨q, h, a, nums ts, nums us, os⟩ := ⟨_, rfl⟩
  have HN : Hid (res = nx) := Lib.hid (by rw [HRES.out, hnx]; unfold stepFormF; rw [hmb, hfb]; rfl)
  have HCP := Lib.hid (copyFormula_any q h a A n c ts B m d us C l e os W1 (HX.out.below z1) (HY.out.below z1) (HZ.out.below z1) hn hm hl HNS.out HMS.out)
  have HST := Lib.hid (fun (g : Nat) (W2 : World) (z : Below W1.heap.size W1 W2) (hF : FmBox W2 W1.heap.size g ⟨q, h, a, nums ts, nums us, os⟩) => fmStep_any sy st A0 n0 k0 rs g W1.heap.size _ W2 ((HR.out.below z1).below z) hmb hF hfb)
  rw [← hnx] at HST
  have HER : Hid (¬ nx.2.2 = 0 → nx = (Fm.zero, 0, nx.2.2)) := Lib.hid (fun hh => by rw [hnx] at hh ⊢; exact nextFm_err hh)
  clear hmb hfb hnx HRES
  obtain rfl := HN.out
  clear HN
  have v0 : W1.cell? ⟨(w.heap.size + 1), 0, none⟩ = some (.int .i64 q) := c1.cell 0
  have v1 : W1.cell? ⟨(w.heap.size + 1), 1, none⟩ = some (.int .i64 h) := c1.cell 1
  have v2 : W1.cell? ⟨(w.heap.size + 1), 2, none⟩ = some (.int .i64 a) := c1.cell 2
  have v3 : W1.cell? ⟨(w.heap.size + 1), 3, none⟩ = some (.slice A n c) := c1.cell 3
  have v4 : W1.cell? ⟨(w.heap.size + 1), 4, none⟩ = some (.slice B m d) := c1.cell 4
  have v5 : W1.cell? ⟨(w.heap.size + 1), 5, none⟩ = some (.slice C l e) := c1.cell 5
  go_wp2_with fail
  refine HCP.out.mono ?_
  rintro en W2 ⟨g, rfl, hF2, z2⟩
  have HS2 := Lib.hid (HST.out g W2 z2 hF2)
  have d0 := c0.below' z2
  have hs2 := z2.size
  clear v0 v1 v2 v3 v4 v5 HCP HST hF2
  have u0 : W2.cell? ⟨w.heap.size, 0, none⟩ = some (.int .i64 sy) := d0.cell 0
  have u1 : W2.cell? ⟨w.heap.size, 1, none⟩ = some (.int .i64 st) := d0.cell 1
  have u2 : W2.cell? ⟨w.heap.size, 2, none⟩ = some (.slice A0 n0 k0) := d0.cell 2
  go_wp2_with fail
  refine HS2.out.mono ?_
  rintro en W3 ⟨kd, ii, rfl, hok, z3, fr3⟩
  have z13 : Below W1.heap.size W1 W3 := z2.trans z3
  have y3 : Below w.heap.size w W3 := y1.trans (z13.mono y1.size)
  have d2 : Blk W3 (w.heap.size + 1 + 1) 31 #[.int .i64 0, .int .i64 0, .int .i64 0, .slice none 0 0, .slice none 0 0, .slice none 0 0] := c2.below z13 (by omega)
  have HOK := Lib.hid hok
  clear hok u0 u1 u2 HS2 fr3 z3
  have x0 : W3.cell? ⟨(w.heap.size + 1 + 1), 0, none⟩ = some (.int .i64 0) := d2.cell 0
  have x1 : W3.cell? ⟨(w.heap.size + 1 + 1), 1, none⟩ = some (.int .i64 0) := d2.cell 1
  have x2 : W3.cell? ⟨(w.heap.size + 1 + 1), 2, none⟩ = some (.int .i64 0) := d2.cell 2
  have x3 : W3.cell? ⟨(w.heap.size + 1 + 1), 3, none⟩ = some (.slice none 0 0) := d2.cell 3
  have x4 : W3.cell? ⟨(w.heap.size + 1 + 1), 4, none⟩ = some (.slice none 0 0) := d2.cell 4
  have x5 : W3.cell? ⟨(w.heap.size + 1 + 1), 5, none⟩ = some (.slice none 0 0) := d2.cell 5
  have f0 := d2.frozen 0
  have f1 := d2.frozen 1
  have f2 := d2.frozen 2
  have f3 := d2.frozen 3
  have f4 := d2.frozen 4
  have f5 := d2.frozen 5
  obtain ⟨rf, rk, rc⟩ := res
  dsimp only at HOK HER ⊢
  by_cases hc : rc = 0
  rotate_left
  · have he := HER.out hc
    simp only [Prod.mk.injEq] at he
    obtain ⟨rfl, rfl, _⟩ := he
    go_wp2_with fail
    clear x0 x1 x2 x3 x4 x5
    have dB : Blk ((((((W3.setCell ⟨(w.heap.size + 1 + 1), 0, none⟩ (.int .i64 0)).setCell ⟨(w.heap.size + 1 + 1), 1, none⟩ (.int .i64 0)).setCell ⟨(w.heap.size + 1 + 1), 2, none⟩ (.int .i64 0)).setCell ⟨(w.heap.size + 1 + 1), 3, none⟩ (.slice none 0 0)).setCell ⟨(w.heap.size + 1 + 1), 4, none⟩ (.slice none 0 0)).setCell ⟨(w.heap.size + 1 + 1), 5, none⟩ (.slice none 0 0)) (w.heap.size + 1 + 1) 31 #[.int .i64 0, .int .i64 0, .int .i64 0, .slice none 0 0, .slice none 0 0, .slice none 0 0] := fm_set d2 (.int .i64 0) (.int .i64 0) (.int .i64 0) (.slice none 0 0) (.slice none 0 0) (.slice none 0 0)
    have yS : ∀ (lo : Nat) (w0 : World), Below lo w0 W3 → lo ≤ (w.heap.size + 1 + 1) → Below lo w0 ((((((W3.setCell ⟨(w.heap.size + 1 + 1), 0, none⟩ (.int .i64 0)).setCell ⟨(w.heap.size + 1 + 1), 1, none⟩ (.int .i64 0)).setCell ⟨(w.heap.size + 1 + 1), 2, none⟩ (.int .i64 0)).setCell ⟨(w.heap.size + 1 + 1), 3, none⟩ (.slice none 0 0)).setCell ⟨(w.heap.size + 1 + 1), 4, none⟩ (.slice none 0 0)).setCell ⟨(w.heap.size + 1 + 1), 5, none⟩ (.slice none 0 0)) := fun lo w0 h hl => fm_below h hl (.int .i64 0) (.int .i64 0) (.int .i64 0) (.slice none 0 0) (.slice none 0 0) (.slice none 0 0)
    have kS : ∀ k, k ≠ (w.heap.size + 1 + 1) → ((((((W3.setCell ⟨(w.heap.size + 1 + 1), 0, none⟩ (.int .i64 0)).setCell ⟨(w.heap.size + 1 + 1), 1, none⟩ (.int .i64 0)).setCell ⟨(w.heap.size + 1 + 1), 2, none⟩ (.int .i64 0)).setCell ⟨(w.heap.size + 1 + 1), 3, none⟩ (.slice none 0 0)).setCell ⟨(w.heap.size + 1 + 1), 4, none⟩ (.slice none 0 0)).setCell ⟨(w.heap.size + 1 + 1), 5, none⟩ (.slice none 0 0)).heap[k]? = W3.heap[k]? := fun k hk => fm_kept (.int .i64 0) (.int .i64 0) (.int .i64 0) (.slice none 0 0) (.slice none 0 0) (.slice none 0 0) k hk
    generalize (((((W3.setCell ⟨(w.heap.size + 1 + 1), 0, none⟩ (.int .i64 0)).setCell ⟨(w.heap.size + 1 + 1), 1, none⟩ (.int .i64 0)).setCell ⟨(w.heap.size + 1 + 1), 2, none⟩ (.int .i64 0)).setCell ⟨(w.heap.size + 1 + 1), 3, none⟩ (.slice none 0 0)).setCell ⟨(w.heap.size + 1 + 1), 4, none⟩ (.slice none 0 0)).setCell ⟨(w.heap.size + 1 + 1), 5, none⟩ (.slice none 0 0) = wf at *
    have x0 : wf.cell? ⟨(w.heap.size + 1 + 1), 0, none⟩ = some (.int .i64 0) := dB.cell 0
    have x1 : wf.cell? ⟨(w.heap.size + 1 + 1), 1, none⟩ = some (.int .i64 0) := dB.cell 1
    have x2 : wf.cell? ⟨(w.heap.size + 1 + 1), 2, none⟩ = some (.int .i64 0) := dB.cell 2
    have x3 : wf.cell? ⟨(w.heap.size + 1 + 1), 3, none⟩ = some (.slice none 0 0) := dB.cell 3
    have x4 : wf.cell? ⟨(w.heap.size + 1 + 1), 4, none⟩ = some (.slice none 0 0) := dB.cell 4
    have x5 : wf.cell? ⟨(w.heap.size + 1 + 1), 5, none⟩ = some (.slice none 0 0) := dB.cell 5
    have hres : NewFmI3 w (Fm.zero, 0, rc) (.returned (.tuple #[.agg #[.int .i64 0, .int .i64 0, .int .i64 0, .slice none 0 0, .slice none 0 0, .slice none 0 0], .int .i64 0, .int .i64 rc])) wf := ⟨none, 0, [], none, 0, [], none, 0, rfl, FmR.zero _ _, yS _ _ y3 (by omega)⟩
    exact bodyPost_ret (v := .tuple #[.agg #[.int .i64 0, .int .i64 0, .int .i64 0, .slice none 0 0, .slice none 0 0, .slice none 0 0], .int .i64 0, .int .i64 rc]) (by simp [results, Try.results16, go_sem, x0, x1, x2, x3, x4, x5]) rfl hres
  · subst hc
    obtain ⟨rfl, hF3⟩ := HOK.out rfl
    obtain ⟨A', c', ts', B', d', us', C', k', hb', hR', hl'⟩ := hF3
    clear HOK HER
    obtain ⟨q', h', a', FW', FR', os'⟩ := rf
    dsimp only at hb' hR' ⊢
    have v0 : W3.cell? ⟨g, 0, none⟩ = some (.int .i64 q') := hb'.cell 0
    have v1 : W3.cell? ⟨g, 1, none⟩ = some (.int .i64 h') := hb'.cell 1
    have v2 : W3.cell? ⟨g, 2, none⟩ = some (.int .i64 a') := hb'.cell 2
    have v3 : W3.cell? ⟨g, 3, none⟩ = some (.slice A' ts'.length c') := hb'.cell 3
    have v4 : W3.cell? ⟨g, 4, none⟩ = some (.slice B' us'.length d') := hb'.cell 4
    have v5 : W3.cell? ⟨g, 5, none⟩ = some (.slice C' os'.length k') := hb'.cell 5
    have hgn : g ≠ w.heap.size + 1 + 1 := by omega
    go_wp2_with fail
    clear x0 x1 x2 x3 x4 x5 v0 v1 v2 v3 v4 v5
    have dB : Blk ((((((W3.setCell ⟨(w.heap.size + 1 + 1), 0, none⟩ (.int .i64 q')).setCell ⟨(w.heap.size + 1 + 1), 1, none⟩ (.int .i64 h')).setCell ⟨(w.heap.size + 1 + 1), 2, none⟩ (.int .i64 a')).setCell ⟨(w.heap.size + 1 + 1), 3, none⟩ (.slice A' ts'.length c')).setCell ⟨(w.heap.size + 1 + 1), 4, none⟩ (.slice B' us'.length d')).setCell ⟨(w.heap.size + 1 + 1), 5, none⟩ (.slice C' os'.length k')) (w.heap.size + 1 + 1) 31 #[.int .i64 q', .int .i64 h', .int .i64 a', .slice A' ts'.length c', .slice B' us'.length d', .slice C' os'.length k'] := fm_set d2 (.int .i64 q') (.int .i64 h') (.int .i64 a') (.slice A' ts'.length c') (.slice B' us'.length d') (.slice C' os'.length k')
    have yS : ∀ (lo : Nat) (w0 : World), Below lo w0 W3 → lo ≤ (w.heap.size + 1 + 1) → Below lo w0 ((((((W3.setCell ⟨(w.heap.size + 1 + 1), 0, none⟩ (.int .i64 q')).setCell ⟨(w.heap.size + 1 + 1), 1, none⟩ (.int .i64 h')).setCell ⟨(w.heap.size + 1 + 1), 2, none⟩ (.int .i64 a')).setCell ⟨(w.heap.size + 1 + 1), 3, none⟩ (.slice A' ts'.length c')).setCell ⟨(w.heap.size + 1 + 1), 4, none⟩ (.slice B' us'.length d')).setCell ⟨(w.heap.size + 1 + 1), 5, none⟩ (.slice C' os'.length k')) := fun lo w0 h hl => fm_below h hl (.int .i64 q') (.int .i64 h') (.int .i64 a') (.slice A' ts'.length c') (.slice B' us'.length d') (.slice C' os'.length k')
    have kS : ∀ k, k ≠ (w.heap.size + 1 + 1) → ((((((W3.setCell ⟨(w.heap.size + 1 + 1), 0, none⟩ (.int .i64 q')).setCell ⟨(w.heap.size + 1 + 1), 1, none⟩ (.int .i64 h')).setCell ⟨(w.heap.size + 1 + 1), 2, none⟩ (.int .i64 a')).setCell ⟨(w.heap.size + 1 + 1), 3, none⟩ (.slice A' ts'.length c')).setCell ⟨(w.heap.size + 1 + 1), 4, none⟩ (.slice B' us'.length d')).setCell ⟨(w.heap.size + 1 + 1), 5, none⟩ (.slice C' os'.length k')).heap[k]? = W3.heap[k]? := fun k hk => fm_kept (.int .i64 q') (.int .i64 h') (.int .i64 a') (.slice A' ts'.length c') (.slice B' us'.length d') (.slice C' os'.length k') k hk
    generalize (((((W3.setCell ⟨(w.heap.size + 1 + 1), 0, none⟩ (.int .i64 q')).setCell ⟨(w.heap.size + 1 + 1), 1, none⟩ (.int .i64 h')).setCell ⟨(w.heap.size + 1 + 1), 2, none⟩ (.int .i64 a')).setCell ⟨(w.heap.size + 1 + 1), 3, none⟩ (.slice A' ts'.length c')).setCell ⟨(w.heap.size + 1 + 1), 4, none⟩ (.slice B' us'.length d')).setCell ⟨(w.heap.size + 1 + 1), 5, none⟩ (.slice C' os'.length k') = wf at *
    have x0 : wf.cell? ⟨(w.heap.size + 1 + 1), 0, none⟩ = some (.int .i64 q') := dB.cell 0
    have x1 : wf.cell? ⟨(w.heap.size + 1 + 1), 1, none⟩ = some (.int .i64 h') := dB.cell 1
    have x2 : wf.cell? ⟨(w.heap.size + 1 + 1), 2, none⟩ = some (.int .i64 a') := dB.cell 2
    have x3 : wf.cell? ⟨(w.heap.size + 1 + 1), 3, none⟩ = some (.slice A' ts'.length c') := dB.cell 3
    have x4 : wf.cell? ⟨(w.heap.size + 1 + 1), 4, none⟩ = some (.slice B' us'.length d') := dB.cell 4
    have x5 : wf.cell? ⟨(w.heap.size + 1 + 1), 5, none⟩ = some (.slice C' os'.length k') := dB.cell 5
    have hRf : FmR wf w.heap.size ⟨q', h', a', FW', FR', os'⟩ A' c' ts' B' d' us' C' k' := ⟨(hR'.1.far d2 (by decide) (by decide) kS).mono y1.size, hR'.2⟩
    have hres : NewFmI3 w (⟨q', h', a', FW', FR', os'⟩, kd, 0) (.returned (.tuple #[.agg #[.int .i64 q', .int .i64 h', .int .i64 a', .slice A' ts'.length c', .slice B' us'.length d', .slice C' os'.length k'], .int .i64 kd, .int .i64 0])) wf := ⟨A', c', ts', B', d', us', C', k', rfl, hRf, yS _ _ y3 (by omega)⟩
    exact bodyPost_ret (v := .tuple #[.agg #[.int .i64 q', .int .i64 h', .int .i64 a', .slice A' ts'.length c', .slice B' us'.length d', .slice C' os'.length k'], .int .i64 kd, .int .i64 0]) (by simp [results, Try.results16, go_sem, x0, x1, x2, x3, x4, x5]) rfl hres
end Go.Proofs.Ytbpofkggoolmpaa

/-
  Contract of the reference's l27Shift: a machine on a word until the head leaves it.
-/
namespace Go.Proofs.Ytbpofkggoolmpaa
open Go.RowKit

set_option maxRecDepth 100000 in
set_option maxHeartbeats 4000000 in
theorem l27Shift_any (g : Nat) (sy st : Int) (A0 : Option Addr) (n0 k0 : Nat) (rs : List R3) (q : Int) (A : Option Addr) (n c : Nat) (ws : List Int) (side : Int) (w : World) (hmm : MachAt w g sy st A0 n0 k0) (hr : S3 w A0 n0 rs) (hx : SI w A n ws) (hm : machB sy st rs = true) (hq0 : 0 ≤ q) (hq1 : q ≤ st - 1) (hws : ∀ x ∈ ws, 0 ≤ x ∧ x ≤ sy - 1) (hn : n ≤ 1048576) (hn1 : 1 ≤ n) (hside : side = 1 ∨ side = -1) :
    Calls Try.prog 253 #[.pointer (some ⟨g, 0, none⟩), .int .i64 q, .slice A n c, .int .i64 side] w (ShiftP w (shiftF sy rs q ws side)) := by
  obtain ⟨res, hres⟩ : ∃ res, res = shiftF sy rs q ws side := ⟨_, rfl⟩
  rw [← hres]
  have hwl : ws.length = n := hx.len
  have HWL := Lib.hid hwl
  have HRES := Lib.hid hres
  have HWS := Lib.hid hws
  have HM := Lib.hid hm
  obtain ⟨s1, s2, s3, s4⟩ := machB_bounds hm
  have hrn : rs.length = n0 := hr.len
  have hl2 := machB_len2 hm
  obtain ⟨_, b0, off0, _, _, rfl, bb0, _, _, _⟩ := hr.pick (k := 0) (by omega)
  have HR := Lib.hid hr
  have HRN := Lib.hid hrn
  clear hres hws hm hr hrn hl2 hwl
  have hgl := hmm.lt
  have HMM := Lib.hid hmm
  clear hmm
  rcases hside with hs | hs
  case' inl =>
    subst hs
    go_enter Try.func253, Try.ntmps253
    go_wp2_with (go_at_call 173; refine (l00Own_any _ _ _ ws _ hx (by omega)).mono ?_; rintro e W1 ⟨A1, c1, rfl, o1, z1⟩; rw [HWL.out] at o1 ⊢)
    obtain ⟨bb, off, rfl, hbb, hbb2, _, _⟩ := o1.at_ (k := 0) (by have := HWL.out; simp [ints]; omega)
    obtain ⟨sd, hsd⟩ : ∃ sd : Int, sd = 1 := ⟨_, rfl⟩
    have HSD := Lib.hid hsd
    clear hsd
    have HST : Hid (ShS w sy st rs q sd n (some ⟨bb, off, none⟩) c1 res 0 0 q W1) := Lib.hid ⟨ws, 0, HWL.out, rfl, by omega, hq0, hq1, HWS.out, o1, by rw [HRES.out, HSD.out]; rfl, z1⟩
  case' inr =>
    subst hs
    have wn : IntKind.i64.wrap ((n : Int) - 1) = (n : Int) - 1 := IntWalk.i64_in _ (by omega)
    go_enter Try.func253, Try.ntmps253
    go_wp2_with (go_at_call 173; refine (l00Own_any _ _ _ ws _ hx (by omega)).mono ?_; rintro e W1 ⟨A1, c1, rfl, o1, z1⟩; rw [HWL.out] at o1 ⊢)
    obtain ⟨bb, off, rfl, hbb, hbb2, _, _⟩ := o1.at_ (k := 0) (by have := HWL.out; simp [ints]; omega)
    obtain ⟨sd, hsd⟩ : ∃ sd : Int, sd = -1 := ⟨_, rfl⟩
    have HSD := Lib.hid hsd
    clear hsd
    have HST : Hid (ShS w sy st rs q sd n (some ⟨bb, off, none⟩) c1 res 0 ((n : Int) - 1) q W1) := Lib.hid ⟨ws, n - 1, HWL.out, by omega, by omega, hq0, hq1, HWS.out, o1, by rw [HRES.out, HSD.out]; unfold shiftF startAt; rw [if_pos rfl, HWL.out, show ((n : Int) - 1) = ((n - 1 : Nat) : Int) by omega], z1⟩
  all_goals
    clear hx
    go_loopw [12, 13, 14] (fun s12 s13 s14 wr => ∃ (j : Nat) (at_ now : Int), j ≤ 200 ∧ s14 = .int .i64 ((j : Int) + 1) ∧ s12 = .int .i64 at_ ∧ s13 = .int .i64 now ∧ Hid (ShS w sy st rs q sd n (some ⟨bb, off, none⟩) c1 res j at_ now wr)) (fun _ _ s14 _ => 201 - (intOf s14).toNat)
    case atStart => exact ⟨0, _, _, by omega, rfl, rfl, rfl, HST⟩
    case round =>
      obtain ⟨j, at_, now, hj, rfl, rfl, rfl, HS⟩ := hrel
      obtain ⟨xs, aN, hxl, hat, haN, hn0, hn1', hxs, ho, hgo, zw⟩ := HS.out
      subst hat
      have HXL := Lib.hid hxl
      have HGO := Lib.hid hgo
      clear hxl hgo HS
      by_cases hlt : j < 200
      rotate_left
      · obtain rfl : j = 200 := by omega
        have HN : Hid (res = none) := Lib.hid (by rw [HGO.out]; rfl)
        clear HGO hxs ho
        go_wp2_with fail
        exact bodyPost_ret (v := .tuple #[.slice none 0 0, .int .i64 0, .int .i64 3]) (by simp [results, Try.results253, go_sem]) rfl (.inr ⟨3, HN.out, by decide, rfl, zw⟩)
      have hji : (j : Int) + 1 ≤ 200 := by omega
      obtain ⟨x, hx⟩ : ∃ x, x = xs.getD aN 0 := ⟨_, rfl⟩
      have hax : aN < xs.length := by rw [HXL.out]; exact haN
      have hx01 : 0 ≤ x ∧ x ≤ sy - 1 := hxs x (by rw [hx, List.getD_eq_getElem?_getD, List.getElem?_eq_getElem hax]; exact List.getElem_mem hax)
      have HXX : Hid (∀ W', Own W' w.heap.size 2 1 (some ⟨bb, off, none⟩) n c1 (ints xs) → W'.cell? ⟨bb, off + aN, none⟩ = some (.int .i64 x) ∧ W'.frozen? ⟨bb, off + aN, none⟩ = false) := Lib.hid (fun W' h => by
        obtain ⟨bb', off', he, _, _, hc, hf⟩ := h.at_ (k := aN) (by simp [ints]; exact hax)
        cases he
        refine ⟨?_, hf⟩
        rw [hc, hx, List.getD_eq_getElem?_getD, List.getElem?_eq_getElem hax]
        simp [ints])
      obtain ⟨idx, hidx, hil, hget, p0, p1, hv⟩ := rule_parts HM.out hn0 hn1' hx01.1 hx01.2
      obtain ⟨r', b2, off2, hr', _, he2, _, c0_, c1_, c2_⟩ := (HR.out.below zw).pick (k := idx) (by rw [← HRN.out]; exact hil)
      cases he2
      obtain rfl : ruleAt sy rs now x = r' := by have e2 := hr'.out; rw [hget] at e2; exact Option.some.inj e2
      have HGN := Lib.hid (HGO.out.trans (shiftGo_next hlt (by rw [← hx])))
      rw [HXL.out] at HGN
      clear HGO hget hr' hx
      generalize ruleAt sy rs now x = r at *
      have hilt : idx < n0 := by rw [← HRN.out]; exact hil
      have wmul : IntKind.i64.wrap (now * sy) = now * sy := IntWalk.i64_in _ (by omega)
      have wadd : IntKind.i64.wrap (now * sy + x) = (idx : Int) := by rw [hidx]; exact IntWalk.i64_in _ (by omega)
      have i1 : (0 : Int) ≤ (idx : Int) := by omega
      have i2 : (idx : Int) < (n0 : Int) := by omega
      have a1 : (0 : Int) ≤ (aN : Int) := by omega
      have a2 : (aN : Int) < (n : Int) := by omega
      have hbbr : bb < wr.heap.size := ho.blk_lt bb rfl
      obtain ⟨hm0, hm1, hm2⟩ := HMM.out.below zw
      have hglr : g < wr.heap.size := by have := zw.size; omega
      have KS : Hid (∀ W', Below wr.heap.size wr W' → W'.cell? ⟨g, 2, none⟩ = some (.slice (some ⟨b0, off0, none⟩) n0 k0) ∧ W'.cell? ⟨g, 0, none⟩ = some (.int .i64 sy) ∧ W'.cell? ⟨bb, off + aN, none⟩ = some (.int .i64 x) ∧ W'.cell? ⟨b0, off0 + idx * 3, none⟩ = some (.int .i64 r.a) ∧ W'.cell? ⟨b0, off0 + idx * 3 + 1, none⟩ = some (.int .i64 r.b) ∧ W'.cell? ⟨b0, off0 + idx * 3 + 2, none⟩ = some (.int .i64 r.c)) := Lib.hid (fun W' h => by
        have hb0 : b0 < wr.heap.size := by have := zw.size; omega
        exact ⟨(h.cell (p := ⟨g, _, none⟩) hglr).trans hm2, (h.cell (p := ⟨g, _, none⟩) hglr).trans hm0, (HXX.out _ (ho.below h)).1, (h.cell (p := ⟨b0, _, none⟩) hb0).trans c0_, (h.cell (p := ⟨b0, _, none⟩) hb0).trans c1_, (h.cell (p := ⟨b0, _, none⟩) hb0).trans c2_⟩)
      clear c0_ c1_ c2_ hidx p0 p1 hm0 hm1 hm2
      go_upto_region 9 with fail
      have hp : Below wr.heap.size wr wr.drew := below_drewN (Below.refl _ _) 1
      refine wp_region_noPanic ?_
      refine wp_region_held_drew (S := (fun w' => w'.cell? ⟨g, 2, none⟩ = some (.slice (some ⟨b0, off0, none⟩) n0 k0) ∧ w'.cell? ⟨g, 0, none⟩ = some (.int .i64 sy) ∧ w'.cell? ⟨bb, off + aN, none⟩ = some (.int .i64 x) ∧ w'.cell? ⟨b0, off0 + idx * 3, none⟩ = some (.int .i64 r.a) ∧ w'.cell? ⟨b0, off0 + idx * 3 + 1, none⟩ = some (.int .i64 r.b) ∧ w'.cell? ⟨b0, off0 + idx * 3 + 2, none⟩ = some (.int .i64 r.c))) (by kernel_rfl) ?_ (fun hHeld => ?_)
      · exact KS.out _ hp
      generalize wr.drew = Wc at *
      refine wpAnyH_take (i := 0) (v := ?_) rfl (by kernel_rfl) (by kernel_rfl) (by kernel_rfl) (fun _ _ _ h => h) (Or.inl ⟨by rfl, ?_⟩) (by assumption) ?_
      rotate_left
      · intro w hSw
        try dsimp only at hSw
        obtain ⟨hs0_, hs1_, hs2_, hs3_, hs4_, hs5_⟩ := hSw
        go_simp
        try with_reducible rfl
      try simp only [Act.put, List.setIfInBounds_toArray]
      refine wpAnyH_take (i := 1) (v := ?_) rfl (by kernel_rfl) (by kernel_rfl) (by kernel_rfl) (fun _ _ _ h => h) (Or.inl ⟨by rfl, ?_⟩) (by assumption) ?_
      rotate_left
      · intro w hSw
        try dsimp only at hSw
        obtain ⟨hs0_, hs1_, hs2_, hs3_, hs4_, hs5_⟩ := hSw
        go_simp
        try with_reducible rfl
      try simp only [Act.put]
      refine wpAnyH_take (i := 2) (v := ?_) rfl (by kernel_rfl) (by kernel_rfl) (by kernel_rfl) (fun _ _ _ h => h) (Or.inl ⟨by rfl, ?_⟩) (by assumption) ?_
      rotate_left
      · intro w hSw
        try dsimp only at hSw
        obtain ⟨hs0_, hs1_, hs2_, hs3_, hs4_, hs5_⟩ := hSw
        go_simp
        try with_reducible rfl
      try simp only [Act.put]
      refine wpAnyH_take (i := 3) (v := ?_) rfl (by kernel_rfl) (by kernel_rfl) (by kernel_rfl) (fun _ _ _ h => h) (Or.inl ⟨by rfl, ?_⟩) (by assumption) ?_
      rotate_left
      · intro w hSw
        try dsimp only at hSw
        obtain ⟨hs0_, hs1_, hs2_, hs3_, hs4_, hs5_⟩ := hSw
        go_simp
        try with_reducible rfl
      try simp only [Act.put]
      refine wpAnyH_take (i := 4) (v := ?_) rfl (by kernel_rfl) (by kernel_rfl) (by kernel_rfl) (fun _ _ _ h => h) (Or.inl ⟨by rfl, ?_⟩) (by assumption) ?_
      rotate_left
      · intro w hSw
        try dsimp only at hSw
        obtain ⟨hs0_, hs1_, hs2_, hs3_, hs4_, hs5_⟩ := hSw
        go_simp
        try with_reducible rfl
      try simp only [Act.put]
      refine wpAnyH_take (i := 5) (v := ?_) rfl (by kernel_rfl) (by kernel_rfl) (by kernel_rfl) (fun _ _ _ h => h) (Or.inl ⟨by rfl, ?_⟩) (by assumption) ?_
      rotate_left
      · intro w hSw
        try dsimp only at hSw
        obtain ⟨hs0_, hs1_, hs2_, hs3_, hs4_, hs5_⟩ := hSw
        go_simp
        try with_reducible rfl
      try simp only [Act.put]
      refine wpAnyH_take (i := 6) (v := ?_) rfl (by kernel_rfl) (by kernel_rfl) (by kernel_rfl) (fun _ _ _ h => h) (Or.inl ⟨by rfl, ?_⟩) (by assumption) ?_
      rotate_left
      · intro w hSw
        try dsimp only at hSw
        obtain ⟨hs0_, hs1_, hs2_, hs3_, hs4_, hs5_⟩ := hSw
        go_simp
        try with_reducible rfl
      try simp only [Act.put]
      refine wpAnyH_take (i := 7) (v := ?_) rfl (by kernel_rfl) (by kernel_rfl) (by kernel_rfl) (fun _ _ _ h => h) (Or.inl ⟨by rfl, ?_⟩) (by assumption) ?_
      rotate_left
      · intro w hSw
        try dsimp only at hSw
        obtain ⟨hs0_, hs1_, hs2_, hs3_, hs4_, hs5_⟩ := hSw
        go_simp
        try with_reducible rfl
      try simp only [Act.put]
      refine wpAnyH_take (i := 8) (v := ?_) rfl (by kernel_rfl) (by kernel_rfl) (by kernel_rfl) (fun _ _ _ h => h) (Or.inl ⟨by rfl, ?_⟩) (by assumption) ?_
      rotate_left
      · intro w hSw
        try dsimp only at hSw
        obtain ⟨hs0_, hs1_, hs2_, hs3_, hs4_, hs5_⟩ := hSw
        go_simp
        try with_reducible rfl
      try simp only [Act.put]
      refine wpAnyH_take (i := 9) (v := ?_) rfl (by kernel_rfl) (by kernel_rfl) (by kernel_rfl) (fun _ _ _ h => h) (Or.inl ⟨by rfl, ?_⟩) (by assumption) ?_
      rotate_left
      · intro w hSw
        try dsimp only at hSw
        obtain ⟨hs0_, hs1_, hs2_, hs3_, hs4_, hs5_⟩ := hSw
        go_simp
        try with_reducible rfl
      try simp only [Act.put]
      refine wpAnyH_take (i := 10) (v := ?_) rfl (by kernel_rfl) (by kernel_rfl) (by kernel_rfl) (fun _ _ _ h => h) (Or.inl ⟨by rfl, ?_⟩) (by assumption) ?_
      rotate_left
      · intro w hSw
        try dsimp only at hSw
        obtain ⟨hs0_, hs1_, hs2_, hs3_, hs4_, hs5_⟩ := hSw
        go_simp
        try with_reducible rfl
      try simp only [Act.put]
      refine wpAnyH_take (i := 11) (v := ?_) rfl (by kernel_rfl) (by kernel_rfl) (by kernel_rfl) (fun _ _ _ h => h) (Or.inl ⟨by rfl, ?_⟩) (by assumption) ?_
      rotate_left
      · intro w hSw
        try dsimp only at hSw
        obtain ⟨hs0_, hs1_, hs2_, hs3_, hs4_, hs5_⟩ := hSw
        go_simp
        try with_reducible rfl
      try simp only [Act.put]
      refine wpAnyH_take (i := 12) (v := ?_) rfl (by kernel_rfl) (by kernel_rfl) (by kernel_rfl) (fun _ _ _ h => h) (Or.inl ⟨by rfl, ?_⟩) (by assumption) ?_
      rotate_left
      · intro w hSw
        try dsimp only at hSw
        obtain ⟨hs0_, hs1_, hs2_, hs3_, hs4_, hs5_⟩ := hSw
        go_simp
        try with_reducible rfl
      try simp only [Act.put]
      refine wpAnyH_take (i := 13) (v := ?_) rfl (by kernel_rfl) (by kernel_rfl) (by kernel_rfl) (fun _ _ _ h => h) (Or.inl ⟨by rfl, ?_⟩) (by assumption) ?_
      rotate_left
      · intro w hSw
        try dsimp only at hSw
        obtain ⟨hs0_, hs1_, hs2_, hs3_, hs4_, hs5_⟩ := hSw
        go_simp
        try with_reducible rfl
      try simp only [Act.put]
      refine wpAnyH_take (i := 14) (v := ?_) rfl (by kernel_rfl) (by kernel_rfl) (by kernel_rfl) (fun _ _ _ h => h) (Or.inl ⟨by rfl, ?_⟩) (by assumption) ?_
      rotate_left
      · intro w hSw
        try dsimp only at hSw
        obtain ⟨hs0_, hs1_, hs2_, hs3_, hs4_, hs5_⟩ := hSw
        go_simp
        try with_reducible rfl
      try simp only [Act.put]
      refine wpAnyH_take (i := 15) (v := ?_) rfl (by kernel_rfl) (by kernel_rfl) (by kernel_rfl) (fun _ _ _ h => h) (Or.inl ⟨by rfl, ?_⟩) (by assumption) ?_
      rotate_left
      · intro w hSw
        try dsimp only at hSw
        obtain ⟨hs0_, hs1_, hs2_, hs3_, hs4_, hs5_⟩ := hSw
        go_simp
        try with_reducible rfl
      try simp only [Act.put]
      refine wpAnyH_take (i := 16) (v := ?_) rfl (by kernel_rfl) (by kernel_rfl) (by kernel_rfl) (fun _ _ _ h => h) (Or.inl ⟨by rfl, ?_⟩) (by assumption) ?_
      rotate_left
      · intro w hSw
        try dsimp only at hSw
        obtain ⟨hs0_, hs1_, hs2_, hs3_, hs4_, hs5_⟩ := hSw
        go_simp
        try with_reducible rfl
      try simp only [Act.put]
      try simp only [List.getElem_toArray, List.getElem_cons_zero, List.getElem_cons_succ, List.setIfInBounds_toArray, List.set_cons_zero, List.set_cons_succ]
      refine wpAnyH_ready (rs := [17]) (by kernel_rfl) (by simp) ?_
      refine AllReadyH.cons rfl (fun K hK => ?_) ?_
      · go_simp
        obtain ⟨Wn, g13, hWn, hg, z, h13, l13, hp2⟩ := alloc_pack3 hp hp.size #[.int .i64 0, .int .i64 0, .int .i64 0] 229
        rw [hWn, ← hg]
        replace hp := hp2
        clear hWn hg z hp2
        refine hK.out _ _ ?_ (fun hHeld => ?_)
        · first | exact KS.out _ hpf | exact KS.out _ hp
        clear hK K
        try simp only [Act.put, List.setIfInBounds_toArray, List.set_cons_zero, List.set_cons_succ]
        try simp only [putAll, markAll, dstAt, Act.put, List.getElem_toArray, List.getElem?_toArray, List.getElem_cons_zero, List.getElem_cons_succ, List.getElem?_cons_zero, List.getElem?_cons_succ, Option.bind_some, List.setIfInBounds_toArray, List.set_cons_zero, List.set_cons_succ]
        refine wpAnyH_ready (rs := [18]) (by kernel_rfl) (by simp) ?_
        refine AllReadyH.cons rfl (fun K hK => ?_) ?_
        · skip
          have x0 : Wn.cell? ⟨g13, 0, none⟩ = some (.int .i64 0) := h13.cell 0
          have x1 : Wn.cell? ⟨g13, 1, none⟩ = some (.int .i64 0) := h13.cell 1
          have x2 : Wn.cell? ⟨g13, 2, none⟩ = some (.int .i64 0) := h13.cell 2
          have f0 := h13.frozen 0
          have f1 := h13.frozen 1
          have f2 := h13.frozen 2
          go_simp
          clear x0 x1 x2 f0 f1 f2
          have dB : Blk (((Wn.setCell ⟨g13, 0, none⟩ (.int .i64 r.a)).setCell ⟨g13, 1, none⟩ (.int .i64 r.b)).setCell ⟨g13, 2, none⟩ (.int .i64 r.c)) g13 229 #[.int .i64 r.a, .int .i64 r.b, .int .i64 r.c] := (((h13).set_ 0 (.int .i64 r.a)).set_ 1 (.int .i64 r.b)).set_ 2 (.int .i64 r.c)
          have yS : ∀ (lo : Nat) (w0 : World), Below lo w0 Wn → lo ≤ g13 → Below lo w0 (((Wn.setCell ⟨g13, 0, none⟩ (.int .i64 r.a)).setCell ⟨g13, 1, none⟩ (.int .i64 r.b)).setCell ⟨g13, 2, none⟩ (.int .i64 r.c)) := fun lo w0 h hl => (((h.setCell hl _).setCell hl _).setCell hl _)
          have kS : ∀ k, k ≠ g13 → (((Wn.setCell ⟨g13, 0, none⟩ (.int .i64 r.a)).setCell ⟨g13, 1, none⟩ (.int .i64 r.b)).setCell ⟨g13, 2, none⟩ (.int .i64 r.c)).heap[k]? = Wn.heap[k]? := fun k hk => ((Below.heap_setCell _ _ _ _ hk).trans ((Below.heap_setCell _ _ _ _ hk).trans (Below.heap_setCell _ _ _ _ hk)))
          generalize ((Wn.setCell ⟨g13, 0, none⟩ (.int .i64 r.a)).setCell ⟨g13, 1, none⟩ (.int .i64 r.b)).setCell ⟨g13, 2, none⟩ (.int .i64 r.c) = wf at *
          have hpf := yS _ _ hp l13
          refine hK.out _ _ ?_ (fun hHeld => ?_)
          · first | exact KS.out _ hpf | exact KS.out _ hp
          clear hK K
          try simp only [Act.put, List.setIfInBounds_toArray]
          refine wpAnyH_done (by kernel_rfl) ?_ _
          refine NoPanic.normal ?_
          clear KS
          obtain ⟨ra, rb, rc⟩ := r
          dsimp only at dB hv
          have zwf := zw.trans (hpf.mono zw.size)
          have ho7 := ho.below hpf
          have hgb : g13 ≠ bb := by omega
          cases hru : isRuleB ⟨ra, rb, rc⟩
          · have HN : Hid (res = none) := Lib.hid (by rw [HGN.out, hru]; rfl)
            have hz : ra = 0 ∧ rb = 0 ∧ rc = -1 := by
              unfold isRuleB at hru
              simpa using hru
            obtain ⟨rfl, rfl, rfl⟩ := hz
            clear hru HGN
            go_upto_region 10 with fail
            have hp7 : Below wf.heap.size wf wf.drew := below_drewN (Below.refl _ _) 1
            refine wp_region_noPanic ?_
            refine wp_region_held_drew (S := (fun w' => w'.cell? ⟨g13, 0, none⟩ = some (.int .i64 0) ∧ w'.cell? ⟨g13, 1, none⟩ = some (.int .i64 0) ∧ w'.cell? ⟨g13, 2, none⟩ = some (.int .i64 (-1)))) (by kernel_rfl) ?_ (fun hHeld => ?_)
            · exact ⟨(dB.below' hp7).cell 0, (dB.below' hp7).cell 1, (dB.below' hp7).cell 2⟩
            generalize wf.drew = Wd at *
            refine wpAnyH_take (i := 0) (v := ?_) rfl (by kernel_rfl) (by kernel_rfl) (by kernel_rfl) (fun _ _ _ h => h) (Or.inl ⟨by rfl, ?_⟩) (by assumption) ?_
            rotate_left
            · intro w hSw
              try dsimp only at hSw
              obtain ⟨hs0_, hs1_, hs2_⟩ := hSw
              go_simp
              try with_reducible rfl
            try simp only [Act.put, List.setIfInBounds_toArray]
            try simp only [List.getElem_toArray, List.getElem_cons_zero, List.set_cons_zero, List.set_cons_succ]
            refine wpAnyH_ready (rs := [1]) (by kernel_rfl) (by simp) ?_
            refine AllReadyH.cons rfl (fun K hK => ?_) ?_
            · go_simp
              refine (l05None_any _).mono ?_
              rintro e W7 ⟨rfl, z7⟩
              replace hp7 := hp7.trans (z7.mono hp7.size)
              refine hK.out _ _ ?_ (fun hHeld => ?_)
              · exact ⟨(dB.below' hp7).cell 0, (dB.below' hp7).cell 1, (dB.below' hp7).cell 2⟩
              clear hK K
              try simp only [Act.put, List.setIfInBounds_toArray, List.set_cons_zero, List.set_cons_succ]
              try simp only [putAll, markAll, dstAt, Act.put, List.getElem_toArray, List.getElem?_toArray, List.getElem_cons_zero, List.getElem_cons_succ, List.getElem?_cons_zero, List.getElem?_cons_succ, Option.bind_some, List.setIfInBounds_toArray, List.set_cons_zero, List.set_cons_succ]
              refine wpAnyH_ready (rs := [2]) (by kernel_rfl) (by simp) ?_
              refine AllReadyH.cons rfl (fun K hK => ?_) ?_
              · go_simp
                refine hK.out _ _ ?_ (fun hHeld => ?_)
                · exact ⟨(dB.below' hp7).cell 0, (dB.below' hp7).cell 1, (dB.below' hp7).cell 2⟩
                clear hK K
                try simp only [Act.put, List.setIfInBounds_toArray, List.set_cons_zero, List.set_cons_succ]
                refine wpAnyH_done (by kernel_rfl) ?_ _
                refine NoPanic.normal ?_
                go_wp2_with fail
                exact bodyPost_ret (v := .tuple #[.slice none 0 0, .int .i64 0, .int .i64 6]) (by simp [results, Try.results253, go_sem]) rfl (.inr ⟨6, HN.out, by decide, rfl, zwf.trans (hp7.mono zwf.size)⟩)
              exact AllReadyH.nil
            exact AllReadyH.nil
          have hvv := hv
          unfold validRuleB at hvv
          rw [hru] at hvv
          simp only [Bool.not_true, Bool.false_or, Bool.and_eq_true, Bool.or_eq_true, beq_iff_eq, inB_iff] at hvv
          obtain ⟨⟨⟨ra0, ra1⟩, hrb⟩, rc0, rc1⟩ := hvv
          have HRB := Lib.hid hrb
          have d0 : (rb == 0) = false := by rw [beq_eq_false_iff_ne]; omega
          rw [hru] at HGN
          clear hru hrb hv
          go_upto_region 10 with fail
          have hp7 : Below wf.heap.size wf wf.drew := below_drewN (Below.refl _ _) 1
          refine wp_region_noPanic ?_
          refine wp_region_held_drew (S := (fun w' => w'.cell? ⟨g13, 0, none⟩ = some (.int .i64 ra) ∧ w'.cell? ⟨g13, 1, none⟩ = some (.int .i64 rb) ∧ w'.cell? ⟨g13, 2, none⟩ = some (.int .i64 rc))) (by kernel_rfl) ?_ (fun hHeld => ?_)
          · exact ⟨(dB.below' hp7).cell 0, (dB.below' hp7).cell 1, (dB.below' hp7).cell 2⟩
          generalize wf.drew = Wd at *
          refine wpAnyH_take (i := 0) (v := ?_) rfl (by kernel_rfl) (by kernel_rfl) (by kernel_rfl) (fun _ _ _ h => h) (Or.inl ⟨by rfl, ?_⟩) (by assumption) ?_
          rotate_left
          · intro w hSw
            try dsimp only at hSw
            obtain ⟨hs0_, hs1_, hs2_⟩ := hSw
            go_simp
            try with_reducible rfl
          try simp only [Act.put, List.setIfInBounds_toArray]
          try simp only [List.getElem_toArray, List.getElem_cons_zero, List.set_cons_zero, List.set_cons_succ]
          refine wpAnyH_ready (rs := [1]) (by kernel_rfl) (by simp) ?_
          refine AllReadyH.cons rfl (fun K hK => ?_) ?_
          · go_simp
            refine (l05None_any _).mono ?_
            rintro e W7 ⟨rfl, z7⟩
            replace hp7 := hp7.trans (z7.mono hp7.size)
            refine hK.out _ _ ?_ (fun hHeld => ?_)
            · exact ⟨(dB.below' hp7).cell 0, (dB.below' hp7).cell 1, (dB.below' hp7).cell 2⟩
            clear hK K
            try simp only [Act.put, List.setIfInBounds_toArray, List.set_cons_zero, List.set_cons_succ]
            try simp only [putAll, markAll, dstAt, Act.put, List.getElem_toArray, List.getElem?_toArray, List.getElem_cons_zero, List.getElem_cons_succ, List.getElem?_cons_zero, List.getElem?_cons_succ, Option.bind_some, List.setIfInBounds_toArray, List.set_cons_zero, List.set_cons_succ]
            refine wpAnyH_ready (rs := [2]) (by kernel_rfl) (by simp) ?_
            refine AllReadyH.cons rfl (fun K hK => ?_) ?_
            · go_simp
              refine hK.out _ _ ?_ (fun hHeld => ?_)
              · exact ⟨(dB.below' hp7).cell 0, (dB.below' hp7).cell 1, (dB.below' hp7).cell 2⟩
              clear hK K
              try simp only [Act.put, List.setIfInBounds_toArray, List.set_cons_zero, List.set_cons_succ]
              refine wpAnyH_done (by kernel_rfl) ?_ _
              refine NoPanic.normal ?_
              have ho3 := ho7.below hp7
              have dB3 := dB.below' hp7
              have zw3 := zwf.trans (hp7.mono zwf.size)
              obtain ⟨hc3, hf3⟩ := HXX.out _ ho3
              have e0 : W7.cell? ⟨g13, 0, none⟩ = some (.int .i64 ra) := dB3.cell 0
              have e1 : W7.cell? ⟨g13, 1, none⟩ = some (.int .i64 rb) := dB3.cell 1
              have e2 : W7.cell? ⟨g13, 2, none⟩ = some (.int .i64 rc) := dB3.cell 2
              go_upto_region 13 with fail
              have ho4 := ho3.set_ (k := aN) (by simp [ints]; exact hax) (.int .i64 ra)
              have dB4 := dB3.far (p := ⟨bb, off + aN, none⟩) hgb (.int .i64 ra)
              have z34 : Below w.heap.size w (W7.setCell ⟨bb, off + aN, none⟩ (.int .i64 ra)) := zw3.setCell hbb _
              have hxs4 : ∀ y ∈ xs.set aN ra, 0 ≤ y ∧ y ≤ sy - 1 := fun y hy => (List.mem_or_eq_of_mem_set hy).elim (hxs y) (fun e => by rw [e]; exact ⟨ra0, ra1⟩)
              have ho5 : Own (W7.setCell ⟨bb, off + aN, none⟩ (.int .i64 ra)) w.heap.size 2 1 (some ⟨bb, off, none⟩) n c1 (ints (xs.set aN ra)) := by simpa [ints] using ho4
              clear ho4 ho3 ho hc3 hf3 dB3 HXX hxs e0 e1 e2 hpf zwf hp7 zw dB ho7
              generalize W7.setCell ⟨bb, off + aN, none⟩ (.int .i64 ra) = W4 at *
              have e0 : W4.cell? ⟨g13, 0, none⟩ = some (.int .i64 ra) := dB4.cell 0
              have e1 : W4.cell? ⟨g13, 1, none⟩ = some (.int .i64 rb) := dB4.cell 1
              have e2 : W4.cell? ⟨g13, 2, none⟩ = some (.int .i64 rc) := dB4.cell 2
              obtain ⟨at2, hat2⟩ : ∃ at2 : Int, at2 = (aN : Int) + rb := ⟨_, rfl⟩
              have waN : IntKind.i64.wrap ((aN : Int) + rb) = at2 := by rw [hat2]; exact IntWalk.i64_in _ (by have := HRB.out; omega)
              have HAT := Lib.hid hat2
              have hb2 : -1 ≤ at2 ∧ at2 ≤ n := by have := HRB.out; omega
              obtain ⟨hb20, hb21⟩ := hb2
              clear hat2
              have wj : IntKind.i64.wrap ((j : Int) + 1) = (j : Int) + 1 := IntWalk.i64_in _ (by omega)
              have HRB2 := HRB.out
              by_cases hl : at2 < 0
              · have hin : inB ((aN : Int) + rb) 0 ((n : Int) - 1) = false := by have := HAT.out; unfold inB; simp; omega
                have hrb1 : rb = -1 := by have := HAT.out; omega
                have HRB1 := Lib.hid hrb1
                have HGM : Hid (res = if rb = sd ∧ rc = q then some (xs.set aN ra) else none) := Lib.hid (by rw [HGN.out, hin]; rfl)
                clear hin hrb1 HGN HRB2
                by_cases g1 : rb = sd
                · first
                  | (exfalso; have h1 := HSD.out; have h2 := HRB1.out; omega)
                  | skip
                  all_goals
                    by_cases g2 : rc = q
                    · have HN : Hid (res = some (xs.set aN ra)) := Lib.hid (by rw [HGM.out, if_pos ⟨g1, g2⟩])
                      have HLS : Hid ((xs.set aN ra).length = n) := Lib.hid (by rw [List.length_set]; exact HXL.out)
                      have d2 : (rc == q) = true := by simp [g2]
                      clear g1 g2 HGM
                      go_wp2_with fail
                      exact bodyPost_ret (v := .tuple #[.slice (some ⟨bb, off, none⟩) n c1, .int .i64 ((j : Int) + 1), .int .i64 0]) (by simp [results, Try.results253, go_sem]) rfl (.inl ⟨_, some ⟨bb, off, none⟩, c1, (j : Int) + 1, HN.out, by rw [HLS.out], by rw [HLS.out]; exact ho5, z34⟩)
                    · have HN : Hid (res = none) := Lib.hid (by rw [HGM.out, if_neg (fun h => g2 h.2)])
                      have d2 : (rc == q) = false := by simp [g2]
                      clear g1 g2 HGM
                      go_wp2_with fail
                      exact bodyPost_ret (v := .tuple #[.slice none 0 0, .int .i64 0, .int .i64 3]) (by simp [results, Try.results253, go_sem]) rfl (.inr ⟨3, HN.out, by decide, rfl, z34⟩)
                · first
                  | (exfalso; have h1 := HSD.out; have h2 := HRB1.out; omega)
                  | skip
                  all_goals
                    have HN : Hid (res = none) := Lib.hid (by rw [HGM.out, if_neg (fun h => g1 h.1)])
                    clear g1 HGM
                    by_cases g2 : rc = q
                    · have d2 : (rc == q) = true := by simp [g2]
                      clear g2
                      go_wp2_with fail
                      exact bodyPost_ret (v := .tuple #[.slice none 0 0, .int .i64 0, .int .i64 3]) (by simp [results, Try.results253, go_sem]) rfl (.inr ⟨3, HN.out, by decide, rfl, z34⟩)
                    · have d2 : (rc == q) = false := by simp [g2]
                      clear g2
                      go_wp2_with fail
                      exact bodyPost_ret (v := .tuple #[.slice none 0 0, .int .i64 0, .int .i64 3]) (by simp [results, Try.results253, go_sem]) rfl (.inr ⟨3, HN.out, by decide, rfl, z34⟩)
              by_cases he : at2 = (n : Int)
              · have hin : inB ((aN : Int) + rb) 0 ((n : Int) - 1) = false := by have := HAT.out; unfold inB; simp; omega
                have hrb1 : rb = 1 := by have := HAT.out; omega
                have HRB1 := Lib.hid hrb1
                have HGM : Hid (res = if rb = sd ∧ rc = q then some (xs.set aN ra) else none) := Lib.hid (by rw [HGN.out, hin]; rfl)
                subst he
                clear hin hrb1 HGN HRB2 HAT
                by_cases g1 : rb = sd
                · first
                  | (exfalso; have h1 := HSD.out; have h2 := HRB1.out; omega)
                  | skip
                  all_goals
                    by_cases g2 : rc = q
                    · have HN : Hid (res = some (xs.set aN ra)) := Lib.hid (by rw [HGM.out, if_pos ⟨g1, g2⟩])
                      have HLS : Hid ((xs.set aN ra).length = n) := Lib.hid (by rw [List.length_set]; exact HXL.out)
                      have d2 : (rc == q) = true := by simp [g2]
                      clear g1 g2 HGM
                      go_wp2_with fail
                      exact bodyPost_ret (v := .tuple #[.slice (some ⟨bb, off, none⟩) n c1, .int .i64 ((j : Int) + 1), .int .i64 0]) (by simp [results, Try.results253, go_sem]) rfl (.inl ⟨_, some ⟨bb, off, none⟩, c1, (j : Int) + 1, HN.out, by rw [HLS.out], by rw [HLS.out]; exact ho5, z34⟩)
                    · have HN : Hid (res = none) := Lib.hid (by rw [HGM.out, if_neg (fun h => g2 h.2)])
                      have d2 : (rc == q) = false := by simp [g2]
                      clear g1 g2 HGM
                      go_wp2_with fail
                      exact bodyPost_ret (v := .tuple #[.slice none 0 0, .int .i64 0, .int .i64 3]) (by simp [results, Try.results253, go_sem]) rfl (.inr ⟨3, HN.out, by decide, rfl, z34⟩)
                · first
                  | (exfalso; have h1 := HSD.out; have h2 := HRB1.out; omega)
                  | skip
                  all_goals
                    have HN : Hid (res = none) := Lib.hid (by rw [HGM.out, if_neg (fun h => g1 h.1)])
                    clear g1 HGM
                    by_cases g2 : rc = q
                    · have d2 : (rc == q) = true := by simp [g2]
                      clear g2
                      go_wp2_with fail
                      exact bodyPost_ret (v := .tuple #[.slice none 0 0, .int .i64 0, .int .i64 3]) (by simp [results, Try.results253, go_sem]) rfl (.inr ⟨3, HN.out, by decide, rfl, z34⟩)
                    · have d2 : (rc == q) = false := by simp [g2]
                      clear g2
                      go_wp2_with fail
                      exact bodyPost_ret (v := .tuple #[.slice none 0 0, .int .i64 0, .int .i64 3]) (by simp [results, Try.results253, go_sem]) rfl (.inr ⟨3, HN.out, by decide, rfl, z34⟩)
              have hin : inB ((aN : Int) + rb) 0 ((n : Int) - 1) = true := by have := HAT.out; unfold inB; simp; omega
              obtain ⟨aM, haM⟩ : ∃ aM : Nat, at2 = (aM : Int) := ⟨at2.toNat, by omega⟩
              have HS2 : Hid (ShS w sy st rs q sd n (some ⟨bb, off, none⟩) c1 res (j + 1) at2 rc W4) := Lib.hid ⟨xs.set aN ra, aM, by rw [List.length_set]; exact HXL.out, haM, by omega, rc0, rc1, hxs4, ho5, by rw [HGN.out, hin, ← haM, HAT.out]; rfl, z34⟩
              clear hin haM HGN HRB2 HAT HRB
              go_wp2_with fail
              exact ⟨⟨j + 1, _, _, by omega, by go_num, rfl, rfl, HS2⟩, by simp [intOf]; omega⟩
            exact AllReadyH.nil
          exact AllReadyH.nil
        exact AllReadyH.nil
      exact AllReadyH.nil
end Go.Proofs.Ytbpofkggoolmpaa
