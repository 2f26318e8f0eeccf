/-
  Contract of the reference's FormulaOf.
-/
import Derived.Test.YtpnkelmmfcmijaaPbHelpFB1
import Derived.Test.YtpnkelmmfcmijaaPbHelpFB6
import Derived.Test.YtpnkelmmfcmijaaPkFormulaOf1
import Derived.Test.YtpnkelmmfcmijaaPkFormulaOf3
import Derived.BigGuardPart
namespace Go.Proofs.Ytpnkelmmfcmijaa
open Go.RowKit Go.Sort

set_option maxRecDepth 100000 in
set_option maxHeartbeats 4000000 in
theorem formulaOfS_any (sy st : Int) (A0 : Option Addr) (n0 k0 : Nat) (rs : List R3) (q : Int) (A : Option Addr) (n c : Nat) (xs : List Int) (B : Option Addr) (m d : Nat) (ts : List Sl) (w : World) (hr : S3 w A0 n0 rs) (hx : SI w A n xs) (hy : SII w B m ts) (hn0 : n0 ≤ 1048576) (hn : n ≤ 1048576) (hm : m ≤ 1048576) (hns : ∀ t ∈ ts, t.xs.length ≤ 1048576) :
    Calls Try.prog 13 #[.agg #[.int .i64 sy, .int .i64 st, .slice A0 n0 k0], .agg #[.int .i64 q, .slice A n c, .slice B m d]] w (NewFmI w (formulaOfF sy st rs q xs (nums ts))) := by
  obtain ⟨res, hres⟩ : ∃ res, res = formulaOfF sy st rs q xs (nums ts) := ⟨_, rfl⟩
  rw [← hres]
  have HRES := Lib.hid hres
  have HNS := Lib.hid hns
  have HR := Lib.hid hr
  have HX := Lib.hid hx
  have HY := Lib.hid hy
  clear hres hns hr hx hy
  obtain ⟨W, hW_⟩ : ∃ W, W = ((w.alloc (.cells #[.int .i64 sy, .int .i64 st, .slice A0 n0 k0] 37)).alloc (.cells #[.int .i64 q, .slice A n c, .slice B m d] 39)).alloc (.cells #[.int .i64 0, .int .i64 0, .int .i64 0, .slice none 0 0, .slice none 0 0, .slice none 0 0] 32) := ⟨_, rfl⟩
  have s_1 : (w.alloc (.cells #[.int .i64 sy, .int .i64 st, .slice A0 n0 k0] 37)).heap.size = w.heap.size + 1 := by simp
  have s_2 : ((w.alloc (.cells #[.int .i64 sy, .int .i64 st, .slice A0 n0 k0] 37)).alloc (.cells #[.int .i64 q, .slice A n c, .slice B m d] 39)).heap.size = w.heap.size + 1 + 1 := by simp
  have b0 : Blk W w.heap.size 37 #[.int .i64 sy, .int .i64 st, .slice A0 n0 k0] := by rw [hW_]; exact ((Blk.new w _ _).alloc _).alloc _
  have b1 : Blk W (w.heap.size + 1) 39 #[.int .i64 q, .slice A n c, .slice B m d] := by rw [hW_, ← s_1]; exact (Blk.new _ _ _).alloc _
  have b2 : Blk W (w.heap.size + 1 + 1) 32 #[.int .i64 0, .int .i64 0, .int .i64 0, .slice none 0 0, .slice none 0 0, .slice none 0 0] := by rw [hW_, ← s_2]; exact Blk.new _ _ _
  have y0 : Below w.heap.size w W := by rw [hW_]; exact (((Below.refl _ _).alloc (Nat.le_refl _) _).alloc (by simp) _).alloc (by simp; omega) _
  have HW := Lib.hid hW_
  clear hW_ s_1 s_2
  have HM := Lib.hid b0.machAt
  have HP := Lib.hid b1.prfAt
  go_enter Try.func13, Try.ntmps13
  go_wp2_with fail
  rw [← HW.out]
  refine (l05Is_any _ _ _ _ _ _ rs _ HM.out (HR.out.below y0) hn0).mono ?_
  rintro e W1 ⟨rfl, z1⟩
  have y1 := y0.trans (z1.mono y0.size)
  have c2 := b2.below' z1
  cases a1 : machB sy st rs
  · have A1 := Lib.hid a1
    clear a1
    obtain rfl : res = (Fm.zero, 1) := by rw [HRES.out]; unfold formulaOfF; rw [A1.out]; rfl
    have x0 : W1.cell? ⟨(w.heap.size + 1 + 1), 0, none⟩ = some (.int .i64 0) := c2.cell 0
    have x1 : W1.cell? ⟨(w.heap.size + 1 + 1), 1, none⟩ = some (.int .i64 0) := c2.cell 1
    have x2 : W1.cell? ⟨(w.heap.size + 1 + 1), 2, none⟩ = some (.int .i64 0) := c2.cell 2
    have x3 : W1.cell? ⟨(w.heap.size + 1 + 1), 3, none⟩ = some (.slice none 0 0) := c2.cell 3
    have x4 : W1.cell? ⟨(w.heap.size + 1 + 1), 4, none⟩ = some (.slice none 0 0) := c2.cell 4
    have x5 : W1.cell? ⟨(w.heap.size + 1 + 1), 5, none⟩ = some (.slice none 0 0) := c2.cell 5
    have f0 := c2.frozen 0
    have f1 := c2.frozen 1
    have f2 := c2.frozen 2
    have f3 := c2.frozen 3
    have f4 := c2.frozen 4
    have f5 := c2.frozen 5
    go_wp2_with fail
    clear x0 x1 x2 x3 x4 x5
    have dB : Blk ((((((W1.setCell ⟨(w.heap.size + 1 + 1), 0, none⟩ (.int .i64 0)).setCell ⟨(w.heap.size + 1 + 1), 1, none⟩ (.int .i64 0)).setCell ⟨(w.heap.size + 1 + 1), 2, none⟩ (.int .i64 0)).setCell ⟨(w.heap.size + 1 + 1), 3, none⟩ (.slice none 0 0)).setCell ⟨(w.heap.size + 1 + 1), 4, none⟩ (.slice none 0 0)).setCell ⟨(w.heap.size + 1 + 1), 5, none⟩ (.slice none 0 0)) (w.heap.size + 1 + 1) 32 #[.int .i64 0, .int .i64 0, .int .i64 0, .slice none 0 0, .slice none 0 0, .slice none 0 0] := fm_set c2 (.int .i64 0) (.int .i64 0) (.int .i64 0) (.slice none 0 0) (.slice none 0 0) (.slice none 0 0)
    have yS : ∀ (lo : Nat) (w0 : World), Below lo w0 W1 → lo ≤ (w.heap.size + 1 + 1) → Below lo w0 ((((((W1.setCell ⟨(w.heap.size + 1 + 1), 0, none⟩ (.int .i64 0)).setCell ⟨(w.heap.size + 1 + 1), 1, none⟩ (.int .i64 0)).setCell ⟨(w.heap.size + 1 + 1), 2, none⟩ (.int .i64 0)).setCell ⟨(w.heap.size + 1 + 1), 3, none⟩ (.slice none 0 0)).setCell ⟨(w.heap.size + 1 + 1), 4, none⟩ (.slice none 0 0)).setCell ⟨(w.heap.size + 1 + 1), 5, none⟩ (.slice none 0 0)) := fun lo w0 h hl => fm_below h hl (.int .i64 0) (.int .i64 0) (.int .i64 0) (.slice none 0 0) (.slice none 0 0) (.slice none 0 0)
    have kS : ∀ k, k ≠ (w.heap.size + 1 + 1) → ((((((W1.setCell ⟨(w.heap.size + 1 + 1), 0, none⟩ (.int .i64 0)).setCell ⟨(w.heap.size + 1 + 1), 1, none⟩ (.int .i64 0)).setCell ⟨(w.heap.size + 1 + 1), 2, none⟩ (.int .i64 0)).setCell ⟨(w.heap.size + 1 + 1), 3, none⟩ (.slice none 0 0)).setCell ⟨(w.heap.size + 1 + 1), 4, none⟩ (.slice none 0 0)).setCell ⟨(w.heap.size + 1 + 1), 5, none⟩ (.slice none 0 0)).heap[k]? = W1.heap[k]? := fun k hk => fm_kept (.int .i64 0) (.int .i64 0) (.int .i64 0) (.slice none 0 0) (.slice none 0 0) (.slice none 0 0) k hk
    generalize (((((W1.setCell ⟨(w.heap.size + 1 + 1), 0, none⟩ (.int .i64 0)).setCell ⟨(w.heap.size + 1 + 1), 1, none⟩ (.int .i64 0)).setCell ⟨(w.heap.size + 1 + 1), 2, none⟩ (.int .i64 0)).setCell ⟨(w.heap.size + 1 + 1), 3, none⟩ (.slice none 0 0)).setCell ⟨(w.heap.size + 1 + 1), 4, none⟩ (.slice none 0 0)).setCell ⟨(w.heap.size + 1 + 1), 5, none⟩ (.slice none 0 0) = wf at *
    have x0 : wf.cell? ⟨(w.heap.size + 1 + 1), 0, none⟩ = some (.int .i64 0) := dB.cell 0
    have x1 : wf.cell? ⟨(w.heap.size + 1 + 1), 1, none⟩ = some (.int .i64 0) := dB.cell 1
    have x2 : wf.cell? ⟨(w.heap.size + 1 + 1), 2, none⟩ = some (.int .i64 0) := dB.cell 2
    have x3 : wf.cell? ⟨(w.heap.size + 1 + 1), 3, none⟩ = some (.slice none 0 0) := dB.cell 3
    have x4 : wf.cell? ⟨(w.heap.size + 1 + 1), 4, none⟩ = some (.slice none 0 0) := dB.cell 4
    have x5 : wf.cell? ⟨(w.heap.size + 1 + 1), 5, none⟩ = some (.slice none 0 0) := dB.cell 5
    have hres : NewFmI w (Fm.zero, 1) (.returned (.tuple #[.agg #[.int .i64 0, .int .i64 0, .int .i64 0, .slice none 0 0, .slice none 0 0, .slice none 0 0], .int .i64 1])) wf := ⟨none, 0, [], none, 0, [], none, 0, rfl, FmR.zero _ _, yS _ _ y1 (by omega)⟩
    exact bodyPost_ret (v := .tuple #[.agg #[.int .i64 0, .int .i64 0, .int .i64 0, .slice none 0 0, .slice none 0 0, .slice none 0 0], .int .i64 1]) (by simp [results, Try.results13, go_sem, x0, x1, x2, x3, x4, x5]) rfl hres
  have A1 := Lib.hid a1
  clear a1
  go_wp2_with fail
  refine (l25Is_any _ _ _ _ _ xs _ _ _ ts _ (HP.out.below z1) (HX.out.below y1) (HY.out.below y1) hn hm HNS.out).mono ?_
  rintro e w' ⟨rfl, rfl⟩
  cases a2 : validProofB q xs (nums ts)
  · have A2 := Lib.hid a2
    clear a2
    obtain rfl : res = (Fm.zero, 1) := by rw [HRES.out]; unfold formulaOfF; rw [A1.out, A2.out]; rfl
    have x0 : W1.cell? ⟨(w.heap.size + 1 + 1), 0, none⟩ = some (.int .i64 0) := c2.cell 0
    have x1 : W1.cell? ⟨(w.heap.size + 1 + 1), 1, none⟩ = some (.int .i64 0) := c2.cell 1
    have x2 : W1.cell? ⟨(w.heap.size + 1 + 1), 2, none⟩ = some (.int .i64 0) := c2.cell 2
    have x3 : W1.cell? ⟨(w.heap.size + 1 + 1), 3, none⟩ = some (.slice none 0 0) := c2.cell 3
    have x4 : W1.cell? ⟨(w.heap.size + 1 + 1), 4, none⟩ = some (.slice none 0 0) := c2.cell 4
    have x5 : W1.cell? ⟨(w.heap.size + 1 + 1), 5, none⟩ = some (.slice none 0 0) := c2.cell 5
    have f0 := c2.frozen 0
    have f1 := c2.frozen 1
    have f2 := c2.frozen 2
    have f3 := c2.frozen 3
    have f4 := c2.frozen 4
    have f5 := c2.frozen 5
    go_wp2_with fail
    clear x0 x1 x2 x3 x4 x5
    have dB : Blk ((((((W1.setCell ⟨(w.heap.size + 1 + 1), 0, none⟩ (.int .i64 0)).setCell ⟨(w.heap.size + 1 + 1), 1, none⟩ (.int .i64 0)).setCell ⟨(w.heap.size + 1 + 1), 2, none⟩ (.int .i64 0)).setCell ⟨(w.heap.size + 1 + 1), 3, none⟩ (.slice none 0 0)).setCell ⟨(w.heap.size + 1 + 1), 4, none⟩ (.slice none 0 0)).setCell ⟨(w.heap.size + 1 + 1), 5, none⟩ (.slice none 0 0)) (w.heap.size + 1 + 1) 32 #[.int .i64 0, .int .i64 0, .int .i64 0, .slice none 0 0, .slice none 0 0, .slice none 0 0] := fm_set c2 (.int .i64 0) (.int .i64 0) (.int .i64 0) (.slice none 0 0) (.slice none 0 0) (.slice none 0 0)
    have yS : ∀ (lo : Nat) (w0 : World), Below lo w0 W1 → lo ≤ (w.heap.size + 1 + 1) → Below lo w0 ((((((W1.setCell ⟨(w.heap.size + 1 + 1), 0, none⟩ (.int .i64 0)).setCell ⟨(w.heap.size + 1 + 1), 1, none⟩ (.int .i64 0)).setCell ⟨(w.heap.size + 1 + 1), 2, none⟩ (.int .i64 0)).setCell ⟨(w.heap.size + 1 + 1), 3, none⟩ (.slice none 0 0)).setCell ⟨(w.heap.size + 1 + 1), 4, none⟩ (.slice none 0 0)).setCell ⟨(w.heap.size + 1 + 1), 5, none⟩ (.slice none 0 0)) := fun lo w0 h hl => fm_below h hl (.int .i64 0) (.int .i64 0) (.int .i64 0) (.slice none 0 0) (.slice none 0 0) (.slice none 0 0)
    have kS : ∀ k, k ≠ (w.heap.size + 1 + 1) → ((((((W1.setCell ⟨(w.heap.size + 1 + 1), 0, none⟩ (.int .i64 0)).setCell ⟨(w.heap.size + 1 + 1), 1, none⟩ (.int .i64 0)).setCell ⟨(w.heap.size + 1 + 1), 2, none⟩ (.int .i64 0)).setCell ⟨(w.heap.size + 1 + 1), 3, none⟩ (.slice none 0 0)).setCell ⟨(w.heap.size + 1 + 1), 4, none⟩ (.slice none 0 0)).setCell ⟨(w.heap.size + 1 + 1), 5, none⟩ (.slice none 0 0)).heap[k]? = W1.heap[k]? := fun k hk => fm_kept (.int .i64 0) (.int .i64 0) (.int .i64 0) (.slice none 0 0) (.slice none 0 0) (.slice none 0 0) k hk
    generalize (((((W1.setCell ⟨(w.heap.size + 1 + 1), 0, none⟩ (.int .i64 0)).setCell ⟨(w.heap.size + 1 + 1), 1, none⟩ (.int .i64 0)).setCell ⟨(w.heap.size + 1 + 1), 2, none⟩ (.int .i64 0)).setCell ⟨(w.heap.size + 1 + 1), 3, none⟩ (.slice none 0 0)).setCell ⟨(w.heap.size + 1 + 1), 4, none⟩ (.slice none 0 0)).setCell ⟨(w.heap.size + 1 + 1), 5, none⟩ (.slice none 0 0) = wf at *
    have x0 : wf.cell? ⟨(w.heap.size + 1 + 1), 0, none⟩ = some (.int .i64 0) := dB.cell 0
    have x1 : wf.cell? ⟨(w.heap.size + 1 + 1), 1, none⟩ = some (.int .i64 0) := dB.cell 1
    have x2 : wf.cell? ⟨(w.heap.size + 1 + 1), 2, none⟩ = some (.int .i64 0) := dB.cell 2
    have x3 : wf.cell? ⟨(w.heap.size + 1 + 1), 3, none⟩ = some (.slice none 0 0) := dB.cell 3
    have x4 : wf.cell? ⟨(w.heap.size + 1 + 1), 4, none⟩ = some (.slice none 0 0) := dB.cell 4
    have x5 : wf.cell? ⟨(w.heap.size + 1 + 1), 5, none⟩ = some (.slice none 0 0) := dB.cell 5
    have hres : NewFmI w (Fm.zero, 1) (.returned (.tuple #[.agg #[.int .i64 0, .int .i64 0, .int .i64 0, .slice none 0 0, .slice none 0 0, .slice none 0 0], .int .i64 1])) wf := ⟨none, 0, [], none, 0, [], none, 0, rfl, FmR.zero _ _, yS _ _ y1 (by omega)⟩
    exact bodyPost_ret (v := .tuple #[.agg #[.int .i64 0, .int .i64 0, .int .i64 0, .slice none 0 0, .slice none 0 0, .slice none 0 0], .int .i64 1]) (by simp [results, Try.results13, go_sem, x0, x1, x2, x3, x4, x5]) rfl hres
  have A2 := Lib.hid a2
  clear a2
  have HLO := Lib.hid (l27Of_any w.heap.size (w.heap.size + 1) sy st A0 n0 k0 rs q A n c xs B m d ts W1 (HM.out.below z1) (HP.out.below z1) (HR.out.below y1) (HX.out.below y1) (HY.out.below y1) hn0 hn hm HNS.out A1.out)
  rw [show (if bounceB q xs (nums ts) then bounceF sy st rs xs (nums ts) else (Fm.zero, 2)) = res by rw [HRES.out]; unfold formulaOfF; rw [A1.out, A2.out]; rfl] at HLO
  go_wp2_with fail
  refine HLO.out.mono ?_
  rintro e W3 ⟨A', c', ts', B', d', us', C', k', cq, L9, a9, i9, R9, b9, j9, rfl, hF, z3⟩
  obtain ⟨W4, hW4⟩ : ∃ W_, W_ = W3.alloc (.cells #[.int .i64 res.1.q, .int .i64 res.1.h, .int .i64 res.1.a, .slice A' ts'.length c', .slice B' us'.length d', .slice C' res.1.O.length k'] 32) := ⟨_, rfl⟩
  have b4 : Blk W4 W3.heap.size 32 #[.int .i64 res.1.q, .int .i64 res.1.h, .int .i64 res.1.a, .slice A' ts'.length c', .slice B' us'.length d', .slice C' res.1.O.length k'] := by rw [hW4]; exact Blk.new W3 _ _
  have z4 : Below W3.heap.size W3 W4 := by rw [hW4]; exact (Below.refl _ _).alloc (Nat.le_refl _) _
  have hs4 : W4.heap.size = W3.heap.size + 1 := by rw [hW4]; simp
  obtain ⟨W5, hW5⟩ : ∃ W_, W_ = W4.alloc (.cells #[.int .i64 cq, .slice L9 a9 i9, .slice R9 b9 j9] 59) := ⟨_, rfl⟩
  have z5 : Below W4.heap.size W4 W5 := by rw [hW5]; exact (Below.refl _ _).alloc (Nat.le_refl _) _
  have HW4 := Lib.hid hW4
  have HW5 := Lib.hid hW5
  have z45 := z4.trans (z5.mono z4.size)
  have z35 := z3.trans (z45.mono z3.size)
  have y5 := y1.trans (z35.mono y1.size)
  have b5 := b4.below' z5
  have e2 := c2.below' z35
  have hF5 := hF.below z45
  have hsz := y1.size
  clear hW4 hW5 HLO
  go_upto_region 4 with fail
  rw [← HW4.out, ← HW5.out]
  obtain ⟨f, code⟩ := res
  dsimp only at hF5 b5 ⊢
  have g0 : W5.cell? ⟨W3.heap.size, 0, none⟩ = some (.int .i64 f.q) := b5.cell 0
  have g1 : W5.cell? ⟨W3.heap.size, 1, none⟩ = some (.int .i64 f.h) := b5.cell 1
  have g2 : W5.cell? ⟨W3.heap.size, 2, none⟩ = some (.int .i64 f.a) := b5.cell 2
  have g3 : W5.cell? ⟨W3.heap.size, 3, none⟩ = some (.slice A' ts'.length c') := b5.cell 3
  have g4 : W5.cell? ⟨W3.heap.size, 4, none⟩ = some (.slice B' us'.length d') := b5.cell 4
  have g5 : W5.cell? ⟨W3.heap.size, 5, none⟩ = some (.slice C' f.O.length k') := b5.cell 5
  have x0 : W5.cell? ⟨(w.heap.size + 1 + 1), 0, none⟩ = some (.int .i64 0) := e2.cell 0
  have x1 : W5.cell? ⟨(w.heap.size + 1 + 1), 1, none⟩ = some (.int .i64 0) := e2.cell 1
  have x2 : W5.cell? ⟨(w.heap.size + 1 + 1), 2, none⟩ = some (.int .i64 0) := e2.cell 2
  have x3 : W5.cell? ⟨(w.heap.size + 1 + 1), 3, none⟩ = some (.slice none 0 0) := e2.cell 3
  have x4 : W5.cell? ⟨(w.heap.size + 1 + 1), 4, none⟩ = some (.slice none 0 0) := e2.cell 4
  have x5 : W5.cell? ⟨(w.heap.size + 1 + 1), 5, none⟩ = some (.slice none 0 0) := e2.cell 5
  have f_0 := e2.frozen 0
  have f_1 := e2.frozen 1
  have f_2 := e2.frozen 2
  have f_3 := e2.frozen 3
  have f_4 := e2.frozen 4
  have f_5 := e2.frozen 5
  go_wp2_with fail
  clear x0 x1 x2 x3 x4 x5
  have dB : Blk ((((((W5.setCell ⟨(w.heap.size + 1 + 1), 0, none⟩ (.int .i64 f.q)).setCell ⟨(w.heap.size + 1 + 1), 1, none⟩ (.int .i64 f.h)).setCell ⟨(w.heap.size + 1 + 1), 2, none⟩ (.int .i64 f.a)).setCell ⟨(w.heap.size + 1 + 1), 3, none⟩ (.slice A' ts'.length c')).setCell ⟨(w.heap.size + 1 + 1), 4, none⟩ (.slice B' us'.length d')).setCell ⟨(w.heap.size + 1 + 1), 5, none⟩ (.slice C' f.O.length k')) (w.heap.size + 1 + 1) 32 #[.int .i64 f.q, .int .i64 f.h, .int .i64 f.a, .slice A' ts'.length c', .slice B' us'.length d', .slice C' f.O.length k'] := fm_set e2 (.int .i64 f.q) (.int .i64 f.h) (.int .i64 f.a) (.slice A' ts'.length c') (.slice B' us'.length d') (.slice C' f.O.length k')
  have yS : ∀ (lo : Nat) (w0 : World), Below lo w0 W5 → lo ≤ (w.heap.size + 1 + 1) → Below lo w0 ((((((W5.setCell ⟨(w.heap.size + 1 + 1), 0, none⟩ (.int .i64 f.q)).setCell ⟨(w.heap.size + 1 + 1), 1, none⟩ (.int .i64 f.h)).setCell ⟨(w.heap.size + 1 + 1), 2, none⟩ (.int .i64 f.a)).setCell ⟨(w.heap.size + 1 + 1), 3, none⟩ (.slice A' ts'.length c')).setCell ⟨(w.heap.size + 1 + 1), 4, none⟩ (.slice B' us'.length d')).setCell ⟨(w.heap.size + 1 + 1), 5, none⟩ (.slice C' f.O.length k')) := fun lo w0 h hl => fm_below h hl (.int .i64 f.q) (.int .i64 f.h) (.int .i64 f.a) (.slice A' ts'.length c') (.slice B' us'.length d') (.slice C' f.O.length k')
  have kS : ∀ k, k ≠ (w.heap.size + 1 + 1) → ((((((W5.setCell ⟨(w.heap.size + 1 + 1), 0, none⟩ (.int .i64 f.q)).setCell ⟨(w.heap.size + 1 + 1), 1, none⟩ (.int .i64 f.h)).setCell ⟨(w.heap.size + 1 + 1), 2, none⟩ (.int .i64 f.a)).setCell ⟨(w.heap.size + 1 + 1), 3, none⟩ (.slice A' ts'.length c')).setCell ⟨(w.heap.size + 1 + 1), 4, none⟩ (.slice B' us'.length d')).setCell ⟨(w.heap.size + 1 + 1), 5, none⟩ (.slice C' f.O.length k')).heap[k]? = W5.heap[k]? := fun k hk => fm_kept (.int .i64 f.q) (.int .i64 f.h) (.int .i64 f.a) (.slice A' ts'.length c') (.slice B' us'.length d') (.slice C' f.O.length k') k hk
  generalize (((((W5.setCell ⟨(w.heap.size + 1 + 1), 0, none⟩ (.int .i64 f.q)).setCell ⟨(w.heap.size + 1 + 1), 1, none⟩ (.int .i64 f.h)).setCell ⟨(w.heap.size + 1 + 1), 2, none⟩ (.int .i64 f.a)).setCell ⟨(w.heap.size + 1 + 1), 3, none⟩ (.slice A' ts'.length c')).setCell ⟨(w.heap.size + 1 + 1), 4, none⟩ (.slice B' us'.length d')).setCell ⟨(w.heap.size + 1 + 1), 5, none⟩ (.slice C' f.O.length k') = wf at *
  have x0 : wf.cell? ⟨(w.heap.size + 1 + 1), 0, none⟩ = some (.int .i64 f.q) := dB.cell 0
  have x1 : wf.cell? ⟨(w.heap.size + 1 + 1), 1, none⟩ = some (.int .i64 f.h) := dB.cell 1
  have x2 : wf.cell? ⟨(w.heap.size + 1 + 1), 2, none⟩ = some (.int .i64 f.a) := dB.cell 2
  have x3 : wf.cell? ⟨(w.heap.size + 1 + 1), 3, none⟩ = some (.slice A' ts'.length c') := dB.cell 3
  have x4 : wf.cell? ⟨(w.heap.size + 1 + 1), 4, none⟩ = some (.slice B' us'.length d') := dB.cell 4
  have x5 : wf.cell? ⟨(w.heap.size + 1 + 1), 5, none⟩ = some (.slice C' f.O.length k') := dB.cell 5
  have hres : NewFmI w (f, code) (.returned (.tuple #[.agg #[.int .i64 f.q, .int .i64 f.h, .int .i64 f.a, .slice A' ts'.length c', .slice B' us'.length d', .slice C' f.O.length k'], .int .i64 code])) wf := ⟨A', c', ts', B', d', us', C', k', rfl, ⟨(hF5.1.far e2 (by decide) (by decide) kS).mono hsz, hF5.2⟩, yS _ _ y5 (by omega)⟩
  exact bodyPost_ret (v := .tuple #[.agg #[.int .i64 f.q, .int .i64 f.h, .int .i64 f.a, .slice A' ts'.length c', .slice B' us'.length d', .slice C' f.O.length k'], .int .i64 code]) (by simp [results, Try.results13, go_sem, x0, x1, x2, x3, x4, x5]) rfl hres
end Go.Proofs.Ytpnkelmmfcmijaa

/-
  Contract of impl.FormulaOf.
-/
namespace Go.Proofs.Ytpnkelmmfcmijaa
open Go.RowKit

theorem bnc_zero (sy st : Int) (rs : List R3) (q : Int) (xs : List Int) (xss : List (List Int)) (h : ¬ (if bounceB q xs xss then bounceF sy st rs xs xss else (Fm.zero, 2)).2 = 0) : (if bounceB q xs xss then bounceF sy st rs xs xss else (Fm.zero, 2)).1 = Fm.zero := by
  by_cases h1 : bounceB q xs xss = true
  · rw [if_pos h1] at h ⊢
    unfold bounceF at h ⊢
    by_cases h2 : aliveB sy rs blankC (xs.getD 0 0).toNat = true
    · rw [if_pos h2] at h ⊢
      dsimp only at h ⊢
      split at h
      · exact absurd rfl h
      · rename_i h3
        rw [if_neg h3]
    · rw [if_neg h2]
  · rw [if_neg h1]

set_option maxRecDepth 100000 in
set_option maxHeartbeats 4000000 in
theorem formulaOfI_any (sy st : Int) (A0 : Option Addr) (n0 k0 : Nat) (rs : List R3) (q : Int) (A : Option Addr) (n c : Nat) (xs : List Int) (B : Option Addr) (m d : Nat) (ts : List Sl) (w : World) (hr : S3 w A0 n0 rs) (hx : SI w A n xs) (hy : SII w B m ts) (hn0 : n0 ≤ 1048576) (hn : n ≤ 1048576) (hm : m ≤ 1048576) (hns : ∀ t ∈ ts, t.xs.length ≤ 1048576) (hcn : n ≤ c) :
    Calls Try.prog 16 #[.agg #[.int .i64 sy, .int .i64 st, .slice A0 n0 k0], .agg #[.int .i64 q, .slice A n c, .slice B m d]] w (NewFmI w (formulaOfF sy st rs q xs (nums ts))) := by
  obtain ⟨res, hres⟩ : ∃ res, res = formulaOfF sy st rs q xs (nums ts) := ⟨_, rfl⟩
  rw [← hres]
  have HRES := Lib.hid hres
  have HNS := Lib.hid hns
  have HR := Lib.hid hr
  have HX := Lib.hid hx
  have HY := Lib.hid hy
  clear hres hns hr hx hy
  obtain ⟨W, hW_⟩ : ∃ W, W = ((w.alloc (.cells #[.int .i64 sy, .int .i64 st, .slice A0 n0 k0] 37)).alloc (.cells #[.int .i64 q, .slice A n c, .slice B m d] 39)).alloc (.cells #[.int .i64 0, .int .i64 0, .int .i64 0, .slice none 0 0, .slice none 0 0, .slice none 0 0] 32) := ⟨_, rfl⟩
  have s_1 : (w.alloc (.cells #[.int .i64 sy, .int .i64 st, .slice A0 n0 k0] 37)).heap.size = w.heap.size + 1 := by simp
  have s_2 : ((w.alloc (.cells #[.int .i64 sy, .int .i64 st, .slice A0 n0 k0] 37)).alloc (.cells #[.int .i64 q, .slice A n c, .slice B m d] 39)).heap.size = w.heap.size + 1 + 1 := by simp
  have b0 : Blk W w.heap.size 37 #[.int .i64 sy, .int .i64 st, .slice A0 n0 k0] := by rw [hW_]; exact ((Blk.new w _ _).alloc _).alloc _
  have b1 : Blk W (w.heap.size + 1) 39 #[.int .i64 q, .slice A n c, .slice B m d] := by rw [hW_, ← s_1]; exact (Blk.new _ _ _).alloc _
  have b2 : Blk W (w.heap.size + 1 + 1) 32 #[.int .i64 0, .int .i64 0, .int .i64 0, .slice none 0 0, .slice none 0 0, .slice none 0 0] := by rw [hW_, ← s_2]; exact Blk.new _ _ _
  have y0 : Below w.heap.size w W := by rw [hW_]; exact (((Below.refl _ _).alloc (Nat.le_refl _) _).alloc (by simp) _).alloc (by simp; omega) _
  have HW := Lib.hid hW_
  clear hW_ s_1 s_2
  have u0 : W.cell? ⟨w.heap.size, 0, none⟩ = some (.int .i64 sy) := b0.cell 0
  have u1 : W.cell? ⟨w.heap.size, 1, none⟩ = some (.int .i64 st) := b0.cell 1
  have u2 : W.cell? ⟨w.heap.size, 2, none⟩ = some (.slice A0 n0 k0) := b0.cell 2
  go_enter Try.func16, Try.ntmps16
  go_wp2_with fail
  rw [← HW.out]
  refine (validMachine_any _ _ _ _ _ rs _ (HR.out.below y0) hn0).mono ?_
  rintro e W1 ⟨rfl, z1⟩
  have y1 := y0.trans (z1.mono y0.size)
  have c0 := b0.below' z1
  have c1 := b1.below' z1
  have c2 := b2.below' z1
  clear u0 u1 u2
  cases a1 : machB sy st rs
  · have A1 := Lib.hid a1
    clear a1
    obtain rfl : res = (Fm.zero, 1) := by rw [HRES.out]; unfold formulaOfF; rw [A1.out]; rfl
    have x0 : W1.cell? ⟨(w.heap.size + 1 + 1), 0, none⟩ = some (.int .i64 0) := c2.cell 0
    have x1 : W1.cell? ⟨(w.heap.size + 1 + 1), 1, none⟩ = some (.int .i64 0) := c2.cell 1
    have x2 : W1.cell? ⟨(w.heap.size + 1 + 1), 2, none⟩ = some (.int .i64 0) := c2.cell 2
    have x3 : W1.cell? ⟨(w.heap.size + 1 + 1), 3, none⟩ = some (.slice none 0 0) := c2.cell 3
    have x4 : W1.cell? ⟨(w.heap.size + 1 + 1), 4, none⟩ = some (.slice none 0 0) := c2.cell 4
    have x5 : W1.cell? ⟨(w.heap.size + 1 + 1), 5, none⟩ = some (.slice none 0 0) := c2.cell 5
    have f0 := c2.frozen 0
    have f1 := c2.frozen 1
    have f2 := c2.frozen 2
    have f3 := c2.frozen 3
    have f4 := c2.frozen 4
    have f5 := c2.frozen 5
    go_wp2_with fail
    clear x0 x1 x2 x3 x4 x5
    have dB : Blk ((((((W1.setCell ⟨(w.heap.size + 1 + 1), 0, none⟩ (.int .i64 0)).setCell ⟨(w.heap.size + 1 + 1), 1, none⟩ (.int .i64 0)).setCell ⟨(w.heap.size + 1 + 1), 2, none⟩ (.int .i64 0)).setCell ⟨(w.heap.size + 1 + 1), 3, none⟩ (.slice none 0 0)).setCell ⟨(w.heap.size + 1 + 1), 4, none⟩ (.slice none 0 0)).setCell ⟨(w.heap.size + 1 + 1), 5, none⟩ (.slice none 0 0)) (w.heap.size + 1 + 1) 32 #[.int .i64 0, .int .i64 0, .int .i64 0, .slice none 0 0, .slice none 0 0, .slice none 0 0] := fm_set c2 (.int .i64 0) (.int .i64 0) (.int .i64 0) (.slice none 0 0) (.slice none 0 0) (.slice none 0 0)
    have yS : ∀ (lo : Nat) (w0 : World), Below lo w0 W1 → lo ≤ (w.heap.size + 1 + 1) → Below lo w0 ((((((W1.setCell ⟨(w.heap.size + 1 + 1), 0, none⟩ (.int .i64 0)).setCell ⟨(w.heap.size + 1 + 1), 1, none⟩ (.int .i64 0)).setCell ⟨(w.heap.size + 1 + 1), 2, none⟩ (.int .i64 0)).setCell ⟨(w.heap.size + 1 + 1), 3, none⟩ (.slice none 0 0)).setCell ⟨(w.heap.size + 1 + 1), 4, none⟩ (.slice none 0 0)).setCell ⟨(w.heap.size + 1 + 1), 5, none⟩ (.slice none 0 0)) := fun lo w0 h hl => fm_below h hl (.int .i64 0) (.int .i64 0) (.int .i64 0) (.slice none 0 0) (.slice none 0 0) (.slice none 0 0)
    have kS : ∀ k, k ≠ (w.heap.size + 1 + 1) → ((((((W1.setCell ⟨(w.heap.size + 1 + 1), 0, none⟩ (.int .i64 0)).setCell ⟨(w.heap.size + 1 + 1), 1, none⟩ (.int .i64 0)).setCell ⟨(w.heap.size + 1 + 1), 2, none⟩ (.int .i64 0)).setCell ⟨(w.heap.size + 1 + 1), 3, none⟩ (.slice none 0 0)).setCell ⟨(w.heap.size + 1 + 1), 4, none⟩ (.slice none 0 0)).setCell ⟨(w.heap.size + 1 + 1), 5, none⟩ (.slice none 0 0)).heap[k]? = W1.heap[k]? := fun k hk => fm_kept (.int .i64 0) (.int .i64 0) (.int .i64 0) (.slice none 0 0) (.slice none 0 0) (.slice none 0 0) k hk
    generalize (((((W1.setCell ⟨(w.heap.size + 1 + 1), 0, none⟩ (.int .i64 0)).setCell ⟨(w.heap.size + 1 + 1), 1, none⟩ (.int .i64 0)).setCell ⟨(w.heap.size + 1 + 1), 2, none⟩ (.int .i64 0)).setCell ⟨(w.heap.size + 1 + 1), 3, none⟩ (.slice none 0 0)).setCell ⟨(w.heap.size + 1 + 1), 4, none⟩ (.slice none 0 0)).setCell ⟨(w.heap.size + 1 + 1), 5, none⟩ (.slice none 0 0) = wf at *
    have x0 : wf.cell? ⟨(w.heap.size + 1 + 1), 0, none⟩ = some (.int .i64 0) := dB.cell 0
    have x1 : wf.cell? ⟨(w.heap.size + 1 + 1), 1, none⟩ = some (.int .i64 0) := dB.cell 1
    have x2 : wf.cell? ⟨(w.heap.size + 1 + 1), 2, none⟩ = some (.int .i64 0) := dB.cell 2
    have x3 : wf.cell? ⟨(w.heap.size + 1 + 1), 3, none⟩ = some (.slice none 0 0) := dB.cell 3
    have x4 : wf.cell? ⟨(w.heap.size + 1 + 1), 4, none⟩ = some (.slice none 0 0) := dB.cell 4
    have x5 : wf.cell? ⟨(w.heap.size + 1 + 1), 5, none⟩ = some (.slice none 0 0) := dB.cell 5
    have hres : NewFmI w (Fm.zero, 1) (.returned (.tuple #[.agg #[.int .i64 0, .int .i64 0, .int .i64 0, .slice none 0 0, .slice none 0 0, .slice none 0 0], .int .i64 1])) wf := ⟨none, 0, [], none, 0, [], none, 0, rfl, FmR.zero _ _, yS _ _ y1 (by omega)⟩
    exact bodyPost_ret (v := .tuple #[.agg #[.int .i64 0, .int .i64 0, .int .i64 0, .slice none 0 0, .slice none 0 0, .slice none 0 0], .int .i64 1]) (by simp [results, Try.results16, go_sem, x0, x1, x2, x3, x4, x5]) rfl hres
  have A1 := Lib.hid a1
  clear a1
  have v0 : W1.cell? ⟨(w.heap.size + 1), 0, none⟩ = some (.int .i64 q) := c1.cell 0
  have v1 : W1.cell? ⟨(w.heap.size + 1), 1, none⟩ = some (.slice A n c) := c1.cell 1
  have v2 : W1.cell? ⟨(w.heap.size + 1), 2, none⟩ = some (.slice B m d) := c1.cell 2
  go_wp2_with fail
  refine (validProof_any _ _ _ _ xs _ _ _ ts _ (HX.out.below y1) (HY.out.below y1) hn hm HNS.out).mono ?_
  rintro e W2 ⟨rfl, z2⟩
  have y2 := y1.trans (z2.mono y1.size)
  have d0 := c0.below' z2
  have d1 := c1.below' z2
  have d2 := c2.below' z2
  clear v0 v1 v2
  cases a2 : validProofB q xs (nums ts)
  · have A2 := Lib.hid a2
    clear a2
    obtain rfl : res = (Fm.zero, 1) := by rw [HRES.out]; unfold formulaOfF; rw [A1.out, A2.out]; rfl
    have x0 : W2.cell? ⟨(w.heap.size + 1 + 1), 0, none⟩ = some (.int .i64 0) := d2.cell 0
    have x1 : W2.cell? ⟨(w.heap.size + 1 + 1), 1, none⟩ = some (.int .i64 0) := d2.cell 1
    have x2 : W2.cell? ⟨(w.heap.size + 1 + 1), 2, none⟩ = some (.int .i64 0) := d2.cell 2
    have x3 : W2.cell? ⟨(w.heap.size + 1 + 1), 3, none⟩ = some (.slice none 0 0) := d2.cell 3
    have x4 : W2.cell? ⟨(w.heap.size + 1 + 1), 4, none⟩ = some (.slice none 0 0) := d2.cell 4
    have x5 : W2.cell? ⟨(w.heap.size + 1 + 1), 5, none⟩ = some (.slice none 0 0) := d2.cell 5
    have f0 := d2.frozen 0
    have f1 := d2.frozen 1
    have f2 := d2.frozen 2
    have f3 := d2.frozen 3
    have f4 := d2.frozen 4
    have f5 := d2.frozen 5
    go_wp2_with fail
    clear x0 x1 x2 x3 x4 x5
    have dB : Blk ((((((W2.setCell ⟨(w.heap.size + 1 + 1), 0, none⟩ (.int .i64 0)).setCell ⟨(w.heap.size + 1 + 1), 1, none⟩ (.int .i64 0)).setCell ⟨(w.heap.size + 1 + 1), 2, none⟩ (.int .i64 0)).setCell ⟨(w.heap.size + 1 + 1), 3, none⟩ (.slice none 0 0)).setCell ⟨(w.heap.size + 1 + 1), 4, none⟩ (.slice none 0 0)).setCell ⟨(w.heap.size + 1 + 1), 5, none⟩ (.slice none 0 0)) (w.heap.size + 1 + 1) 32 #[.int .i64 0, .int .i64 0, .int .i64 0, .slice none 0 0, .slice none 0 0, .slice none 0 0] := fm_set d2 (.int .i64 0) (.int .i64 0) (.int .i64 0) (.slice none 0 0) (.slice none 0 0) (.slice none 0 0)
    have yS : ∀ (lo : Nat) (w0 : World), Below lo w0 W2 → lo ≤ (w.heap.size + 1 + 1) → Below lo w0 ((((((W2.setCell ⟨(w.heap.size + 1 + 1), 0, none⟩ (.int .i64 0)).setCell ⟨(w.heap.size + 1 + 1), 1, none⟩ (.int .i64 0)).setCell ⟨(w.heap.size + 1 + 1), 2, none⟩ (.int .i64 0)).setCell ⟨(w.heap.size + 1 + 1), 3, none⟩ (.slice none 0 0)).setCell ⟨(w.heap.size + 1 + 1), 4, none⟩ (.slice none 0 0)).setCell ⟨(w.heap.size + 1 + 1), 5, none⟩ (.slice none 0 0)) := fun lo w0 h hl => fm_below h hl (.int .i64 0) (.int .i64 0) (.int .i64 0) (.slice none 0 0) (.slice none 0 0) (.slice none 0 0)
    have kS : ∀ k, k ≠ (w.heap.size + 1 + 1) → ((((((W2.setCell ⟨(w.heap.size + 1 + 1), 0, none⟩ (.int .i64 0)).setCell ⟨(w.heap.size + 1 + 1), 1, none⟩ (.int .i64 0)).setCell ⟨(w.heap.size + 1 + 1), 2, none⟩ (.int .i64 0)).setCell ⟨(w.heap.size + 1 + 1), 3, none⟩ (.slice none 0 0)).setCell ⟨(w.heap.size + 1 + 1), 4, none⟩ (.slice none 0 0)).setCell ⟨(w.heap.size + 1 + 1), 5, none⟩ (.slice none 0 0)).heap[k]? = W2.heap[k]? := fun k hk => fm_kept (.int .i64 0) (.int .i64 0) (.int .i64 0) (.slice none 0 0) (.slice none 0 0) (.slice none 0 0) k hk
    generalize (((((W2.setCell ⟨(w.heap.size + 1 + 1), 0, none⟩ (.int .i64 0)).setCell ⟨(w.heap.size + 1 + 1), 1, none⟩ (.int .i64 0)).setCell ⟨(w.heap.size + 1 + 1), 2, none⟩ (.int .i64 0)).setCell ⟨(w.heap.size + 1 + 1), 3, none⟩ (.slice none 0 0)).setCell ⟨(w.heap.size + 1 + 1), 4, none⟩ (.slice none 0 0)).setCell ⟨(w.heap.size + 1 + 1), 5, none⟩ (.slice none 0 0) = wf at *
    have x0 : wf.cell? ⟨(w.heap.size + 1 + 1), 0, none⟩ = some (.int .i64 0) := dB.cell 0
    have x1 : wf.cell? ⟨(w.heap.size + 1 + 1), 1, none⟩ = some (.int .i64 0) := dB.cell 1
    have x2 : wf.cell? ⟨(w.heap.size + 1 + 1), 2, none⟩ = some (.int .i64 0) := dB.cell 2
    have x3 : wf.cell? ⟨(w.heap.size + 1 + 1), 3, none⟩ = some (.slice none 0 0) := dB.cell 3
    have x4 : wf.cell? ⟨(w.heap.size + 1 + 1), 4, none⟩ = some (.slice none 0 0) := dB.cell 4
    have x5 : wf.cell? ⟨(w.heap.size + 1 + 1), 5, none⟩ = some (.slice none 0 0) := dB.cell 5
    have hres : NewFmI w (Fm.zero, 1) (.returned (.tuple #[.agg #[.int .i64 0, .int .i64 0, .int .i64 0, .slice none 0 0, .slice none 0 0, .slice none 0 0], .int .i64 1])) wf := ⟨none, 0, [], none, 0, [], none, 0, rfl, FmR.zero _ _, yS _ _ y2 (by omega)⟩
    exact bodyPost_ret (v := .tuple #[.agg #[.int .i64 0, .int .i64 0, .int .i64 0, .slice none 0 0, .slice none 0 0, .slice none 0 0], .int .i64 1]) (by simp [results, Try.results16, go_sem, x0, x1, x2, x3, x4, x5]) rfl hres
  have A2 := Lib.hid a2
  clear a2
  have u0 : W2.cell? ⟨w.heap.size, 0, none⟩ = some (.int .i64 sy) := d0.cell 0
  have u1 : W2.cell? ⟨w.heap.size, 1, none⟩ = some (.int .i64 st) := d0.cell 1
  have u2 : W2.cell? ⟨w.heap.size, 2, none⟩ = some (.slice A0 n0 k0) := d0.cell 2
  have v0 : W2.cell? ⟨(w.heap.size + 1), 0, none⟩ = some (.int .i64 q) := d1.cell 0
  have v1 : W2.cell? ⟨(w.heap.size + 1), 1, none⟩ = some (.slice A n c) := d1.cell 1
  have v2 : W2.cell? ⟨(w.heap.size + 1), 2, none⟩ = some (.slice B m d) := d1.cell 2
  obtain ⟨rb, hrb⟩ : ∃ rb, rb = (if bounceB q xs (nums ts) then bounceF sy st rs xs (nums ts) else (Fm.zero, 2)) := ⟨_, rfl⟩
  have HBZ : Hid (¬ rb.2 = 0 → rb.1 = Fm.zero) := Lib.hid (by rw [hrb]; exact bnc_zero sy st rs q xs (nums ts))
  have HBO := Lib.hid (bounceOf_any sy st A0 n0 k0 rs q A n c xs B m d ts W2 (HR.out.below y2) (HX.out.below y2) (HY.out.below y2) hn0 hn hm HNS.out A1.out hcn)
  rw [← hrb] at HBO
  obtain rfl : res = rb := by rw [HRES.out, hrb]; unfold formulaOfF; rw [A1.out, A2.out]; rfl
  clear hrb HRES
  go_wp2_with fail
  refine HBO.out.mono ?_
  rintro e W3 ⟨X, A', c', ts', B', d', us', C', k', D9, m9, e9, cq, L9, a9, i9, R9, b9, j9, rfl, hF, z3⟩
  obtain ⟨W4, hW_⟩ : ∃ W_, W_ = W3.alloc (.cells #[.int .i64 X, .int .i64 res.1.q, .int .i64 res.1.h, .int .i64 res.1.a, .slice A' ts'.length c', .slice B' us'.length d', .slice C' res.1.O.length k', .slice D9 m9 e9, .int .i64 cq, .slice L9 a9 i9, .slice R9 b9 j9] 131) := ⟨_, rfl⟩
  have b4 : Blk W4 W3.heap.size 131 #[.int .i64 X, .int .i64 res.1.q, .int .i64 res.1.h, .int .i64 res.1.a, .slice A' ts'.length c', .slice B' us'.length d', .slice C' res.1.O.length k', .slice D9 m9 e9, .int .i64 cq, .slice L9 a9 i9, .slice R9 b9 j9] := by rw [hW_]; exact Blk.new W3 _ _
  have z4 : Below W3.heap.size W3 W4 := by rw [hW_]; exact (Below.refl _ _).alloc (Nat.le_refl _) _
  have HW4 := Lib.hid hW_
  clear hW_
  have z34 := z3.trans (z4.mono z3.size)
  have y4 := y2.trans (z34.mono y2.size)
  have e2 := d2.below' z34
  have hF4 := hF.below z4
  have hsz := y2.size
  clear u0 u1 u2 v0 v1 v2 HBO
  go_upto_region 4 with fail
  rw [← HW4.out]
  clear HW4
  obtain ⟨f, code⟩ := res
  dsimp only at hF4 b4 HBZ ⊢
  by_cases h0 : code = 0
  rotate_left
  · obtain rfl : f = Fm.zero := HBZ.out h0
    have x0 : W4.cell? ⟨(w.heap.size + 1 + 1), 0, none⟩ = some (.int .i64 0) := e2.cell 0
    have x1 : W4.cell? ⟨(w.heap.size + 1 + 1), 1, none⟩ = some (.int .i64 0) := e2.cell 1
    have x2 : W4.cell? ⟨(w.heap.size + 1 + 1), 2, none⟩ = some (.int .i64 0) := e2.cell 2
    have x3 : W4.cell? ⟨(w.heap.size + 1 + 1), 3, none⟩ = some (.slice none 0 0) := e2.cell 3
    have x4 : W4.cell? ⟨(w.heap.size + 1 + 1), 4, none⟩ = some (.slice none 0 0) := e2.cell 4
    have x5 : W4.cell? ⟨(w.heap.size + 1 + 1), 5, none⟩ = some (.slice none 0 0) := e2.cell 5
    have f0 := e2.frozen 0
    have f1 := e2.frozen 1
    have f2 := e2.frozen 2
    have f3 := e2.frozen 3
    have f4 := e2.frozen 4
    have f5 := e2.frozen 5
    go_wp2_with fail
    clear x0 x1 x2 x3 x4 x5
    have dB : Blk ((((((W4.setCell ⟨(w.heap.size + 1 + 1), 0, none⟩ (.int .i64 0)).setCell ⟨(w.heap.size + 1 + 1), 1, none⟩ (.int .i64 0)).setCell ⟨(w.heap.size + 1 + 1), 2, none⟩ (.int .i64 0)).setCell ⟨(w.heap.size + 1 + 1), 3, none⟩ (.slice none 0 0)).setCell ⟨(w.heap.size + 1 + 1), 4, none⟩ (.slice none 0 0)).setCell ⟨(w.heap.size + 1 + 1), 5, none⟩ (.slice none 0 0)) (w.heap.size + 1 + 1) 32 #[.int .i64 0, .int .i64 0, .int .i64 0, .slice none 0 0, .slice none 0 0, .slice none 0 0] := fm_set e2 (.int .i64 0) (.int .i64 0) (.int .i64 0) (.slice none 0 0) (.slice none 0 0) (.slice none 0 0)
    have yS : ∀ (lo : Nat) (w0 : World), Below lo w0 W4 → lo ≤ (w.heap.size + 1 + 1) → Below lo w0 ((((((W4.setCell ⟨(w.heap.size + 1 + 1), 0, none⟩ (.int .i64 0)).setCell ⟨(w.heap.size + 1 + 1), 1, none⟩ (.int .i64 0)).setCell ⟨(w.heap.size + 1 + 1), 2, none⟩ (.int .i64 0)).setCell ⟨(w.heap.size + 1 + 1), 3, none⟩ (.slice none 0 0)).setCell ⟨(w.heap.size + 1 + 1), 4, none⟩ (.slice none 0 0)).setCell ⟨(w.heap.size + 1 + 1), 5, none⟩ (.slice none 0 0)) := fun lo w0 h hl => fm_below h hl (.int .i64 0) (.int .i64 0) (.int .i64 0) (.slice none 0 0) (.slice none 0 0) (.slice none 0 0)
    have kS : ∀ k, k ≠ (w.heap.size + 1 + 1) → ((((((W4.setCell ⟨(w.heap.size + 1 + 1), 0, none⟩ (.int .i64 0)).setCell ⟨(w.heap.size + 1 + 1), 1, none⟩ (.int .i64 0)).setCell ⟨(w.heap.size + 1 + 1), 2, none⟩ (.int .i64 0)).setCell ⟨(w.heap.size + 1 + 1), 3, none⟩ (.slice none 0 0)).setCell ⟨(w.heap.size + 1 + 1), 4, none⟩ (.slice none 0 0)).setCell ⟨(w.heap.size + 1 + 1), 5, none⟩ (.slice none 0 0)).heap[k]? = W4.heap[k]? := fun k hk => fm_kept (.int .i64 0) (.int .i64 0) (.int .i64 0) (.slice none 0 0) (.slice none 0 0) (.slice none 0 0) k hk
    generalize (((((W4.setCell ⟨(w.heap.size + 1 + 1), 0, none⟩ (.int .i64 0)).setCell ⟨(w.heap.size + 1 + 1), 1, none⟩ (.int .i64 0)).setCell ⟨(w.heap.size + 1 + 1), 2, none⟩ (.int .i64 0)).setCell ⟨(w.heap.size + 1 + 1), 3, none⟩ (.slice none 0 0)).setCell ⟨(w.heap.size + 1 + 1), 4, none⟩ (.slice none 0 0)).setCell ⟨(w.heap.size + 1 + 1), 5, none⟩ (.slice none 0 0) = wf at *
    have x0 : wf.cell? ⟨(w.heap.size + 1 + 1), 0, none⟩ = some (.int .i64 0) := dB.cell 0
    have x1 : wf.cell? ⟨(w.heap.size + 1 + 1), 1, none⟩ = some (.int .i64 0) := dB.cell 1
    have x2 : wf.cell? ⟨(w.heap.size + 1 + 1), 2, none⟩ = some (.int .i64 0) := dB.cell 2
    have x3 : wf.cell? ⟨(w.heap.size + 1 + 1), 3, none⟩ = some (.slice none 0 0) := dB.cell 3
    have x4 : wf.cell? ⟨(w.heap.size + 1 + 1), 4, none⟩ = some (.slice none 0 0) := dB.cell 4
    have x5 : wf.cell? ⟨(w.heap.size + 1 + 1), 5, none⟩ = some (.slice none 0 0) := dB.cell 5
    have hres : NewFmI w (Fm.zero, code) (.returned (.tuple #[.agg #[.int .i64 0, .int .i64 0, .int .i64 0, .slice none 0 0, .slice none 0 0, .slice none 0 0], .int .i64 code])) wf := ⟨none, 0, [], none, 0, [], none, 0, rfl, FmR.zero _ _, yS _ _ y4 (by omega)⟩
    exact bodyPost_ret (v := .tuple #[.agg #[.int .i64 0, .int .i64 0, .int .i64 0, .slice none 0 0, .slice none 0 0, .slice none 0 0], .int .i64 code]) (by simp [results, Try.results16, go_sem, x0, x1, x2, x3, x4, x5]) rfl hres
  · subst h0
    have g0 : W4.cell? ⟨W3.heap.size, 0, none⟩ = some (.int .i64 X) := b4.cell 0
    have g1 : W4.cell? ⟨W3.heap.size, 1, none⟩ = some (.int .i64 f.q) := b4.cell 1
    have g2 : W4.cell? ⟨W3.heap.size, 2, none⟩ = some (.int .i64 f.h) := b4.cell 2
    have g3 : W4.cell? ⟨W3.heap.size, 3, none⟩ = some (.int .i64 f.a) := b4.cell 3
    have g4 : W4.cell? ⟨W3.heap.size, 4, none⟩ = some (.slice A' ts'.length c') := b4.cell 4
    have g5 : W4.cell? ⟨W3.heap.size, 5, none⟩ = some (.slice B' us'.length d') := b4.cell 5
    have g6 : W4.cell? ⟨W3.heap.size, 6, none⟩ = some (.slice C' f.O.length k') := b4.cell 6
    have g7 : W4.cell? ⟨W3.heap.size, 7, none⟩ = some (.slice D9 m9 e9) := b4.cell 7
    have g8 : W4.cell? ⟨W3.heap.size, 8, none⟩ = some (.int .i64 cq) := b4.cell 8
    have g9 : W4.cell? ⟨W3.heap.size, 9, none⟩ = some (.slice L9 a9 i9) := b4.cell 9
    have g10 : W4.cell? ⟨W3.heap.size, 10, none⟩ = some (.slice R9 b9 j9) := b4.cell 10
    have x0 : W4.cell? ⟨(w.heap.size + 1 + 1), 0, none⟩ = some (.int .i64 0) := e2.cell 0
    have x1 : W4.cell? ⟨(w.heap.size + 1 + 1), 1, none⟩ = some (.int .i64 0) := e2.cell 1
    have x2 : W4.cell? ⟨(w.heap.size + 1 + 1), 2, none⟩ = some (.int .i64 0) := e2.cell 2
    have x3 : W4.cell? ⟨(w.heap.size + 1 + 1), 3, none⟩ = some (.slice none 0 0) := e2.cell 3
    have x4 : W4.cell? ⟨(w.heap.size + 1 + 1), 4, none⟩ = some (.slice none 0 0) := e2.cell 4
    have x5 : W4.cell? ⟨(w.heap.size + 1 + 1), 5, none⟩ = some (.slice none 0 0) := e2.cell 5
    have f_0 := e2.frozen 0
    have f_1 := e2.frozen 1
    have f_2 := e2.frozen 2
    have f_3 := e2.frozen 3
    have f_4 := e2.frozen 4
    have f_5 := e2.frozen 5
    go_wp2_with fail
    clear x0 x1 x2 x3 x4 x5
    have dB : Blk ((((((W4.setCell ⟨(w.heap.size + 1 + 1), 0, none⟩ (.int .i64 f.q)).setCell ⟨(w.heap.size + 1 + 1), 1, none⟩ (.int .i64 f.h)).setCell ⟨(w.heap.size + 1 + 1), 2, none⟩ (.int .i64 f.a)).setCell ⟨(w.heap.size + 1 + 1), 3, none⟩ (.slice A' ts'.length c')).setCell ⟨(w.heap.size + 1 + 1), 4, none⟩ (.slice B' us'.length d')).setCell ⟨(w.heap.size + 1 + 1), 5, none⟩ (.slice C' f.O.length k')) (w.heap.size + 1 + 1) 32 #[.int .i64 f.q, .int .i64 f.h, .int .i64 f.a, .slice A' ts'.length c', .slice B' us'.length d', .slice C' f.O.length k'] := fm_set e2 (.int .i64 f.q) (.int .i64 f.h) (.int .i64 f.a) (.slice A' ts'.length c') (.slice B' us'.length d') (.slice C' f.O.length k')
    have yS : ∀ (lo : Nat) (w0 : World), Below lo w0 W4 → lo ≤ (w.heap.size + 1 + 1) → Below lo w0 ((((((W4.setCell ⟨(w.heap.size + 1 + 1), 0, none⟩ (.int .i64 f.q)).setCell ⟨(w.heap.size + 1 + 1), 1, none⟩ (.int .i64 f.h)).setCell ⟨(w.heap.size + 1 + 1), 2, none⟩ (.int .i64 f.a)).setCell ⟨(w.heap.size + 1 + 1), 3, none⟩ (.slice A' ts'.length c')).setCell ⟨(w.heap.size + 1 + 1), 4, none⟩ (.slice B' us'.length d')).setCell ⟨(w.heap.size + 1 + 1), 5, none⟩ (.slice C' f.O.length k')) := fun lo w0 h hl => fm_below h hl (.int .i64 f.q) (.int .i64 f.h) (.int .i64 f.a) (.slice A' ts'.length c') (.slice B' us'.length d') (.slice C' f.O.length k')
    have kS : ∀ k, k ≠ (w.heap.size + 1 + 1) → ((((((W4.setCell ⟨(w.heap.size + 1 + 1), 0, none⟩ (.int .i64 f.q)).setCell ⟨(w.heap.size + 1 + 1), 1, none⟩ (.int .i64 f.h)).setCell ⟨(w.heap.size + 1 + 1), 2, none⟩ (.int .i64 f.a)).setCell ⟨(w.heap.size + 1 + 1), 3, none⟩ (.slice A' ts'.length c')).setCell ⟨(w.heap.size + 1 + 1), 4, none⟩ (.slice B' us'.length d')).setCell ⟨(w.heap.size + 1 + 1), 5, none⟩ (.slice C' f.O.length k')).heap[k]? = W4.heap[k]? := fun k hk => fm_kept (.int .i64 f.q) (.int .i64 f.h) (.int .i64 f.a) (.slice A' ts'.length c') (.slice B' us'.length d') (.slice C' f.O.length k') k hk
    generalize (((((W4.setCell ⟨(w.heap.size + 1 + 1), 0, none⟩ (.int .i64 f.q)).setCell ⟨(w.heap.size + 1 + 1), 1, none⟩ (.int .i64 f.h)).setCell ⟨(w.heap.size + 1 + 1), 2, none⟩ (.int .i64 f.a)).setCell ⟨(w.heap.size + 1 + 1), 3, none⟩ (.slice A' ts'.length c')).setCell ⟨(w.heap.size + 1 + 1), 4, none⟩ (.slice B' us'.length d')).setCell ⟨(w.heap.size + 1 + 1), 5, none⟩ (.slice C' f.O.length k') = wf at *
    have x0 : wf.cell? ⟨(w.heap.size + 1 + 1), 0, none⟩ = some (.int .i64 f.q) := dB.cell 0
    have x1 : wf.cell? ⟨(w.heap.size + 1 + 1), 1, none⟩ = some (.int .i64 f.h) := dB.cell 1
    have x2 : wf.cell? ⟨(w.heap.size + 1 + 1), 2, none⟩ = some (.int .i64 f.a) := dB.cell 2
    have x3 : wf.cell? ⟨(w.heap.size + 1 + 1), 3, none⟩ = some (.slice A' ts'.length c') := dB.cell 3
    have x4 : wf.cell? ⟨(w.heap.size + 1 + 1), 4, none⟩ = some (.slice B' us'.length d') := dB.cell 4
    have x5 : wf.cell? ⟨(w.heap.size + 1 + 1), 5, none⟩ = some (.slice C' f.O.length k') := dB.cell 5
    have hres : NewFmI w (f, 0) (.returned (.tuple #[.agg #[.int .i64 f.q, .int .i64 f.h, .int .i64 f.a, .slice A' ts'.length c', .slice B' us'.length d', .slice C' f.O.length k'], .int .i64 0])) wf := ⟨A', c', ts', B', d', us', C', k', rfl, ⟨(hF4.1.far e2 (by decide) (by decide) kS).mono hsz, hF4.2⟩, yS _ _ y4 (by omega)⟩
    exact bodyPost_ret (v := .tuple #[.agg #[.int .i64 f.q, .int .i64 f.h, .int .i64 f.a, .slice A' ts'.length c', .slice B' us'.length d', .slice C' f.O.length k'], .int .i64 0]) (by simp [results, Try.results16, go_sem, x0, x1, x2, x3, x4, x5]) rfl hres
end Go.Proofs.Ytpnkelmmfcmijaa

/-
  Contracts of the laws' helpers over Machine: szMachine, toMachine, eqMachine, markMachine.
-/
namespace Go.Proofs.Ytpnkelmmfcmijaa
open Go.RowKit

set_option maxHeartbeats 400000 in
theorem szMachine_any (d0 : Int) (d1 : Int) (A0 : Option Addr) (n0 c0 : Nat) (left : Int) (w : World) (h0 : n0 ≤ 9223372036854775807) (g0 : 0 ≤ left) (g1 : left ≤ 1048576) :
    Calls Try.prog 11 #[.agg #[.int .i64 d0, .int .i64 d1, .slice A0 n0 c0], .int .i64 left] w (SzP w left ((n0 : Int))) := by
  obtain ⟨W, hW⟩ : ∃ W, W = w.alloc (.cells #[.int .i64 d0, .int .i64 d1, .slice A0 n0 c0] 24) := ⟨_, rfl⟩
  have b0 : Blk W w.heap.size 24 #[.int .i64 d0, .int .i64 d1, .slice A0 n0 c0] := by rw [hW]; exact Blk.new w _ _
  have z0 : Below w.heap.size w W := by rw [hW]; exact (Below.refl _ _).alloc (Nat.le_refl _) _
  have HW := Lib.hid hW
  clear hW
  go_enter Try.func11, Try.ntmps11
  go_wp2_with fail
  rw [← HW.out]
  refine (szR_p A0 n0 c0 left W h0 (by omega) (by omega)).mono ?_
  rintro e w1 ⟨z1, rfl, l1, u1, e1, b1⟩
  have E1 := Lib.hid e1
  clear e1
  have y1 : Below w.heap.size w w1 := z0.trans (b1.mono z0.size)
  by_cases hneg1 : z1 < 0
  · go_wp2_with fail
    go_ret
    exact ⟨-1, rfl, by omega, by omega, by omega, y1⟩
  go_wp2_with fail
  go_ret
  exact ⟨z1, rfl, by omega, by omega, fun _ => by have t1 := E1.out (by omega); omega, y1⟩

def ToMachine (w : World) (d0 : Int) (d1 : Int) (n0 : Nat) (x0 : List R3) (e : Ending) (w' : World) : Prop :=
  ∃ B0, e = .returned (.agg #[.int .i64 d0, .int .i64 d1, .slice B0 n0 n0]) ∧ Own w' w.heap.size 227 3 B0 n0 n0 (cells3 x0) ∧ Below w.heap.size w w'

set_option maxHeartbeats 1000000 in
theorem toMachine_any (d0 : Int) (d1 : Int) (A0 : Option Addr) (n0 c0 : Nat) (x0 : List R3) (w : World) (r0 : S3 w A0 n0 x0) (h0 : n0 ≤ 1048576) :
    Calls Try.prog 14 #[.agg #[.int .i64 d0, .int .i64 d1, .slice A0 n0 c0]] w (ToMachine w d0 d1 n0 x0) := by
  obtain ⟨W, hW⟩ : ∃ W, W = ((w.alloc (.cells #[.int .i64 d0, .int .i64 d1, .slice A0 n0 c0] 24)).alloc (.cells #[.int .i64 0, .int .i64 0, .slice none 0 0] 37)).alloc (.cells #[.int .i64 d0, .int .i64 d1, .slice none 0 0] 37) := ⟨_, rfl⟩
  have s1 : (w.alloc (.cells #[.int .i64 d0, .int .i64 d1, .slice A0 n0 c0] 24)).heap.size = w.heap.size + 1 := by simp
  have s2 : ((w.alloc (.cells #[.int .i64 d0, .int .i64 d1, .slice A0 n0 c0] 24)).alloc (.cells #[.int .i64 0, .int .i64 0, .slice none 0 0] 37)).heap.size = w.heap.size + 1 + 1 := by simp
  have b0 : Blk W w.heap.size 24 #[.int .i64 d0, .int .i64 d1, .slice A0 n0 c0] := by rw [hW]; exact ((Blk.new w _ _).alloc _).alloc _
  have b1 : Blk W (w.heap.size + 1) 37 #[.int .i64 0, .int .i64 0, .slice none 0 0] := by rw [hW, ← s1]; exact (Blk.new _ _ _).alloc _
  have b2 : Blk W (w.heap.size + 1 + 1) 37 #[.int .i64 d0, .int .i64 d1, .slice none 0 0] := by rw [hW, ← s2]; exact Blk.new _ _ _
  have y0 : Below w.heap.size w W := by rw [hW]; exact (((Below.refl _ _).alloc (Nat.le_refl _) _).alloc (by simp) _).alloc (by simp; omega) _
  have hz : w.heap.size + 1 + 1 < W.heap.size := b2.lt
  have HW := Lib.hid hW
  clear hW s1 s2
  go_enter Try.func14, Try.ntmps14
  go_wp2_with fail
  rw [← HW.out]
  clear HW
  refine (toR _ _ _ x0 _ (r0.below y0) h0).mono ?_
  rintro e w0 ⟨B0, rfl, o0, bz0⟩
  have b0 := b0.below' bz0
  have b1 := b1.below' bz0
  have b2 := b2.below' bz0
  have yc0 : Below w.heap.size w w0 := y0.trans (bz0.mono y0.size)
  have hw0 : W.heap.size ≤ w0.heap.size := by have := bz0.size; omega
  have p0 : w0.cell? ⟨w.heap.size + 1 + 1, 2, none⟩ = some (.slice none 0 0) := b2.cell 2
  have pf0 := b2.frozen 2
  have a0 : w0.cell? ⟨w.heap.size + 1 + 1, 0, none⟩ = some (.int .i64 d0) := b2.cell 0
  have a1 : w0.cell? ⟨w.heap.size + 1 + 1, 1, none⟩ = some (.int .i64 d1) := b2.cell 1
  have c0_ : w0.cell? ⟨w.heap.size + 1, 0, none⟩ = some (.int .i64 0) := b1.cell 0
  have f0_ := b1.frozen 0
  have c1_ : w0.cell? ⟨w.heap.size + 1, 1, none⟩ = some (.int .i64 0) := b1.cell 1
  have f1_ := b1.frozen 1
  have c2_ : w0.cell? ⟨w.heap.size + 1, 2, none⟩ = some (.slice none 0 0) := b1.cell 2
  have f2_ := b1.frozen 2
  go_wp2_with fail
  have dB : Blk ((((w0.setCell ⟨w.heap.size + 1 + 1, 2, none⟩ (.slice B0 n0 n0)).setCell ⟨w.heap.size + 1, 0, none⟩ (.int .i64 d0)).setCell ⟨w.heap.size + 1, 1, none⟩ (.int .i64 d1)).setCell ⟨w.heap.size + 1, 2, none⟩ (.slice B0 n0 n0)) (w.heap.size + 1) 37 #[.int .i64 d0, .int .i64 d1, .slice B0 n0 n0] := (((b1.far (p := ⟨w.heap.size + 1 + 1, 2, none⟩) (by simp) _).set_ 0 _).set_ 1 _).set_ 2 _
  have m0 : Own ((((w0.setCell ⟨w.heap.size + 1 + 1, 2, none⟩ (.slice B0 n0 n0)).setCell ⟨w.heap.size + 1, 0, none⟩ (.int .i64 d0)).setCell ⟨w.heap.size + 1, 1, none⟩ (.int .i64 d1)).setCell ⟨w.heap.size + 1, 2, none⟩ (.slice B0 n0 n0)) W.heap.size 227 3 B0 n0 n0 (cells3 x0) := (((o0.far (fun e => by have := o0.blk_ge _ e; simp at this; omega) _).far (fun e => by have := o0.blk_ge _ e; simp at this; omega) _).far (fun e => by have := o0.blk_ge _ e; simp at this; omega) _).far (fun e => by have := o0.blk_ge _ e; simp at this; omega) _
  have yf : Below w.heap.size w ((((w0.setCell ⟨w.heap.size + 1 + 1, 2, none⟩ (.slice B0 n0 n0)).setCell ⟨w.heap.size + 1, 0, none⟩ (.int .i64 d0)).setCell ⟨w.heap.size + 1, 1, none⟩ (.int .i64 d1)).setCell ⟨w.heap.size + 1, 2, none⟩ (.slice B0 n0 n0)) := (((yc0.setCell (by simp; omega) _).setCell (by simp) _).setCell (by simp) _).setCell (by simp) _
  generalize (((w0.setCell ⟨w.heap.size + 1 + 1, 2, none⟩ (.slice B0 n0 n0)).setCell ⟨w.heap.size + 1, 0, none⟩ (.int .i64 d0)).setCell ⟨w.heap.size + 1, 1, none⟩ (.int .i64 d1)).setCell ⟨w.heap.size + 1, 2, none⟩ (.slice B0 n0 n0) = wf at *
  have g0_ : wf.cell? ⟨w.heap.size + 1, 0, none⟩ = some (.int .i64 d0) := dB.cell 0
  have g1_ : wf.cell? ⟨w.heap.size + 1, 1, none⟩ = some (.int .i64 d1) := dB.cell 1
  have g2_ : wf.cell? ⟨w.heap.size + 1, 2, none⟩ = some (.slice B0 n0 n0) := dB.cell 2
  have hres : ToMachine w d0 d1 n0 x0 (.returned (.agg #[.int .i64 d0, .int .i64 d1, .slice B0 n0 n0])) wf := ⟨B0, rfl, m0.mono (by omega), yf⟩
  exact bodyPost_ret (v := .agg #[.int .i64 d0, .int .i64 d1, .slice B0 n0 n0]) (by simp [results, Try.results14, go_sem, g0_, g1_, g2_]) rfl hres

def sameMachineB (d0 d0' : Int) (d1 d1' : Int) (x0 x0' : List R3) : Bool :=
  decide (d0 = d0') && decide (d1 = d1') && same3 x0 x0'
theorem sameMachineB_self (d0 : Int) (d1 : Int) (x0 : List R3) : sameMachineB d0 d0 d1 d1 x0 x0 = true := by simp [sameMachineB, same3]

set_option maxHeartbeats 1000000 in
theorem eqMachine_any (d0 : Int) (d1 : Int) (A0 : Option Addr) (n0 c0 : Nat) (x0 : List R3) (d0' : Int) (d1' : Int) (A0' : Option Addr) (n0' c0' : Nat) (x0' : List R3) (w : World) (r0 : S3 w A0 n0 x0) (r0' : S3 w A0' n0' x0') (h0 : n0 ≤ 1048576) :
    Calls Try.prog 18 #[.agg #[.int .i64 d0, .int .i64 d1, .slice A0 n0 c0], .agg #[.int .i64 d0', .int .i64 d1', .slice A0' n0' c0']] w fun e w' => e = .returned (.bool (sameMachineB d0 d0' d1 d1' x0 x0')) ∧ Below w.heap.size w w' := by
  obtain ⟨W, hW⟩ : ∃ W, W = (w.alloc (.cells #[.int .i64 d0, .int .i64 d1, .slice A0 n0 c0] 37)).alloc (.cells #[.int .i64 d0', .int .i64 d1', .slice A0' n0' c0'] 37) := ⟨_, rfl⟩
  have s1 : (w.alloc (.cells #[.int .i64 d0, .int .i64 d1, .slice A0 n0 c0] 37)).heap.size = w.heap.size + 1 := by simp
  have b0 : Blk W w.heap.size 37 #[.int .i64 d0, .int .i64 d1, .slice A0 n0 c0] := by rw [hW]; exact (Blk.new w _ _).alloc _
  have b1 : Blk W (w.heap.size + 1) 37 #[.int .i64 d0', .int .i64 d1', .slice A0' n0' c0'] := by rw [hW, ← s1]; exact Blk.new _ _ _
  have y0 : Below w.heap.size w W := by rw [hW]; exact ((Below.refl _ _).alloc (Nat.le_refl _) _).alloc (by simp) _
  have HW := Lib.hid hW
  clear hW s1
  cases hd_d0 : (d0 != d0')
  · skip
    have HD_d0 := Lib.hid (show d0 = d0' by simpa using hd_d0)
    cases hd_d1 : (d1 != d1')
    · skip
      have HD_d1 := Lib.hid (show d1 = d1' by simpa using hd_d1)
      go_enter Try.func18, Try.ntmps18
      go_wp2_with fail
      rw [← HW.out]
      clear hd_d0 hd_d1
      refine (eqR _ _ _ _ _ _ x0 x0' _ (r0.below y0) (r0'.below y0) (by omega)).mono ?_
      rintro e w0 ⟨rfl, bz0⟩
      have yy0 : Below w.heap.size w w0 := y0.trans (bz0.mono y0.size)
      have b0 := b0.below' bz0
      have b1 := b1.below' bz0
      cases hs0 : same3 x0 x0'
      · have HS := Lib.hid hs0
        clear hs0
        go_wp2_with fail
        go_ret
        exact ⟨ret_bool (by unfold sameMachineB; rw [HS.out]; simp), yy0⟩
      · skip
        have HS0 := Lib.hid hs0
        clear hs0
        go_wp2_with fail
        go_ret
        exact ⟨ret_bool (by unfold sameMachineB; rw [HS0.out]; simp [HD_d0.out, HD_d1.out]), yy0⟩
    · have HD := Lib.hid (show ¬ d1 = d1' by simpa using hd_d1)
      go_enter Try.func18, Try.ntmps18
      go_wp2_with fail
      rw [← HW.out]
      go_ret
      exact ⟨ret_bool (by unfold sameMachineB; simp [HD.out]), y0⟩
  · have HD := Lib.hid (show ¬ d0 = d0' by simpa using hd_d0)
    go_enter Try.func18, Try.ntmps18
    go_wp2_with fail
    rw [← HW.out]
    go_ret
    exact ⟨ret_bool (by unfold sameMachineB; simp [HD.out]), y0⟩

set_option maxHeartbeats 400000 in
theorem markMachine_m (T : List TypeId) (d0 : Int) (d1 : Int) (A0 : Option Addr) (n0 c0 : Nat) (p : Int) (w : World) (lo hi : Nat) (m0 : Mk w lo hi 227 3 A0 n0) (h0 : n0 ≤ 1048576) (tR : 227 ∈ T) (tX : 37 ∉ T) (g0 : 0 ≤ p) (g1 : p ≤ 9223372036800000000) :
    Calls Try.prog 20 #[.agg #[.int .i64 d0, .int .i64 d1, .slice A0 n0 c0], .int .i64 p] w (MarkP T w lo hi (n0 * 3) p) := by
  obtain ⟨W, hW⟩ : ∃ W, W = w.alloc (.cells #[.int .i64 d0, .int .i64 d1, .slice A0 n0 c0] 37) := ⟨_, rfl⟩
  have b0 : Blk W w.heap.size 37 #[.int .i64 d0, .int .i64 d1, .slice A0 n0 c0] := by rw [hW]; exact Blk.new w _ _
  have z0 : Below w.heap.size w W := by rw [hW]; exact (Below.refl _ _).alloc (Nat.le_refl _) _
  have HW := Lib.hid hW
  clear hW
  have TR := Lib.hid tR
  have TX := Lib.hid tX
  clear tR tX
  go_enter Try.func20, Try.ntmps20
  have f0 : MkF T lo hi w W := MkF.of_below z0
  go_wp2_with fail
  rw [← HW.out]
  refine (markR_m T _ _ _ _ _ lo hi (m0.mkf f0) TR.out (by omega) (by omega)).mono ?_
  rintro e w0 ⟨rfl, ff0⟩
  have f1 := f0.trans ff0
  have b0 := b0.mkf ff0 TX.out
  go_wp2_with fail
  go_ret
  exact ⟨ret_int (by omega), f1⟩
end Go.Proofs.Ytpnkelmmfcmijaa
