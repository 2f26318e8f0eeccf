/-
  Contract of the reference's l05Run.
-/
import Derived.Test.YthipbeggaeogcaaRunS
import Derived.Deep.DeepCutAuto
namespace Go.Proofs.Ythipbeggaeogcaa
open Go.RowKit

def SpecRun (w : World) (sy : Int) (rs : List R3) (c : Conf) (N : Nat) (e : Ending) (w' : World) : Prop :=
  ((∃ i, Ended sy rs c N i ∧ ∃ L a R d, e = .returned (.tuple #[.agg #[.int .i64 (itC sy rs c i).q, .slice L (itC sy rs c i).xs.length a, .slice R (itC sy rs c i).ys.length d], .int .i64 (i : Int), .bool (haltC sy rs (itC sy rs c i)), .bool true]) ∧
      Own w' w.heap.size 2 1 L (itC sy rs c i).xs.length a (ints (itC sy rs c i).xs) ∧ Own w' w.heap.size 2 1 R (itC sy rs c i).ys.length d (ints (itC sy rs c i).ys) ∧ (∀ b, blk L = some b → blk R ≠ some b)) ∨
    (∃ i, Full sy rs c N i) ∧ e = .returned (.tuple #[.agg #[.int .i64 0, .slice none 0 0, .slice none 0 0], .int .i64 0, .bool false, .bool false])) ∧ Below w.heap.size w w'

set_option maxRecDepth 100000 in
set_option maxHeartbeats 4000000 in
theorem l05Run_any (g : Nat) (sy st : Int) (A : Option Addr) (n k : Nat) (rs : List R3) (c : Conf) (L : Option Addr) (a : Nat) (R : Option Addr) (d : Nat) (N : Nat) (w : World) (hm : MachAt w g sy st A n k) (hrs : S3 w A n rs) (hx : SI w L c.xs.length c.xs) (hy : SI w R c.ys.length c.ys) (hgc : goodC sy st rs c) (hn : n ≤ 1048576) (hN : N ≤ 1000000) :
    Calls Try.prog 173 #[.pointer (some ⟨g, 0, none⟩), .agg #[.int .i64 c.q, .slice L c.xs.length a, .slice R c.ys.length d], .int .i64 (N : Int)] w (SpecRun w sy rs c N) := by
  obtain ⟨W, hW⟩ : ∃ W, W = (w.alloc (.cells #[.int .i64 c.q, .slice L c.xs.length a, .slice R c.ys.length d] 172)).alloc (.cells #[.int .i64 0, .slice none 0 0, .slice none 0 0] 172) := ⟨_, rfl⟩
  have s1 : (w.alloc (.cells #[.int .i64 c.q, .slice L c.xs.length a, .slice R c.ys.length d] 172)).heap.size = w.heap.size + 1 := by simp
  have b0 : Blk W w.heap.size 172 #[.int .i64 c.q, .slice L c.xs.length a, .slice R c.ys.length d] := by rw [hW]; exact (Blk.new w _ _).alloc _
  have b1 : Blk W (w.heap.size + 1) 172 #[.int .i64 0, .slice none 0 0, .slice none 0 0] := by rw [hW, ← s1]; exact Blk.new _ _ _
  have y0 : Below w.heap.size w W := by rw [hW]; exact ((Below.refl _ _).alloc (Nat.le_refl _) _).alloc (by simp) _
  have HW := Lib.hid hW
  clear hW s1
  have hl := conf_parts hgc
  have hxl : c.xs.length ≤ 1048576 := by have := hl.2.2.2.2.2.2.2.1; omega
  have hyl : c.ys.length ≤ 1048576 := by have := hl.2.2.2.2.2.2.2.2.1; omega
  clear hl
  go_enter Try.func173, Try.ntmps173
  go_wp2_with fail
  rw [← HW.out]
  clear HW
  refine (l05OwnConfig_any _ _ _ _ _ c.xs _ _ _ c.ys _ b0.confAt (hx.below y0) (hy.below y0) hxl hyl).mono ?_
  rintro e W1 ⟨L1, a1, R1, d1, rfl, o1, o1', hap1, z1⟩
  have HAP1 := Lib.hid hap1
  clear hap1
  obtain ⟨W2, hW2⟩ : ∃ W, W = W1.alloc (.cells #[.int .i64 c.q, .slice L1 c.xs.length a1, .slice R1 c.ys.length d1] 172) := ⟨_, rfl⟩
  have b2 : Blk W2 W1.heap.size 172 #[.int .i64 c.q, .slice L1 c.xs.length a1, .slice R1 c.ys.length d1] := by rw [hW2]; exact Blk.new W1 _ _
  have z2 : Below W1.heap.size W1 W2 := by rw [hW2]; exact (Below.refl _ _).alloc (Nat.le_refl _) _
  have y2 : Below w.heap.size w W2 := (y0.trans (z1.mono y0.size)).trans (z2.mono (y0.trans (z1.mono y0.size)).size)
  have hC2 : ConfC W2 w.heap.size W1.heap.size c := ⟨L1, a1, R1, d1, b2, (o1.below z2).mono y0.size, (o1'.below z2).mono y0.size, HAP1.out⟩
  have b12 := (b1.below' z1).below' z2
  have hf : w.heap.size + 1 < W1.heap.size := by have := (b1.below' z1).lt; omega
  have HW2 := Lib.hid hW2
  clear hW2 b0 b1 o1 o1' HAP1 b2
  go_wp2_with fail
  rw [← HW2.out]
  clear HW2
  obtain ⟨f, hf'⟩ : ∃ f, f = W1.heap.size := ⟨_, rfl⟩
  rw [← hf'] at hC2 hf
  rw [← hf']
  clear hf' z1 z2
  go_loopw [11] (fun s wr => ∃ i : Nat, s = .int .i64 (i : Int) ∧ i ≤ N ∧ Alive sy rs c i ∧ ConfC wr w.heap.size f (itC sy rs c i) ∧ Blk wr (w.heap.size + 1) 172 #[.int .i64 0, .slice none 0 0, .slice none 0 0] ∧ Below w.heap.size w wr) (fun s _ => N - (intOf s).toNat)
  case atStart => exact ⟨0, rfl, Nat.zero_le _, Alive.zero _ _ _, hC2, b12, y2⟩
  case round =>
    obtain ⟨i, rfl, hi, hal, hC, hB, hY⟩ := hrel
    have HGOOD := Lib.hid (hal.good hgc)
    have HAL := Lib.hid hal
    clear hal hC2 b12 y2 y0
    have hhalt := l05Halts_c (hm.below hY) (hrs.below hY) hC HGOOD.out hn
    have HHALT := Lib.hid hhalt
    clear hhalt
    have hBlt : w.heap.size + 1 < wr.heap.size := hB.lt
    by_cases hlt : i < N
    · go_wp2_with fail
      refine HHALT.out.mono ?_
      rintro e W3 ⟨rfl, z3⟩
      have hC3 := hC.below z3
      have hB3 := hB.below' z3
      have hY3 : Below w.heap.size w W3 := hY.trans (z3.mono hY.size)
      cases hh : haltC sy rs (itC sy rs c i) with
      | true =>
        have HH := Lib.hid hh
        clear hh
        obtain ⟨L3, a3, R3', d3, bc, ol, or_, hap⟩ := hC3
        have HAP := Lib.hid hap
        clear hap
        have c0 : W3.cell? ⟨f, 0, none⟩ = some (.int .i64 (itC sy rs c i).q) := bc.cell 0
        have c1 : W3.cell? ⟨f, 1, none⟩ = some (.slice L3 (itC sy rs c i).xs.length a3) := bc.cell 1
        have c2 : W3.cell? ⟨f, 2, none⟩ = some (.slice R3' (itC sy rs c i).ys.length d3) := bc.cell 2
        have u0 : W3.cell? ⟨w.heap.size + 1, 0, none⟩ = some (.int .i64 0) := hB3.cell 0
        have u1 : W3.cell? ⟨w.heap.size + 1, 1, none⟩ = some (.slice none 0 0) := hB3.cell 1
        have u2 : W3.cell? ⟨w.heap.size + 1, 2, none⟩ = some (.slice none 0 0) := hB3.cell 2
        have f0 := hB3.frozen 0
        have f1 := hB3.frozen 1
        have f2 := hB3.frozen 2
        go_wp2_with fail
        have hCf := ConfC.set3 (c := itC sy rs c i) rfl hB3 ol or_ HAP.out
        have hYf := conf_below hY3 (show w.heap.size ≤ w.heap.size + 1 by omega) (.int .i64 (itC sy rs c i).q) (.slice L3 (itC sy rs c i).xs.length a3) (.slice R3' (itC sy rs c i).ys.length d3)
        generalize ((W3.setCell ⟨w.heap.size + 1, 0, none⟩ (.int .i64 (itC sy rs c i).q)).setCell ⟨w.heap.size + 1, 1, none⟩ (.slice L3 (itC sy rs c i).xs.length a3)).setCell ⟨w.heap.size + 1, 2, none⟩ (.slice R3' (itC sy rs c i).ys.length d3) = Wf at *
        obtain ⟨Lf, af, Rf, df, bf, olf, orf, hapf⟩ := hCf
        have g0 : Wf.cell? ⟨w.heap.size + 1, 0, none⟩ = some (.int .i64 (itC sy rs c i).q) := bf.cell 0
        have g1 : Wf.cell? ⟨w.heap.size + 1, 1, none⟩ = some (.slice Lf (itC sy rs c i).xs.length af) := bf.cell 1
        have g2 : Wf.cell? ⟨w.heap.size + 1, 2, none⟩ = some (.slice Rf (itC sy rs c i).ys.length df) := bf.cell 2
        exact bodyPost_ret (v := .tuple #[.agg #[.int .i64 (itC sy rs c i).q, .slice Lf (itC sy rs c i).xs.length af, .slice Rf (itC sy rs c i).ys.length df], .int .i64 (i : Int), .bool true, .bool true]) (by simp [results, Try.results173, go_sem, g0, g1, g2]) rfl ⟨.inl ⟨i, ⟨hi, HAL.out, .inr HH.out⟩, Lf, af, Rf, df, by rw [HH.out], olf, orf, hapf⟩, hYf⟩
      | false =>
        have HH := Lib.hid hh
        clear hh
        have hstep := l05Step_c (hm.below hY3) (hrs.below hY3) hC3 HGOOD.out hn
        have HSTEP := Lib.hid hstep
        clear hstep
        go_wp2_with fail
        refine HSTEP.out.mono ?_
        rintro e W4 ⟨L4, a4, R4, d4, rfl, ol4, or4, hap4, z4⟩
        have HAP4 := Lib.hid hap4
        clear hap4 HSTEP HHALT
        have hY4 : Below w.heap.size w W4 := hY3.trans (z4.mono hY3.size)
        obtain ⟨W5, hW5⟩ : ∃ W, W = W4.alloc (.cells #[.int .i64 (nextC sy rs (itC sy rs c i)).q, .slice L4 (nextC sy rs (itC sy rs c i)).xs.length a4, .slice R4 (nextC sy rs (itC sy rs c i)).ys.length d4] 172) := ⟨_, rfl⟩
        have b5 : Blk W5 W4.heap.size 172 #[.int .i64 (nextC sy rs (itC sy rs c i)).q, .slice L4 (nextC sy rs (itC sy rs c i)).xs.length a4, .slice R4 (nextC sy rs (itC sy rs c i)).ys.length d4] := by rw [hW5]; exact Blk.new W4 _ _
        have z5 : Below W4.heap.size W4 W5 := by rw [hW5]; exact (Below.refl _ _).alloc (Nat.le_refl _) _
        have HW5 := Lib.hid hW5
        clear hW5
        have hY5 : Below w.heap.size w W5 := hY4.trans (z5.mono hY4.size)
        have hB5 := (hB3.below' z4).below' z5
        have hC5 := (hC3.below z4).below z5
        obtain ⟨L5, a5, R5, d5, bc5, _, _, _⟩ := hC5
        have hfW : f < W4.heap.size := by obtain ⟨_, _, _, _, b4, _⟩ := hC3.below z4; exact b4.lt
        have hB5lt : w.heap.size + 1 < W4.heap.size := (hB3.below' z4).lt
        cases hro : roomC (nextC sy rs (itC sy rs c i)) with
        | true =>
          have HRO := Lib.hid hro
          clear hro
          go_upto_region 8 with fail
          rw [← HW5.out]
          clear HW5
          have c0 : W5.cell? ⟨W4.heap.size, 0, none⟩ = some (.int .i64 (nextC sy rs (itC sy rs c i)).q) := b5.cell 0
          have c1 : W5.cell? ⟨W4.heap.size, 1, none⟩ = some (.slice L4 (nextC sy rs (itC sy rs c i)).xs.length a4) := b5.cell 1
          have c2 : W5.cell? ⟨W4.heap.size, 2, none⟩ = some (.slice R4 (nextC sy rs (itC sy rs c i)).ys.length d4) := b5.cell 2
          have u0 : W5.cell? ⟨f, 0, none⟩ = some (.int .i64 (itC sy rs c i).q) := bc5.cell 0
          have u1 : W5.cell? ⟨f, 1, none⟩ = some (.slice L5 (itC sy rs c i).xs.length a5) := bc5.cell 1
          have u2 : W5.cell? ⟨f, 2, none⟩ = some (.slice R5 (itC sy rs c i).ys.length d5) := bc5.cell 2
          have f0 := bc5.frozen 0
          have f1 := bc5.frozen 1
          have f2 := bc5.frozen 2
          go_wp2_with fail
          have hCf := ConfC.set3 (c := nextC sy rs (itC sy rs c i)) rfl bc5 ((ol4.below z5).mono hY3.size) ((or4.below z5).mono hY3.size) HAP4.out
          have hYf := conf_below hY5 (show w.heap.size ≤ f by omega) (.int .i64 (nextC sy rs (itC sy rs c i)).q) (.slice L4 (nextC sy rs (itC sy rs c i)).xs.length a4) (.slice R4 (nextC sy rs (itC sy rs c i)).ys.length d4)
          have hBf := ((hB5.far (p := ⟨f, 0, none⟩) (show w.heap.size + 1 ≠ f by omega) (.int .i64 (nextC sy rs (itC sy rs c i)).q)).far (p := ⟨f, 1, none⟩) (show w.heap.size + 1 ≠ f by omega) (.slice L4 (nextC sy rs (itC sy rs c i)).xs.length a4)).far (p := ⟨f, 2, none⟩) (show w.heap.size + 1 ≠ f by omega) (.slice R4 (nextC sy rs (itC sy rs c i)).ys.length d4)
          go_roundw
          case rel => exact ⟨i + 1, by go_num, by omega, HAL.out.next HH.out HRO.out, hCf, hBf, hYf⟩
          case measure => simp [intOf]; omega
        | false =>
          have HRO := Lib.hid hro
          clear hro
          go_upto_region 8 with fail
          rw [← HW5.out]
          clear HW5
          have u0 : W5.cell? ⟨w.heap.size + 1, 0, none⟩ = some (.int .i64 0) := hB5.cell 0
          have u1 : W5.cell? ⟨w.heap.size + 1, 1, none⟩ = some (.slice none 0 0) := hB5.cell 1
          have u2 : W5.cell? ⟨w.heap.size + 1, 2, none⟩ = some (.slice none 0 0) := hB5.cell 2
          have f0 := hB5.frozen 0
          have f1 := hB5.frozen 1
          have f2 := hB5.frozen 2
          go_wp2_with fail
          have d1 := conf_set hB5 (.int .i64 0) (.slice none 0 0) (.slice none 0 0)
          exact bodyPost_ret (v := .tuple #[.agg #[.int .i64 0, .slice none 0 0, .slice none 0 0], .int .i64 0, .bool false, .bool false]) (by simp [results, Try.results173, go_sem, d1.cell 0, d1.cell 1, d1.cell 2]) rfl ⟨.inr ⟨⟨i, hlt, HAL.out, HH.out, HRO.out⟩, rfl⟩, conf_below hY5 (by omega) _ _ _⟩
    · have hC0 := hC
      obtain ⟨L3, a3, R3', d3, bc0, ol0, or0, hap⟩ := hC0
      have HAP := Lib.hid hap
      clear hap
      have c0 : wr.cell? ⟨f, 0, none⟩ = some (.int .i64 (itC sy rs c i).q) := bc0.cell 0
      have c1 : wr.cell? ⟨f, 1, none⟩ = some (.slice L3 (itC sy rs c i).xs.length a3) := bc0.cell 1
      have c2 : wr.cell? ⟨f, 2, none⟩ = some (.slice R3' (itC sy rs c i).ys.length d3) := bc0.cell 2
      clear HHALT
      have hhalt := l05Halts_c (w := wr.drewN 1) ((hm.below hY).drewN 1) ((hrs.below hY).drewN 1) (hC.drewN 1) HGOOD.out hn
      have HHALT := Lib.hid hhalt
      clear hhalt
      have n1 : ¬ f = w.heap.size + 1 := by omega
      go_wp2_with fail
      go_region_held3 (fun w' => w'.cell? ⟨f, 0, none⟩ = some (.int .i64 (itC sy rs c i).q) ∧ w'.cell? ⟨f, 1, none⟩ = some (.slice L3 (itC sy rs c i).xs.length a3) ∧ w'.cell? ⟨f, 2, none⟩ = some (.slice R3' (itC sy rs c i).ys.length d3))
        (first
          | (go_keep; done)
          | (exact ⟨(bc0.below' z3).cell 0, (bc0.below' z3).cell 1, (bc0.below' z3).cell 2⟩)
          | (exact ⟨far_set n1 (far_set n1 (far_set n1 ((bc0.below' z3).cell 0))), far_set n1 (far_set n1 (far_set n1 ((bc0.below' z3).cell 1))), far_set n1 (far_set n1 (far_set n1 ((bc0.below' z3).cell 2)))⟩))
        ((go_at_call 138; refine HHALT.out.mono ?_; rintro e W3 ⟨rfl, z3'⟩; have z3 : Below wr.heap.size wr W3 := below_undrew z3'; have hB3 := hB.below' z3; have u0 : W3.cell? ⟨w.heap.size + 1, 0, none⟩ = some (.int .i64 0) := hB3.cell 0; have u1 : W3.cell? ⟨w.heap.size + 1, 1, none⟩ = some (.slice none 0 0) := hB3.cell 1; have u2 : W3.cell? ⟨w.heap.size + 1, 2, none⟩ = some (.slice none 0 0) := hB3.cell 2; have f0 := hB3.frozen 0; have f1 := hB3.frozen 1; have f2 := hB3.frozen 2))
      go_wp2_with fail
      have hCf := ConfC.set3 (c := itC sy rs c i) rfl hB3 (ol0.below z3) (or0.below z3) HAP.out
      have hY3 : Below w.heap.size w W3 := hY.trans (z3.mono hY.size)
      have hYf := conf_below hY3 (show w.heap.size ≤ w.heap.size + 1 by omega) (.int .i64 (itC sy rs c i).q) (.slice L3 (itC sy rs c i).xs.length a3) (.slice R3' (itC sy rs c i).ys.length d3)
      generalize ((W3.setCell ⟨w.heap.size + 1, 0, none⟩ (.int .i64 (itC sy rs c i).q)).setCell ⟨w.heap.size + 1, 1, none⟩ (.slice L3 (itC sy rs c i).xs.length a3)).setCell ⟨w.heap.size + 1, 2, none⟩ (.slice R3' (itC sy rs c i).ys.length d3) = Wf at *
      obtain ⟨Lf, af, Rf, df, bf, olf, orf, hapf⟩ := hCf
      have g0 : Wf.cell? ⟨w.heap.size + 1, 0, none⟩ = some (.int .i64 (itC sy rs c i).q) := bf.cell 0
      have g1 : Wf.cell? ⟨w.heap.size + 1, 1, none⟩ = some (.slice Lf (itC sy rs c i).xs.length af) := bf.cell 1
      have g2 : Wf.cell? ⟨w.heap.size + 1, 2, none⟩ = some (.slice Rf (itC sy rs c i).ys.length df) := bf.cell 2
      have hiN : i = N := by omega
      exact bodyPost_ret (v := .tuple #[.agg #[.int .i64 (itC sy rs c i).q, .slice Lf (itC sy rs c i).xs.length af, .slice Rf (itC sy rs c i).ys.length df], .int .i64 (N : Int), .bool (haltC sy rs (itC sy rs c i)), .bool true]) (by simp [results, Try.results173, go_sem, g0, g1, g2]) rfl ⟨.inl ⟨i, ⟨hi, HAL.out, .inl hiN⟩, Lf, af, Rf, df, by rw [hiN], olf, orf, hapf⟩, hYf⟩
end Go.Proofs.Ythipbeggaeogcaa
