/-
  Contract of the reference's l05Run.
-/
import Derived.Test.YtokglpdlhacnaaaDoorPbBackAll3
import Derived.Test.YtokglpdlhacnaaaDoorPbBackAll4
import Derived.Test.YtokglpdlhacnaaaDoorPbBackAll5
import Derived.Test.YtokglpdlhacnaaaDoorPbBackAll8
import Derived.Test.YtokglpdlhacnaaaDoorPbBackAll10
import Derived.Test.YtokglpdlhacnaaaDoorPbBackAll11
import Derived.Test.YtokglpdlhacnaaaDoorPkdHaltLevels0
import Derived.Deep.DeepCutAuto
import Derived.BigRegion
import Derived.BigQuiet
import Derived.Lib.VarintBits
namespace Go.Proofs.YtokglpdlhacnaaaDoor
open Go.RowKit

def SpecRun (w : World) (sy : Int) (rs : List R3) (c : Conf) (N : Nat) (e : Ending) (w' : World) : Prop :=
  ((∃ i, Ended sy rs c N i ∧ ∃ L a R d, e = .returned (.tuple #[.agg #[.int .i64 (itC sy rs c i).q, .slice L (itC sy rs c i).xs.length a, .slice R (itC sy rs c i).ys.length d], .int .i64 (i : Int), .bool (haltC sy rs (itC sy rs c i)), .bool true]) ∧
      Own w' w.heap.size 2 1 L (itC sy rs c i).xs.length a (ints (itC sy rs c i).xs) ∧ Own w' w.heap.size 2 1 R (itC sy rs c i).ys.length d (ints (itC sy rs c i).ys) ∧ (∀ b, blk L = some b → blk R ≠ some b)) ∨
    (∃ i, Full sy rs c N i) ∧ e = .returned (.tuple #[.agg #[.int .i64 0, .slice none 0 0, .slice none 0 0], .int .i64 0, .bool false, .bool false])) ∧ Below w.heap.size w w'

set_option maxRecDepth 100000 in
set_option maxHeartbeats 4000000 in
theorem l05Run_any (g : Nat) (sy st : Int) (A : Option Addr) (n k : Nat) (rs : List R3) (c : Conf) (L : Option Addr) (a : Nat) (R : Option Addr) (d : Nat) (N : Nat) (w : World) (hm : MachAt w g sy st A n k) (hrs : S3 w A n rs) (hx : SI w L c.xs.length c.xs) (hy : SI w R c.ys.length c.ys) (hgc : goodC sy st rs c) (hn : n ≤ 1048576) (hN : N ≤ 1000000) :
    Calls Tryd.prog 80 #[.pointer (some ⟨g, 0, none⟩), .agg #[.int .i64 c.q, .slice L c.xs.length a, .slice R c.ys.length d], .int .i64 (N : Int)] w (SpecRun w sy rs c N) := by
  obtain ⟨W, hW⟩ : ∃ W, W = (w.alloc (.cells #[.int .i64 c.q, .slice L c.xs.length a, .slice R c.ys.length d] 68)).alloc (.cells #[.int .i64 0, .slice none 0 0, .slice none 0 0] 68) := ⟨_, rfl⟩
  have s1 : (w.alloc (.cells #[.int .i64 c.q, .slice L c.xs.length a, .slice R c.ys.length d] 68)).heap.size = w.heap.size + 1 := by simp
  have b0 : Blk W w.heap.size 68 #[.int .i64 c.q, .slice L c.xs.length a, .slice R c.ys.length d] := by rw [hW]; exact (Blk.new w _ _).alloc _
  have b1 : Blk W (w.heap.size + 1) 68 #[.int .i64 0, .slice none 0 0, .slice none 0 0] := by rw [hW, ← s1]; exact Blk.new _ _ _
  have y0 : Below w.heap.size w W := by rw [hW]; exact ((Below.refl _ _).alloc (Nat.le_refl _) _).alloc (by simp) _
  have HW := Lib.hid hW
  clear hW s1
  have hl := conf_parts hgc
  have hxl : c.xs.length ≤ 1048576 := by have := hl.2.2.2.2.2.2.2.1; omega
  have hyl : c.ys.length ≤ 1048576 := by have := hl.2.2.2.2.2.2.2.2.1; omega
  clear hl
  go_enter Tryd.func80, Tryd.ntmps80
  go_wp2_with fail
  rw [← HW.out]
  clear HW
  refine (l05OwnConfig_any _ _ _ _ _ c.xs _ _ _ c.ys _ b0.confAt (hx.below y0) (hy.below y0) hxl hyl).mono ?_
  rintro e W1 ⟨L1, a1, R1, d1, rfl, o1, o1', hap1, z1⟩
  have HAP1 := Lib.hid hap1
  clear hap1
  obtain ⟨W2, hW2⟩ : ∃ W, W = W1.alloc (.cells #[.int .i64 c.q, .slice L1 c.xs.length a1, .slice R1 c.ys.length d1] 68) := ⟨_, rfl⟩
  have b2 : Blk W2 W1.heap.size 68 #[.int .i64 c.q, .slice L1 c.xs.length a1, .slice R1 c.ys.length d1] := by rw [hW2]; exact Blk.new W1 _ _
  have z2 : Below W1.heap.size W1 W2 := by rw [hW2]; exact (Below.refl _ _).alloc (Nat.le_refl _) _
  have y2 : Below w.heap.size w W2 := (y0.trans (z1.mono y0.size)).trans (z2.mono (y0.trans (z1.mono y0.size)).size)
  have hC2 : ConfC W2 w.heap.size W1.heap.size c := ⟨L1, a1, R1, d1, b2, (o1.below z2).mono y0.size, (o1'.below z2).mono y0.size, HAP1.out⟩
  have b12 := (b1.below' z1).below' z2
  have hf : w.heap.size + 1 < W1.heap.size := by have := (b1.below' z1).lt; omega
  have HW2 := Lib.hid hW2
  clear hW2 b0 b1 o1 o1' HAP1 b2
  go_wp2_with fail
  rw [← HW2.out]
  clear HW2
  obtain ⟨f, hf'⟩ : ∃ f, f = W1.heap.size := ⟨_, rfl⟩
  rw [← hf'] at hC2 hf
  rw [← hf']
  clear hf' z1 z2
  go_loopw [11] (fun s wr => ∃ i : Nat, s = .int .i64 (i : Int) ∧ i ≤ N ∧ Alive sy rs c i ∧ ConfC wr w.heap.size f (itC sy rs c i) ∧ Blk wr (w.heap.size + 1) 68 #[.int .i64 0, .slice none 0 0, .slice none 0 0] ∧ Below w.heap.size w wr) (fun s _ => N - (intOf s).toNat)
  case atStart => exact ⟨0, rfl, Nat.zero_le _, Alive.zero _ _ _, hC2, b12, y2⟩
  case round =>
    obtain ⟨i, rfl, hi, hal, hC, hB, hY⟩ := hrel
    have HGOOD := Lib.hid (hal.good hgc)
    have HAL := Lib.hid hal
    clear hal hC2 b12 y2 y0
    have hhalt := l05Halts_c (hm.below hY) (hrs.below hY) hC HGOOD.out hn
    have HHALT := Lib.hid hhalt
    clear hhalt
    have hBlt : w.heap.size + 1 < wr.heap.size := hB.lt
    by_cases hlt : i < N
    · go_wp2_with fail
      refine HHALT.out.mono ?_
      rintro e W3 ⟨rfl, z3⟩
      have hC3 := hC.below z3
      have hB3 := hB.below' z3
      have hY3 : Below w.heap.size w W3 := hY.trans (z3.mono hY.size)
      cases hh : haltC sy rs (itC sy rs c i) with
      | true =>
        have HH := Lib.hid hh
        clear hh
        obtain ⟨L3, a3, R3', d3, bc, ol, or_, hap⟩ := hC3
        have HAP := Lib.hid hap
        clear hap
        have c0 : W3.cell? ⟨f, 0, none⟩ = some (.int .i64 (itC sy rs c i).q) := bc.cell 0
        have c1 : W3.cell? ⟨f, 1, none⟩ = some (.slice L3 (itC sy rs c i).xs.length a3) := bc.cell 1
        have c2 : W3.cell? ⟨f, 2, none⟩ = some (.slice R3' (itC sy rs c i).ys.length d3) := bc.cell 2
        have u0 : W3.cell? ⟨w.heap.size + 1, 0, none⟩ = some (.int .i64 0) := hB3.cell 0
        have u1 : W3.cell? ⟨w.heap.size + 1, 1, none⟩ = some (.slice none 0 0) := hB3.cell 1
        have u2 : W3.cell? ⟨w.heap.size + 1, 2, none⟩ = some (.slice none 0 0) := hB3.cell 2
        have f0 := hB3.frozen 0
        have f1 := hB3.frozen 1
        have f2 := hB3.frozen 2
        go_wp2_with fail
        have hCf := ConfC.set3 (c := itC sy rs c i) rfl hB3 ol or_ HAP.out
        have hYf := conf_below hY3 (show w.heap.size ≤ w.heap.size + 1 by omega) (.int .i64 (itC sy rs c i).q) (.slice L3 (itC sy rs c i).xs.length a3) (.slice R3' (itC sy rs c i).ys.length d3)
        generalize ((W3.setCell ⟨w.heap.size + 1, 0, none⟩ (.int .i64 (itC sy rs c i).q)).setCell ⟨w.heap.size + 1, 1, none⟩ (.slice L3 (itC sy rs c i).xs.length a3)).setCell ⟨w.heap.size + 1, 2, none⟩ (.slice R3' (itC sy rs c i).ys.length d3) = Wf at *
        obtain ⟨Lf, af, Rf, df, bf, olf, orf, hapf⟩ := hCf
        have g0 : Wf.cell? ⟨w.heap.size + 1, 0, none⟩ = some (.int .i64 (itC sy rs c i).q) := bf.cell 0
        have g1 : Wf.cell? ⟨w.heap.size + 1, 1, none⟩ = some (.slice Lf (itC sy rs c i).xs.length af) := bf.cell 1
        have g2 : Wf.cell? ⟨w.heap.size + 1, 2, none⟩ = some (.slice Rf (itC sy rs c i).ys.length df) := bf.cell 2
        exact bodyPost_ret (v := .tuple #[.agg #[.int .i64 (itC sy rs c i).q, .slice Lf (itC sy rs c i).xs.length af, .slice Rf (itC sy rs c i).ys.length df], .int .i64 (i : Int), .bool true, .bool true]) (by simp [results, Tryd.results80, go_sem, g0, g1, g2]) rfl ⟨.inl ⟨i, ⟨hi, HAL.out, .inr HH.out⟩, Lf, af, Rf, df, by rw [HH.out], olf, orf, hapf⟩, hYf⟩
      | false =>
        have HH := Lib.hid hh
        clear hh
        have hstep := l05Step_c (hm.below hY3) (hrs.below hY3) hC3 HGOOD.out hn
        have HSTEP := Lib.hid hstep
        clear hstep
        go_wp2_with fail
        refine HSTEP.out.mono ?_
        rintro e W4 ⟨L4, a4, R4, d4, rfl, ol4, or4, hap4, z4⟩
        have HAP4 := Lib.hid hap4
        clear hap4 HSTEP HHALT
        have hY4 : Below w.heap.size w W4 := hY3.trans (z4.mono hY3.size)
        obtain ⟨W5, hW5⟩ : ∃ W, W = W4.alloc (.cells #[.int .i64 (nextC sy rs (itC sy rs c i)).q, .slice L4 (nextC sy rs (itC sy rs c i)).xs.length a4, .slice R4 (nextC sy rs (itC sy rs c i)).ys.length d4] 68) := ⟨_, rfl⟩
        have b5 : Blk W5 W4.heap.size 68 #[.int .i64 (nextC sy rs (itC sy rs c i)).q, .slice L4 (nextC sy rs (itC sy rs c i)).xs.length a4, .slice R4 (nextC sy rs (itC sy rs c i)).ys.length d4] := by rw [hW5]; exact Blk.new W4 _ _
        have z5 : Below W4.heap.size W4 W5 := by rw [hW5]; exact (Below.refl _ _).alloc (Nat.le_refl _) _
        have HW5 := Lib.hid hW5
        clear hW5
        have hY5 : Below w.heap.size w W5 := hY4.trans (z5.mono hY4.size)
        have hB5 := (hB3.below' z4).below' z5
        have hC5 := (hC3.below z4).below z5
        obtain ⟨L5, a5, R5, d5, bc5, _, _, _⟩ := hC5
        have hfW : f < W4.heap.size := by obtain ⟨_, _, _, _, b4, _⟩ := hC3.below z4; exact b4.lt
        have hB5lt : w.heap.size + 1 < W4.heap.size := (hB3.below' z4).lt
        cases hro : roomC (nextC sy rs (itC sy rs c i)) with
        | true =>
          have HRO := Lib.hid hro
          clear hro
          go_upto_region 8 with fail
          rw [← HW5.out]
          clear HW5
          have c0 : W5.cell? ⟨W4.heap.size, 0, none⟩ = some (.int .i64 (nextC sy rs (itC sy rs c i)).q) := b5.cell 0
          have c1 : W5.cell? ⟨W4.heap.size, 1, none⟩ = some (.slice L4 (nextC sy rs (itC sy rs c i)).xs.length a4) := b5.cell 1
          have c2 : W5.cell? ⟨W4.heap.size, 2, none⟩ = some (.slice R4 (nextC sy rs (itC sy rs c i)).ys.length d4) := b5.cell 2
          have u0 : W5.cell? ⟨f, 0, none⟩ = some (.int .i64 (itC sy rs c i).q) := bc5.cell 0
          have u1 : W5.cell? ⟨f, 1, none⟩ = some (.slice L5 (itC sy rs c i).xs.length a5) := bc5.cell 1
          have u2 : W5.cell? ⟨f, 2, none⟩ = some (.slice R5 (itC sy rs c i).ys.length d5) := bc5.cell 2
          have f0 := bc5.frozen 0
          have f1 := bc5.frozen 1
          have f2 := bc5.frozen 2
          go_wp2_with fail
          have hCf := ConfC.set3 (c := nextC sy rs (itC sy rs c i)) rfl bc5 ((ol4.below z5).mono hY3.size) ((or4.below z5).mono hY3.size) HAP4.out
          have hYf := conf_below hY5 (show w.heap.size ≤ f by omega) (.int .i64 (nextC sy rs (itC sy rs c i)).q) (.slice L4 (nextC sy rs (itC sy rs c i)).xs.length a4) (.slice R4 (nextC sy rs (itC sy rs c i)).ys.length d4)
          have hBf := ((hB5.far (p := ⟨f, 0, none⟩) (show w.heap.size + 1 ≠ f by omega) (.int .i64 (nextC sy rs (itC sy rs c i)).q)).far (p := ⟨f, 1, none⟩) (show w.heap.size + 1 ≠ f by omega) (.slice L4 (nextC sy rs (itC sy rs c i)).xs.length a4)).far (p := ⟨f, 2, none⟩) (show w.heap.size + 1 ≠ f by omega) (.slice R4 (nextC sy rs (itC sy rs c i)).ys.length d4)
          go_roundw
          case rel => exact ⟨i + 1, by go_num, by omega, HAL.out.next HH.out HRO.out, hCf, hBf, hYf⟩
          case measure => simp [intOf]; omega
        | false =>
          have HRO := Lib.hid hro
          clear hro
          go_upto_region 8 with fail
          rw [← HW5.out]
          clear HW5
          have u0 : W5.cell? ⟨w.heap.size + 1, 0, none⟩ = some (.int .i64 0) := hB5.cell 0
          have u1 : W5.cell? ⟨w.heap.size + 1, 1, none⟩ = some (.slice none 0 0) := hB5.cell 1
          have u2 : W5.cell? ⟨w.heap.size + 1, 2, none⟩ = some (.slice none 0 0) := hB5.cell 2
          have f0 := hB5.frozen 0
          have f1 := hB5.frozen 1
          have f2 := hB5.frozen 2
          go_wp2_with fail
          have d1 := conf_set hB5 (.int .i64 0) (.slice none 0 0) (.slice none 0 0)
          exact bodyPost_ret (v := .tuple #[.agg #[.int .i64 0, .slice none 0 0, .slice none 0 0], .int .i64 0, .bool false, .bool false]) (by simp [results, Tryd.results80, go_sem, d1.cell 0, d1.cell 1, d1.cell 2]) rfl ⟨.inr ⟨⟨i, hlt, HAL.out, HH.out, HRO.out⟩, rfl⟩, conf_below hY5 (by omega) _ _ _⟩
    · have hC0 := hC
      obtain ⟨L3, a3, R3', d3, bc0, ol0, or0, hap⟩ := hC0
      have HAP := Lib.hid hap
      clear hap
      have c0 : wr.cell? ⟨f, 0, none⟩ = some (.int .i64 (itC sy rs c i).q) := bc0.cell 0
      have c1 : wr.cell? ⟨f, 1, none⟩ = some (.slice L3 (itC sy rs c i).xs.length a3) := bc0.cell 1
      have c2 : wr.cell? ⟨f, 2, none⟩ = some (.slice R3' (itC sy rs c i).ys.length d3) := bc0.cell 2
      clear HHALT
      have hhalt := l05Halts_c (w := wr.drewN 1) ((hm.below hY).drewN 1) ((hrs.below hY).drewN 1) (hC.drewN 1) HGOOD.out hn
      have HHALT := Lib.hid hhalt
      clear hhalt
      have n1 : ¬ f = w.heap.size + 1 := by omega
      go_wp2_with fail
      go_region_held3 (fun w' => w'.cell? ⟨f, 0, none⟩ = some (.int .i64 (itC sy rs c i).q) ∧ w'.cell? ⟨f, 1, none⟩ = some (.slice L3 (itC sy rs c i).xs.length a3) ∧ w'.cell? ⟨f, 2, none⟩ = some (.slice R3' (itC sy rs c i).ys.length d3))
        (first
          | (go_keep; done)
          | (exact ⟨(bc0.below' z3).cell 0, (bc0.below' z3).cell 1, (bc0.below' z3).cell 2⟩)
          | (exact ⟨far_set n1 (far_set n1 (far_set n1 ((bc0.below' z3).cell 0))), far_set n1 (far_set n1 (far_set n1 ((bc0.below' z3).cell 1))), far_set n1 (far_set n1 (far_set n1 ((bc0.below' z3).cell 2)))⟩))
        ((go_at_call 108; refine HHALT.out.mono ?_; rintro e W3 ⟨rfl, z3'⟩; have z3 : Below wr.heap.size wr W3 := below_undrew z3'; have hB3 := hB.below' z3; have u0 : W3.cell? ⟨w.heap.size + 1, 0, none⟩ = some (.int .i64 0) := hB3.cell 0; have u1 : W3.cell? ⟨w.heap.size + 1, 1, none⟩ = some (.slice none 0 0) := hB3.cell 1; have u2 : W3.cell? ⟨w.heap.size + 1, 2, none⟩ = some (.slice none 0 0) := hB3.cell 2; have f0 := hB3.frozen 0; have f1 := hB3.frozen 1; have f2 := hB3.frozen 2))
      go_wp2_with fail
      have hCf := ConfC.set3 (c := itC sy rs c i) rfl hB3 (ol0.below z3) (or0.below z3) HAP.out
      have hY3 : Below w.heap.size w W3 := hY.trans (z3.mono hY.size)
      have hYf := conf_below hY3 (show w.heap.size ≤ w.heap.size + 1 by omega) (.int .i64 (itC sy rs c i).q) (.slice L3 (itC sy rs c i).xs.length a3) (.slice R3' (itC sy rs c i).ys.length d3)
      generalize ((W3.setCell ⟨w.heap.size + 1, 0, none⟩ (.int .i64 (itC sy rs c i).q)).setCell ⟨w.heap.size + 1, 1, none⟩ (.slice L3 (itC sy rs c i).xs.length a3)).setCell ⟨w.heap.size + 1, 2, none⟩ (.slice R3' (itC sy rs c i).ys.length d3) = Wf at *
      obtain ⟨Lf, af, Rf, df, bf, olf, orf, hapf⟩ := hCf
      have g0 : Wf.cell? ⟨w.heap.size + 1, 0, none⟩ = some (.int .i64 (itC sy rs c i).q) := bf.cell 0
      have g1 : Wf.cell? ⟨w.heap.size + 1, 1, none⟩ = some (.slice Lf (itC sy rs c i).xs.length af) := bf.cell 1
      have g2 : Wf.cell? ⟨w.heap.size + 1, 2, none⟩ = some (.slice Rf (itC sy rs c i).ys.length df) := bf.cell 2
      have hiN : i = N := by omega
      exact bodyPost_ret (v := .tuple #[.agg #[.int .i64 (itC sy rs c i).q, .slice Lf (itC sy rs c i).xs.length af, .slice Rf (itC sy rs c i).ys.length df], .int .i64 (N : Int), .bool (haltC sy rs (itC sy rs c i)), .bool true]) (by simp [results, Tryd.results80, go_sem, g0, g1, g2]) rfl ⟨.inl ⟨i, ⟨hi, HAL.out, .inl hiN⟩, Lf, af, Rf, df, by rw [hiN], olf, orf, hapf⟩, hYf⟩
end Go.Proofs.YtokglpdlhacnaaaDoor

/-
  Contracts of the reference's l00Max, l30Used, l05Budget, l30Status, NodeStatus.
-/
namespace Go.Proofs.YtokglpdlhacnaaaDoor
open Go.RowKit

/-- The numbers of used states and symbols, and of rules, of the first k rules. -/
def usedTo (rs : List R3) : Nat → Int × Int × Int
  | 0 => (1, 1, 0)
  | k + 1 => let u := usedTo rs k; let r := rs.getD k ⟨0, 0, -1⟩
    if isRuleB r then ((if r.c + 1 < u.1 then u.1 else r.c + 1), (if r.a + 1 < u.2.1 then u.2.1 else r.a + 1), u.2.2 + 1) else u
def usedF (rs : List R3) : Int × Int × Int := usedTo rs rs.length
theorem usedTo_yes {rs : List R3} {k : Nat} {r : R3} (h : rs[k]? = some r) (hr : isRuleB r = true) : usedTo rs (k + 1) = ((if r.c + 1 < (usedTo rs k).1 then (usedTo rs k).1 else r.c + 1), (if r.a + 1 < (usedTo rs k).2.1 then (usedTo rs k).2.1 else r.a + 1), (usedTo rs k).2.2 + 1) := by
  have e : rs.getD k ⟨0, 0, -1⟩ = r := by simp [List.getD, h]
  show (if isRuleB (rs.getD k ⟨0, 0, -1⟩) then _ else _) = _
  rw [e, hr]; rfl
theorem usedTo_no {rs : List R3} {k : Nat} {r : R3} (h : rs[k]? = some r) (hr : isRuleB r = false) : usedTo rs (k + 1) = usedTo rs k := by
  have e : rs.getD k ⟨0, 0, -1⟩ = r := by simp [List.getD, h]
  show (if isRuleB (rs.getD k ⟨0, 0, -1⟩) then _ else _) = _
  rw [e, hr]; rfl
theorem usedTo_free {rs : List R3} {k : Nat} (hk : k ≤ rs.length) : (usedTo rs k).2.2 + ((freeTo rs k).length : Int) = (k : Int) := by
  induction k with
  | zero => simp [usedTo, freeTo]
  | succ k ih =>
    have ih := ih (by omega)
    have hg : rs[k]? = some rs[k] := List.getElem?_eq_getElem (by omega)
    cases hr : isRuleB rs[k] with
    | true => rw [usedTo_yes hg hr, freeTo_no hg hr]; show (usedTo rs k).2.2 + 1 + _ = _; omega
    | false => rw [usedTo_no hg hr, freeTo_yes hg hr]; simp; omega
theorem used_free (rs : List R3) : (usedF rs).2.2 + ((freeF rs).length : Int) = (rs.length : Int) := usedTo_free (Nat.le_refl _)

/-- The fields of a machine's rules are small. -/
def SmallR (rs : List R3) : Prop := ∀ r ∈ rs, isRuleB r = true → 0 ≤ r.a ∧ r.a ≤ 100000 ∧ 0 ≤ r.c ∧ r.c ≤ 100000
theorem usedTo_small {rs : List R3} (h : SmallR rs) {k : Nat} (hk : k ≤ rs.length) : 1 ≤ (usedTo rs k).1 ∧ (usedTo rs k).1 ≤ 100001 ∧ 1 ≤ (usedTo rs k).2.1 ∧ (usedTo rs k).2.1 ≤ 100001 ∧ 0 ≤ (usedTo rs k).2.2 ∧ (usedTo rs k).2.2 ≤ k := by
  induction k with
  | zero => simp [usedTo]
  | succ k ih =>
    have ih := ih (by omega)
    have hg : rs[k]? = some rs[k] := List.getElem?_eq_getElem (by omega)
    cases hr : isRuleB rs[k] with
    | true =>
      have hs := h _ (List.getElem_mem (by omega : k < rs.length)) hr
      rw [usedTo_yes hg hr]
      dsimp only
      repeat' split
      all_goals omega
    | false => rw [usedTo_no hg hr]; omega

theorem small_of {sy st : Int} {rs : List R3} (h : machB sy st rs = true) : SmallR rs := fun r hr hi => by
  obtain ⟨k1, k2, k3, k4, _, k6⟩ := machB_parts h
  have hv := k6 r hr
  unfold validRuleB at hv
  rw [hi] at hv
  simp only [Bool.not_true, Bool.false_or, Bool.and_eq_true, inB_iff] at hv
  omega
theorem blank_good (sy st : Int) (rs : List R3) : validConfB sy st rs 0 [] [] = machB sy st rs := by
  unfold validConfB
  cases h : machB sy st rs with
  | false => rfl
  | true =>
    obtain ⟨k1, k2, k3, k4, _, _⟩ := machB_parts h
    have : confB sy st 0 [] [] = true := by
      unfold confB sideB allIn
      simp [inB]
      omega
    rw [this]; rfl

end Go.Proofs.YtokglpdlhacnaaaDoor

/-
  A configuration that a law keeps in a box.
-/
namespace Go.Proofs.YtokglpdlhacnaaaDoor
open Go.RowKit
theorem conf_ne {w : World} {g : Nat} {cs : Array Value} {lo s n' c' : Nat} {X : Option Addr} {xs : List Value} (h : Blk w g 68 cs) (h' : Own w lo 2 s X n' c' xs) : blk X ≠ some g := by
  intro hb
  rcases h'.2 with ⟨rfl, _⟩ | ⟨b, off, cur, rfl, _, hg, _⟩
  · simp [blk] at hb
  · simp [blk] at hb; subst hb
    unfold Blk at h
    rw [hg] at h
    simp at h
theorem conf_far2 {w : World} {g lo n c : Nat} {A : Option Addr} {cs : List Value} {vs : Array Value} (hg : Blk w g 68 vs) (h : Own w lo 2 1 A n c cs) (x y z : Value) : Own (((w.setCell ⟨g, 0, none⟩ x).setCell ⟨g, 1, none⟩ y).setCell ⟨g, 2, none⟩ z) lo 2 1 A n c cs := by
  have hb : blk A ≠ some g := conf_ne hg h
  exact ((h.far (p := ⟨g, 0, none⟩) hb _).far (p := ⟨g, 1, none⟩) hb _).far (p := ⟨g, 2, none⟩) hb _
/-- A result of StepMachine in a box. -/
def ConfBox (lo : Nat) (W : World) (s6 s7 : Value) (r : Conf × Int) (wx : World) : Prop :=
  ∃ g L c R d, s6 = .pointer (some ⟨g, 0, none⟩) ∧ s7 = .int .i64 r.2 ∧ lo ≤ g ∧ Blk wx g 68 #[.int .i64 r.1.q, .slice L r.1.xs.length c, .slice R r.1.ys.length d] ∧ Own wx lo 2 1 L r.1.xs.length c (ints r.1.xs) ∧ Own wx lo 2 1 R r.1.ys.length d (ints r.1.ys) ∧ (∀ b, blk L = some b → blk R ≠ some b) ∧ Below W.heap.size W wx
theorem stepMachF_len (sy st : Int) (rs : List R3) (q : Int) (xs ys : List Int) : (stepMachF sy st rs q xs ys).1.xs.length ≤ 1048576 ∧ (stepMachF sy st rs q xs ys).1.ys.length ≤ 1048576 := by
  unfold stepMachF
  split
  · split
    · split
      · rename_i h
        unfold roomC roomB at h
        simp only [Bool.and_eq_true, decide_eq_true_eq] at h
        exact ⟨by show (stepC (ruleOf sy rs q ys) xs ys).xs.length ≤ _; omega, by show (stepC (ruleOf sy rs q ys) xs ys).ys.length ≤ _; omega⟩
      · simp
    · simp
  · simp
end Go.Proofs.YtokglpdlhacnaaaDoor

/-
  Contracts of impl.RunMachine and spec.RunMachine: both return what runMachF says.
-/
namespace Go.Proofs.YtokglpdlhacnaaaDoor
open Go.RowKit

/-- What RunMachine returns. -/
def runMachF (sy st : Int) (rs : List R3) (q : Int) (xs ys : List Int) (b : Int) : Conf × Int × Bool × Int :=
  if validConfB sy st rs q xs ys then
    if inB b 1 20000 then
      match runN sy rs b.toNat ⟨q, xs, ys⟩ with
      | some i => (itC sy rs ⟨q, xs, ys⟩ i, (i : Int), haltC sy rs (itC sy rs ⟨q, xs, ys⟩ i), 0)
      | none => (⟨0, [], []⟩, 0, false, 5)
    else (⟨0, [], []⟩, 0, false, 2)
  else (⟨0, [], []⟩, 0, false, 1)
theorem Alive.cons {sy : Int} {rs : List R3} {c : Conf} {i : Nat} (h1 : haltC sy rs c = false) (h2 : roomC (nextC sy rs c) = true) (h : Alive sy rs (nextC sy rs c) i) : Alive sy rs c (i + 1) := fun j hj => by
  cases j with
  | zero => exact ⟨h1, h2⟩
  | succ j =>
    have h3 := h j (by omega)
    rw [itC_shift, itC_shift] at h3
    exact h3
theorem runN_alive {sy : Int} {rs : List R3} : ∀ {N : Nat} {c : Conf} {i : Nat}, runN sy rs N c = some i → Alive sy rs c i := by
  intro N
  induction N with
  | zero => intro c i h; unfold runN at h; cases h; exact Alive.zero _ _ _
  | succ N ih =>
    intro c i h
    unfold runN at h
    split at h
    · cases h; exact Alive.zero _ _ _
    · rename_i h1
      split at h
      · rename_i h2
        cases h3 : runN sy rs N (nextC sy rs c) with
        | none => rw [h3] at h; cases h
        | some j =>
          rw [h3] at h
          obtain rfl : j + 1 = i := by simpa using h
          exact (ih h3).cons (by simpa using h1) h2
      · cases h
theorem runMachF_len (sy st : Int) (rs : List R3) (q : Int) (xs ys : List Int) (b : Int) : (runMachF sy st rs q xs ys b).1.xs.length ≤ 1048576 ∧ (runMachF sy st rs q xs ys b).1.ys.length ≤ 1048576 := by
  unfold runMachF
  split
  · rename_i h1
    split
    · split
      · rename_i i hi
        have hg : goodC sy st rs (itC sy rs ⟨q, xs, ys⟩ i) := (runN_alive hi).good h1
        have hp := conf_parts hg
        have h2 := hp.2.2.2.2.2.2.2.1
        have h3 := hp.2.2.2.2.2.2.2.2.1
        exact ⟨by show (itC sy rs ⟨q, xs, ys⟩ i).xs.length ≤ _; omega, by show (itC sy rs ⟨q, xs, ys⟩ i).ys.length ≤ _; omega⟩
      · simp
    · simp
  · simp
/-- A configuration in new memory, a number, a Bool and a code. -/
def NewConf4 (w : World) (r : Conf × Int × Bool × Int) (e : Ending) (w' : World) : Prop :=
  ∃ L c R d, e = .returned (.tuple #[.agg #[.int .i64 r.1.q, .slice L r.1.xs.length c, .slice R r.1.ys.length d], .int .i64 r.2.1, .bool r.2.2.1, .int .i64 r.2.2.2]) ∧ Own w' w.heap.size 2 1 L r.1.xs.length c (ints r.1.xs) ∧ Own w' w.heap.size 2 1 R r.1.ys.length d (ints r.1.ys) ∧ (∀ b, blk L = some b → blk R ≠ some b) ∧ Below w.heap.size w w'
theorem newConf4_zero {w wf : World} {k : Int} {r : Conf × Int × Bool × Int} (hr : r = (⟨0, [], []⟩, 0, false, k)) (hz : Below w.heap.size w wf) : NewConf4 w r (.returned (.tuple #[.agg #[.int .i64 0, .slice none 0 0, .slice none 0 0], .int .i64 0, .bool false, .int .i64 k])) wf := by
  subst hr
  exact ⟨none, 0, none, 0, rfl, Own.nil, Own.nil, fun b h => by simp [blk] at h, hz⟩
/-- A result of RunMachine in a box. -/
def ConfBox4 (lo : Nat) (W : World) (s6 s7 s8 s9 : Value) (r : Conf × Int × Bool × Int) (wx : World) : Prop :=
  ∃ g L c R d, s6 = .pointer (some ⟨g, 0, none⟩) ∧ s7 = .int .i64 r.2.1 ∧ s8 = .bool r.2.2.1 ∧ s9 = .int .i64 r.2.2.2 ∧ lo ≤ g ∧ Blk wx g 68 #[.int .i64 r.1.q, .slice L r.1.xs.length c, .slice R r.1.ys.length d] ∧ Own wx lo 2 1 L r.1.xs.length c (ints r.1.xs) ∧ Own wx lo 2 1 R r.1.ys.length d (ints r.1.ys) ∧ (∀ b, blk L = some b → blk R ≠ some b) ∧ Below W.heap.size W wx

set_option maxHeartbeats 4000000 in
theorem specRunMachine_any (sy st : Int) (A : Option Addr) (n k : Nat) (rs : List R3) (q : Int) (B : Option Addr) (m c : Nat) (xs : List Int) (C : Option Addr) (l d : Nat) (ys : List Int) (b : Int) (w : World) (hr : S3 w A n rs) (hx : SI w B m xs) (hy : SI w C l ys) (hn : n ≤ 1048576) (hm : m ≤ 1048576) (hl : l ≤ 1048576) :
    Calls Tryd.prog 40 #[.agg #[.int .i64 sy, .int .i64 st, .slice A n k], .agg #[.int .i64 q, .slice B m c, .slice C l d], .int .i64 b] w (NewConf4 w (runMachF sy st rs q xs ys b)) := by
  obtain ⟨W, hW_⟩ : ∃ W, W = ((w.alloc (.cells #[.int .i64 sy, .int .i64 st, .slice A n k] 43)).alloc (.cells #[.int .i64 q, .slice B m c, .slice C l d] 68)).alloc (.cells #[.int .i64 0, .slice none 0 0, .slice none 0 0] 68) := ⟨_, rfl⟩
  have s_1 : (w.alloc (.cells #[.int .i64 sy, .int .i64 st, .slice A n k] 43)).heap.size = w.heap.size + 1 := by simp
  have s_2 : ((w.alloc (.cells #[.int .i64 sy, .int .i64 st, .slice A n k] 43)).alloc (.cells #[.int .i64 q, .slice B m c, .slice C l d] 68)).heap.size = w.heap.size + 1 + 1 := by simp
  have b0 : Blk W w.heap.size 43 #[.int .i64 sy, .int .i64 st, .slice A n k] := by rw [hW_]; exact ((Blk.new w _ _).alloc _).alloc _
  have b1 : Blk W (w.heap.size + 1) 68 #[.int .i64 q, .slice B m c, .slice C l d] := by rw [hW_, ← s_1]; exact (Blk.new _ _ _).alloc _
  have b2 : Blk W (w.heap.size + 1 + 1) 68 #[.int .i64 0, .slice none 0 0, .slice none 0 0] := by rw [hW_, ← s_2]; exact Blk.new _ _ _
  have y0 : Below w.heap.size w W := by rw [hW_]; exact (((Below.refl _ _).alloc (Nat.le_refl _) _).alloc (by simp) _).alloc (by simp; omega) _
  have HW := Lib.hid hW_
  clear hW_ s_1 s_2
  have hM := b0.machAt
  have hC := b1.confAt
  obtain rfl : xs.length = m := hx.len
  obtain rfl : ys.length = l := hy.len
  go_enter Tryd.func40, Tryd.ntmps40
  go_wp2_with fail
  rw [← HW.out]
  refine (l05Is_any _ _ _ _ _ _ rs _ hM (hr.below y0) hn).mono ?_
  rintro e w2 ⟨rfl, z2⟩
  have y2 := y0.trans (z2.mono y0.size)
  have c2 := b2.below' z2
  have hg2 : w.heap.size + 1 + 1 < w2.heap.size := c2.lt
  have u0 : w2.cell? ⟨(w.heap.size + 1 + 1), 0, none⟩ = some (.int .i64 0) := c2.cell 0
  have u1 : w2.cell? ⟨(w.heap.size + 1 + 1), 1, none⟩ = some (.slice none 0 0) := c2.cell 1
  have u2 : w2.cell? ⟨(w.heap.size + 1 + 1), 2, none⟩ = some (.slice none 0 0) := c2.cell 2
  have f0 := c2.frozen 0
  have f1 := c2.frozen 1
  have f2 := c2.frozen 2
  have hM2 := hM.below z2
  have hC2 := hC.below z2
  cases a0 : machB sy st rs
  · have A0 := Lib.hid a0
    clear a0
    go_wp2_with fail
    have d1 := conf_set c2 (.int .i64 0) (.slice none 0 0) (.slice none 0 0)
    exact bodyPost_ret (v := .tuple #[.agg #[.int .i64 0, .slice none 0 0, .slice none 0 0], .int .i64 0, .bool false, .int .i64 1]) (by simp [results, Tryd.results40, go_sem, d1.cell 0, d1.cell 1, d1.cell 2]) rfl (newConf4_zero (by unfold runMachF validConfB; rw [A0.out]; rfl) (conf_below y2 (by omega) _ _ _))
  obtain ⟨k1, k2, k3, k4, _, _⟩ := machB_parts a0
  have A0 := Lib.hid a0
  clear a0
  go_wp2_with fail
  refine (l05Good_any _ _ _ _ _ _ _ _ _ _ _ xs _ _ _ ys _ hM2 hC2 (hx.below y2) (hy.below y2) hm hl k1 k2 k3 k4).mono ?_
  rintro e w3' ⟨rfl, nq, rfl⟩
  cases a1 : confB sy st q xs ys
  · have A1 := Lib.hid a1
    clear a1
    go_wp2_with fail
    have d1 := conf_set (c2.drewN nq) (.int .i64 0) (.slice none 0 0) (.slice none 0 0)
    exact bodyPost_ret (v := .tuple #[.agg #[.int .i64 0, .slice none 0 0, .slice none 0 0], .int .i64 0, .bool false, .int .i64 1]) (by simp [results, Tryd.results40, go_sem, d1.cell 0, d1.cell 1, d1.cell 2]) rfl (newConf4_zero (by unfold runMachF validConfB; rw [A0.out, A1.out]; rfl) (conf_below (below_drewN y2 nq) (by omega) _ _ _))
  have a2 : validConfB sy st rs q xs ys = true := by unfold validConfB; rw [A0.out, a1]; rfl
  have hgc : goodC sy st rs ⟨q, xs, ys⟩ := a2
  have A2 := Lib.hid a2
  clear a1 a2
  have z3 : Below w2.heap.size w2 (w2.drewN nq) := below_drewN (Below.refl _ _) nq
  have y3 : Below w.heap.size w (w2.drewN nq) := below_drewN y2 nq
  have hM3 := hM2.below z3
  have c3 := c2.below' z3
  have c1' := (b1.below' z2).below' z3
  generalize w2.drewN nq = w3 at *
  clear u0 u1 u2 f0 f1 f2
  have u0 : w3.cell? ⟨(w.heap.size + 1 + 1), 0, none⟩ = some (.int .i64 0) := c3.cell 0
  have u1 : w3.cell? ⟨(w.heap.size + 1 + 1), 1, none⟩ = some (.slice none 0 0) := c3.cell 1
  have u2 : w3.cell? ⟨(w.heap.size + 1 + 1), 2, none⟩ = some (.slice none 0 0) := c3.cell 2
  have r0 : w3.cell? ⟨(w.heap.size + 1), 0, none⟩ = some (.int .i64 q) := c1'.cell 0
  have r1 : w3.cell? ⟨(w.heap.size + 1), 1, none⟩ = some (.slice B xs.length c) := c1'.cell 1
  have r2 : w3.cell? ⟨(w.heap.size + 1), 2, none⟩ = some (.slice C ys.length d) := c1'.cell 2
  have f0 := c3.frozen 0
  have f1 := c3.frozen 1
  have f2 := c3.frozen 2
  cases a3 : inB b 1 20000
  · have A3 := Lib.hid a3
    clear a3
    go_wp2_with (go_at_call 44; refine (l05Budget_is A3.out _).mono ?_; rintro e w' ⟨rfl, rfl⟩)
    have d1 := conf_set c3 (.int .i64 0) (.slice none 0 0) (.slice none 0 0)
    exact bodyPost_ret (v := .tuple #[.agg #[.int .i64 0, .slice none 0 0, .slice none 0 0], .int .i64 0, .bool false, .int .i64 2]) (by simp [results, Tryd.results40, go_sem, d1.cell 0, d1.cell 1, d1.cell 2]) rfl (newConf4_zero (by unfold runMachF; rw [A2.out, A3.out]; rfl) (conf_below y3 (by omega) _ _ _))
  have A3 := Lib.hid a3
  have hb := (inB_iff _ _ _).1 a3
  obtain ⟨N, rfl⟩ : ∃ N : Nat, b = (N : Int) := ⟨b.toNat, by omega⟩
  clear a3
  go_wp2_with (go_at_call 44; refine (l05Budget_is A3.out _).mono ?_; rintro e w' ⟨rfl, rfl⟩)
  refine (l05Run_any _ sy st A n k rs ⟨q, xs, ys⟩ _ _ _ _ N w3 hM3 (hr.below y3) (hx.below y3) (hy.below y3) hgc hn (by omega)).mono ?_
  rintro e w4 ⟨hcase, z4⟩
  have y4 := y3.trans (z4.mono y3.size)
  clear u0 u1 u2 f0 f1 f2 r0 r1 r2
  rcases hcase with ⟨i, hi, L, a, R, d', rfl, oL, oR, hap⟩ | ⟨⟨i, hi⟩, rfl⟩
  · have HF : Hid (runMachF sy st rs q xs ys (N : Int) = (itC sy rs ⟨q, xs, ys⟩ i, (i : Int), haltC sy rs (itC sy rs ⟨q, xs, ys⟩ i), 0)) := Lib.hid (by
      unfold runMachF; rw [A2.out, A3.out, Int.toNat_natCast, runN_ended hi]; rfl)
    have HAP := Lib.hid hap
    clear hap hi
    generalize itC sy rs ⟨q, xs, ys⟩ i = cf at *
    obtain ⟨w5, hW_⟩ : ∃ W_, W_ = w4.alloc (.cells #[.int .i64 cf.q, .slice L cf.xs.length a, .slice R cf.ys.length d'] 68) := ⟨_, rfl⟩
    have b5 : Blk w5 w4.heap.size 68 #[.int .i64 cf.q, .slice L cf.xs.length a, .slice R cf.ys.length d'] := by rw [hW_]; exact Blk.new w4 _ _
    have z5 : Below w4.heap.size w4 w5 := by rw [hW_]; exact (Below.refl _ _).alloc (Nat.le_refl _) _
    have Hw5 := Lib.hid hW_
    clear hW_
    have e5 := (c3.below' z4).below' z5
    have y5 := y4.trans (z5.mono y4.size)
    have hz : w.heap.size + 1 + 1 < w3.heap.size := c3.lt
    have hz4 : w3.heap.size ≤ w4.heap.size := z4.size
    have u0 : w5.cell? ⟨(w.heap.size + 1 + 1), 0, none⟩ = some (.int .i64 0) := e5.cell 0
    have u1 : w5.cell? ⟨(w.heap.size + 1 + 1), 1, none⟩ = some (.slice none 0 0) := e5.cell 1
    have u2 : w5.cell? ⟨(w.heap.size + 1 + 1), 2, none⟩ = some (.slice none 0 0) := e5.cell 2
    have r0 : w5.cell? ⟨w4.heap.size, 0, none⟩ = some (.int .i64 cf.q) := b5.cell 0
    have r1 : w5.cell? ⟨w4.heap.size, 1, none⟩ = some (.slice L cf.xs.length a) := b5.cell 1
    have r2 : w5.cell? ⟨w4.heap.size, 2, none⟩ = some (.slice R cf.ys.length d') := b5.cell 2
    have f0 := e5.frozen 0
    have f1 := e5.frozen 1
    have f2 := e5.frozen 2
    go_upto_region 6 with fail
    rw [← Hw5.out]
    go_wp2_with fail
    have d1 := conf_set e5 (.int .i64 cf.q) (.slice L cf.xs.length a) (.slice R cf.ys.length d')
    refine bodyPost_ret (v := .tuple #[.agg #[.int .i64 cf.q, .slice L cf.xs.length a, .slice R cf.ys.length d'], .int .i64 (i : Int), .bool (haltC sy rs cf), .int .i64 0]) (by simp [results, Tryd.results40, go_sem, d1.cell 0, d1.cell 1, d1.cell 2]) rfl ?_
    rw [HF.out]
    exact ⟨L, a, R, d', rfl, (conf_far (oL.below z5) (by omega) _ _ _).mono (by omega), (conf_far (oR.below z5) (by omega) _ _ _).mono (by omega), HAP.out, conf_below y5 (by omega) _ _ _⟩
  · have HF : Hid (runMachF sy st rs q xs ys (N : Int) = (⟨0, [], []⟩, 0, false, 5)) := Lib.hid (by
      unfold runMachF; rw [A2.out, A3.out, Int.toNat_natCast, runN_full hi]; rfl)
    clear hi
    obtain ⟨w5, hW_⟩ : ∃ W_, W_ = w4.alloc (.cells #[.int .i64 0, .slice none 0 0, .slice none 0 0] 68) := ⟨_, rfl⟩
    have b5 : Blk w5 w4.heap.size 68 #[.int .i64 0, .slice none 0 0, .slice none 0 0] := by rw [hW_]; exact Blk.new w4 _ _
    have z5 : Below w4.heap.size w4 w5 := by rw [hW_]; exact (Below.refl _ _).alloc (Nat.le_refl _) _
    have Hw5 := Lib.hid hW_
    clear hW_
    have e5 := (c3.below' z4).below' z5
    have y5 := y4.trans (z5.mono y4.size)
    have u0 : w5.cell? ⟨(w.heap.size + 1 + 1), 0, none⟩ = some (.int .i64 0) := e5.cell 0
    have u1 : w5.cell? ⟨(w.heap.size + 1 + 1), 1, none⟩ = some (.slice none 0 0) := e5.cell 1
    have u2 : w5.cell? ⟨(w.heap.size + 1 + 1), 2, none⟩ = some (.slice none 0 0) := e5.cell 2
    have f0 := e5.frozen 0
    have f1 := e5.frozen 1
    have f2 := e5.frozen 2
    go_upto_region 6 with fail
    rw [← Hw5.out]
    go_wp2_with fail
    have d1 := conf_set e5 (.int .i64 0) (.slice none 0 0) (.slice none 0 0)
    exact bodyPost_ret (v := .tuple #[.agg #[.int .i64 0, .slice none 0 0, .slice none 0 0], .int .i64 0, .bool false, .int .i64 5]) (by simp [results, Tryd.results40, go_sem, d1.cell 0, d1.cell 1, d1.cell 2]) rfl (newConf4_zero HF.out (conf_below y5 (by omega) _ _ _))
end Go.Proofs.YtokglpdlhacnaaaDoor

/-
  A short run has room. No program is in sight.
-/
namespace Go.Proofs.YtokglpdlhacnaaaDoor
open Go.RowKit

theorem push_len2 (xs : List Int) (x : Int) : (pushI xs x).length ≤ xs.length + 1 := by
  unfold pushI; split
  · omega
  · simp
theorem step_len2 (r : R3) (xs ys : List Int) : (stepC r xs ys).xs.length ≤ xs.length + 2 ∧ (stepC r xs ys).ys.length ≤ ys.length + 2 := by
  constructor
  · show (stepL r xs.reverse).reverse.length ≤ _
    rw [List.length_reverse]
    unfold stepL
    split
    · have := push_len2 xs.reverse r.a
      simp at this; omega
    · simp; omega
  · show (stepR r xs.reverse ys.reverse).reverse.length ≤ _
    rw [List.length_reverse]
    unfold stepR
    split
    · simp; omega
    · have h1 := push_len2 (pushI ys.reverse.dropLast r.a) (lastI xs.reverse)
      have h2 := push_len2 ys.reverse.dropLast r.a
      have h3 : ys.reverse.dropLast.length ≤ ys.length := by simp
      omega
theorem runN_some {sy : Int} {rs : List R3} : ∀ (N : Nat) (c : Conf), c.xs.length + 2 * N ≤ 200 → c.ys.length + 2 * N ≤ 200 → ∃ i, runN sy rs N c = some i ∧ i ≤ N := by
  intro N
  induction N with
  | zero => intro c _ _; exact ⟨0, rfl, Nat.le_refl _⟩
  | succ N ih =>
    intro c h1 h2
    by_cases hh : haltC sy rs c = true
    · exact ⟨0, by rw [runN, if_pos hh], by omega⟩
    · obtain ⟨s1, s2⟩ := step_len2 (ruleOf sy rs c.q c.ys) c.xs c.ys
      have hr : roomC (nextC sy rs c) = true := by
        unfold roomC roomB nextC
        simp only [Bool.and_eq_true, decide_eq_true_eq]
        omega
      obtain ⟨i, e, hi⟩ := ih (nextC sy rs c) (by unfold nextC; omega) (by unfold nextC; omega)
      exact ⟨i + 1, by rw [runN, if_neg hh, if_pos hr, e]; rfl, by omega⟩
end Go.Proofs.YtokglpdlhacnaaaDoor

/-
  The reference's source of choices: next, pick, one.
-/
namespace Go.Proofs.YtokglpdlhacnaaaDoor
open Go.ChangeShapes Go.WideShapes Go.ChangeAt Go.RowKit Go.Joins Go.Deep

/-- A source in memory: bytes, a place of at most T, a seed. -/
def Src (b : Nat) (A : Option Addr) (n c T : Nat) (W : World) : Prop := ∃ (a : Nat) (s : Int), a ≤ T ∧ 0 ≤ s ∧ s ≤ 18446744073709551615 ∧ Blk W b 154 #[.slice A n c, .int .i64 (a : Int), .int .u64 s]
theorem Src.le {b : Nat} {A : Option Addr} {n c T T' : Nat} {W : World} (h : Src b A n c T W) (ht : T ≤ T') : Src b A n c T' W := by
  obtain ⟨a, s, h1, h2⟩ := h
  exact ⟨a, s, by omega, h2⟩
theorem Src.below {b : Nat} {A : Option Addr} {n c T : Nat} {W W' : World} (h : Src b A n c T W) (z : Below W.heap.size W W') : Src b A n c T W' := by
  obtain ⟨a, s, h1, h2, h3, h4⟩ := h
  exact ⟨a, s, h1, h2, h3, h4.below' z⟩
theorem Src.alloc {b : Nat} {A : Option Addr} {n c T : Nat} {W : World} (h : Src b A n c T W) (o : Obj) : Src b A n c T (W.alloc o) := by
  obtain ⟨a, s, h1, h2, h3, h4⟩ := h
  exact ⟨a, s, h1, h2, h3, h4.alloc o⟩
/-- A number from 0 to hi - 1 was chosen. -/
def Got (b : Nat) (A : Option Addr) (n c T : Nat) (hi : Int) (w : World) (e : Ending) (w' : World) : Prop :=
  ∃ x : Int, e = .returned (.int .i64 x) ∧ 0 ≤ x ∧ x < hi ∧ Src b A n c T w' ∧ Kb b w w'
theorem u64_range (x : Int) : 0 ≤ IntKind.u64.wrap x ∧ IntKind.u64.wrap x ≤ 18446744073709551615 := by
  rw [IntKind.wrap_u64]; omega
theorem and255 (x : Int) (h0 : 0 ≤ x) (h1 : x < 18446744073709551616) : 0 ≤ bits BinOp.and IntKind.u64 x 255 ∧ bits BinOp.and IntKind.u64 x 255 < 256 := by
  have h := bits_mask .u64 64 (by decide) wraps_u64 8 (by decide) x h0 (by omega)
  have e : bits BinOp.and IntKind.u64 x 255 = x % 256 := by simpa using h
  rw [e]
  omega
theorem next_low (s : Int) : 0 ≤ wrap64 (bits BinOp.and IntKind.u64 (IntKind.u64.wrap s / 1099511627776) 255) ∧ wrap64 (bits BinOp.and IntKind.u64 (IntKind.u64.wrap s / 1099511627776) 255) < 256 := by
  obtain ⟨h1, h2⟩ := u64_range s
  obtain ⟨h3, h4⟩ := and255 (IntKind.u64.wrap s / 1099511627776) (by omega) (by omega)
  rw [IntWalk.wrap64_in _ (by constructor <;> omega)]
  exact ⟨h3, h4⟩
theorem next_done {b a n c T : Nat} {A : Option Addr} {s s' x : Int} {w w1 : World} {j k : Nat} (hb : Blk w b 154 #[.slice A n c, .int .i64 (a : Int), .int .u64 s]) (ha : a ≤ T) (hx0 : 0 ≤ x) (hx1 : x < 256)
    (hw : w1 = (((w.drewN j).setCell ⟨b, 1, none⟩ (.int .i64 ((a : Int) + 1))).setCell ⟨b, 2, none⟩ (.int .u64 (IntKind.u64.wrap s'))).drewN k) : Got b A n c (T + 1) 256 w (.returned (.int .i64 x)) w1 := by
  subst hw
  obtain ⟨h1, h2⟩ := u64_range s'
  exact ⟨x, rfl, hx0, hx1, ⟨a + 1, _, by omega, h1, h2, ((hb.drewN j).set_ 1 (.int .i64 ((a : Int) + 1))).set_ 2 (.int .u64 (IntKind.u64.wrap s'))⟩, ((((Kb.refl b w).drewN j).set_ 1 _).set_ 2 _).drewN k⟩
set_option maxHeartbeats 2000000 in
theorem next_any (b : Nat) (A : Option Addr) (n c T : Nat) (xs : List Int) (w : World) (hx : SB w A n xs) (hA : ∀ k, blk A = some k → k ≠ b) (hs : Src b A n c T w) (hT : T ≤ 1000000000) (hn : n ≤ 9223372036854775807) :
    Calls Tryd.prog 105 #[.pointer (some ⟨b, 0, none⟩)] w (Got b A n c (T + 1) 256 w) := by
  obtain ⟨a, s, haT, hs0, hs1, hb⟩ := hs
  have k0 : w.cell? ⟨b, 0, none⟩ = some (.slice A n c) := hb.cell 0
  have k1 : w.cell? ⟨b, 1, none⟩ = some (.int .i64 (a : Int)) := hb.cell 1
  have k2 : w.cell? ⟨b, 2, none⟩ = some (.int .u64 s) := hb.cell 2
  have f1 := hb.frozen 1
  have f2 := hb.frozen 2
  have HB := Lib.hid hb
  have HX := Lib.hid hx
  have HA := Lib.hid hA
  have HT := Lib.hid haT
  have i0 : (a : Int) + 1 ≤ 1000000001 := by omega
  clear hb hx hA haT
  by_cases h : a < n
  · obtain ⟨b', off, rfl, _, hc⟩ := HX.out.at_ h
    obtain ⟨y, hy⟩ : ∃ y, y = xs[a]'(by rw [HX.out.len]; exact h) := ⟨_, rfl⟩
    have hy2 := HX.out.2 _ (List.getElem_mem (l := xs) (n := a) (by rw [HX.out.len]; exact h))
    rw [← hy] at hc hy2
    clear hy
    have i1 : (0 : Int) ≤ (a : Int) := by omega
    have i2 : (a : Int) < (n : Int) := by omega
    have i3 : (a : Int) + 1 ≤ (n : Int) := by omega
    have hne : b' ≠ b := HA.out b' rfl
    go_enter Tryd.func105, Tryd.ntmps105
    go_upto_region 2 with fail
    go_quiet (fail)
    go_upto_region 3 with fail
    go_quiet (fail)
    go_upto_region 6 with fail
    go_quiet (fail)
    go_wp2_with fail
    go_ret
    exact next_done HB.out HT.out (by omega) (by omega) rfl
  · have i2 : ¬ (a : Int) < (n : Int) := by omega
    have i3 : ¬ (a : Int) + 1 ≤ (n : Int) := by omega
    go_enter Tryd.func105, Tryd.ntmps105
    go_upto_region 2 with fail
    go_quiet (fail)
    go_upto_region 6 with fail
    go_quiet (fail)
    go_wp2_with fail
    go_ret
    exact next_done HB.out HT.out (next_low _).1 (next_low _).2 rfl
theorem SB.kb {b : Nat} {w w' : World} {A : Option Addr} {n : Nat} {xs : List Int} (h : SB w A n xs) (k : Kb b w w') (hA : ∀ x, blk A = some x → x ≠ b) : SB w' A n xs :=
  ⟨h.1.keep fun p hp he => World.cell?_of_block (k.block p.block hp (hA _ he.symm)), h.2⟩
set_option maxHeartbeats 2000000 in
theorem pick_any (b : Nat) (A : Option Addr) (n c T : Nat) (xs : List Int) (m : Int) (w : World) (hx : SB w A n xs) (hA : ∀ k, blk A = some k → k ≠ b) (hs : Src b A n c T w) (hT : T ≤ 900000000) (hn : n ≤ 9223372036854775807) (hm : m ≤ 60000) (hm0 : -60000 ≤ m) :
    Calls Tryd.prog 77 #[.pointer (some ⟨b, 0, none⟩), .int .i64 m] w (Got b A n c (T + 2) (max m 1) w) := by
  have HX := Lib.hid hx
  have HA := Lib.hid hA
  have HS := Lib.hid hs
  clear hx hA hs
  by_cases h1 : m ≤ 1
  · go_enter Tryd.func77, Tryd.ntmps77
    go_wp2_with fail
    go_ret
    exact ⟨0, rfl, by omega, by omega, HS.out.le (by omega), Kb.refl b w⟩
  have h0 : ¬ m = 0 := by omega
  by_cases h2 : m ≤ 200
  · go_enter Tryd.func77, Tryd.ntmps77
    go_wp2_with (go_at_call 105; refine (next_any b A n c T xs _ HX.out HA.out HS.out (by omega) hn).mono ?_; rintro e1 w1 ⟨x, rfl, hx0, hx1, hs1, hk1⟩)
    go_ret
    exact ⟨x % m, rfl, Int.emod_nonneg _ h0, by have := Int.emod_lt_of_pos x (show 0 < m by omega); omega, hs1.le (by omega), hk1⟩
  · go_enter Tryd.func77, Tryd.ntmps77
    go_upto_region 4 with (go_at_call 105; refine (next_any b A n c T xs _ HX.out HA.out HS.out (by omega) hn).mono ?_; rintro e1 w1 ⟨x, rfl, hx0, hx1, hs1, hk1⟩)
    have HX1 := Lib.hid (HX.out.kb hk1 HA.out)
    have HS1 := Lib.hid hs1
    have HK1 := Lib.hid hk1
    clear hs1 hk1
    go_wp2_with (go_at_call 105; refine (next_any b A n c (T + 1) xs _ HX1.out HA.out HS1.out (by omega) hn).mono ?_; rintro e2 w2 ⟨y, rfl, hy0, hy1, hs2, hk2⟩)
    go_ret
    exact ⟨(x * 256 + y) % m, rfl, Int.emod_nonneg _ h0, by have := Int.emod_lt_of_pos (x * 256 + y) (show 0 < m by omega); omega, hs2, HK1.out.trans hk2⟩
theorem one_any (b : Nat) (A : Option Addr) (n c T : Nat) (xs : List Int) (m : Int) (w : World) (hx : SB w A n xs) (hA : ∀ k, blk A = some k → k ≠ b) (hs : Src b A n c T w) (hT : T ≤ 900000000) (hn : n ≤ 9223372036854775807) (hm : m ≤ 60000) (hm0 : -60000 ≤ m) :
    Calls Tryd.prog 104 #[.pointer (some ⟨b, 0, none⟩), .int .i64 m] w (fun e w' => ∃ y : Bool, e = .returned (.bool y) ∧ Src b A n c (T + 2) w' ∧ Kb b w w') := by
  go_enter Tryd.func104, Tryd.ntmps104
  go_wp2_with (go_at_call 77; refine (pick_any b A n c T xs m _ hx hA hs hT hn hm hm0).mono ?_; rintro e1 w1 ⟨x, rfl, hx0, hx1, hs1, hk1⟩)
  go_ret
  exact ⟨decide (x = 0), rfl, hs1, hk1⟩
set_option maxHeartbeats 1000000 in
/-- A new source. -/
theorem from_any (A : Option Addr) (n c : Nat) (w : World) : Calls Tryd.prog 75 #[.slice A n c] w (fun e w' => e = .returned (.pointer (some ⟨w.heap.size, 0, none⟩)) ∧ Src w.heap.size A n c 0 w' ∧ Below w.heap.size w w') := by
  obtain ⟨W, hW_⟩ : ∃ W, W = w.alloc (.cells #[.slice A n c, .int .i64 0, .int .u64 0] 154) := ⟨_, rfl⟩
  have b0 : Blk W w.heap.size 154 #[.slice A n c, .int .i64 0, .int .u64 0] := by rw [hW_]; exact Blk.new w _ _
  have y0 : Below w.heap.size w W := by rw [hW_]; exact (Below.refl _ _).alloc (Nat.le_refl _) _
  have HW := Lib.hid hW_
  clear hW_
  go_enter Tryd.func75, Tryd.ntmps75
  go_wp2_with fail
  rw [← HW.out]
  go_ret
  exact ⟨rfl, ⟨0, 0, Nat.le_refl _, by omega, by omega, b0⟩, y0⟩
end Go.Proofs.YtokglpdlhacnaaaDoor

/-
  What the size helper over [][]int64 comes to, in one form; totals of rows.
-/
namespace Go.Proofs.YtokglpdlhacnaaaDoor
open Go.RowKit
theorem szRows_tot : ∀ (rows : List Nat) (left : Int), 0 ≤ left → -1 ≤ szRows left rows ∧ szRows left rows ≤ left ∧ (0 ≤ szRows left rows → szRows left rows = left - rows.sum)
  | [], left, h => by simp [szRows]; omega
  | n :: r, left, h => by
    rw [szRows]
    split
    · omega
    · rename_i hn
      have h2 := szRows_tot r (left - n) (by omega)
      simp only [List.sum_cons]
      omega
theorem row_total {ts : List Sl} {t : Sl} (h : t ∈ ts) : t.xs.length ≤ total ts := by
  unfold total
  obtain ⟨a, b, rfl⟩ := List.append_of_mem h
  simp; omega
theorem total_of_nums (ts : List Sl) : total ts = ((nums ts).map List.length).sum := by simp [total, nums, Function.comp_def]
theorem total_same {ts us : List Sl} (h : nums us = nums ts) : total us = total ts := by rw [total_of_nums, total_of_nums, h]
theorem rows_le {ts us : List Sl} (h : nums us = nums ts) {b : Nat} (hb : ∀ t ∈ ts, t.xs.length ≤ b) : ∀ u ∈ us, u.xs.length ≤ b := by
  intro u hu
  have h1 : u.xs ∈ nums us := List.mem_map.2 ⟨u, hu, rfl⟩
  rw [h] at h1
  obtain ⟨t, ht, e⟩ := List.mem_map.1 h1
  rw [← e]; exact hb t ht
end Go.Proofs.YtokglpdlhacnaaaDoor

/-
  Marks that are read again, for [][]int64; owned rows behind other marks.
-/
namespace Go.Proofs.YtokglpdlhacnaaaDoor
open Go.RowKit

theorem OII.blk_ge {w : World} {lo : Nat} {e2 e1 : TypeId} {A : Option Addr} {n c : Nat} {ts : List Sl} (h : OII w lo e2 e1 A n c ts) : ∀ b, blk A = some b → lo ≤ b := h.1.blk_ge
theorem OII.mono {w : World} {lo lo' : Nat} {e2 e1 : TypeId} {A : Option Addr} {n c : Nat} {ts : List Sl} (h : OII w lo e2 e1 A n c ts) (hl : lo' ≤ lo) : OII w lo' e2 e1 A n c ts := ⟨h.1.mono hl, fun t ht => (h.2.1 t ht).mono hl, h.2.2⟩
theorem OII.alloc {w : World} {lo : Nat} {e2 e1 : TypeId} {A : Option Addr} {n c : Nat} {ts : List Sl} (h : OII w lo e2 e1 A n c ts) (o : Obj) : OII (w.alloc o) lo e2 e1 A n c ts := ⟨h.1.alloc o, fun t ht => (h.2.1 t ht).alloc o, h.2.2⟩
theorem OII.mkf_far {T : List TypeId} {w w' : World} {l hh lo : Nat} {e2 e1 : TypeId} {A : Option Addr} {n c : Nat} {ts : List Sl} (h : OII w lo e2 e1 A n c ts) (hf : MkF T l hh w w') (hd : ∀ b, lo ≤ b → b < l ∨ hh ≤ b) : OII w' lo e2 e1 A n c ts :=
  ⟨h.1.mkf_far hf (fun b hb => hd b (h.1.blk_ge b hb)), fun t ht => (h.2.1 t ht).mkf_far hf (fun b hb => hd b ((h.2.1 t ht).blk_ge b hb)), h.2.2⟩
theorem OII.mkf_below {T : List TypeId} {w0 w w' : World} {l hh lo : Nat} {e2 e1 : TypeId} {A : Option Addr} {n c : Nat} {ts : List Sl} (h0 : OII w0 lo e2 e1 A n c ts) (hl : w0.heap.size ≤ l) (h : OII w lo e2 e1 A n c ts) (hf : MkF T l hh w w') : OII w' lo e2 e1 A n c ts :=
  ⟨h.1.mkf_far hf (fun b hb => .inl (by have := h0.1.blk_lt b hb; omega)), fun t ht => (h.2.1 t ht).mkf_far hf (fun b hb => .inl (by have := (h0.2.1 t ht).blk_lt b hb; omega)), h.2.2⟩
theorem OII.touch_below {w0 w w' : World} {l hh lo : Nat} {e2 e1 : TypeId} {A : Option Addr} {n c : Nat} {ts : List Sl} (h0 : OII w0 lo e2 e1 A n c ts) (hl : w0.heap.size ≤ l) (h : OII w lo e2 e1 A n c ts) (ht : Tch l hh w w') : OII w' lo e2 e1 A n c ts :=
  ⟨h.1.touch ht (fun b hb => .inl (by have := h0.1.blk_lt b hb; omega)), fun t htm => (h.2.1 t htm).touch ht (fun b hb => .inl (by have := (h0.2.1 t htm).blk_lt b hb; omega)), h.2.2⟩

def offs (us : List Sl) (k : Nat) : Nat := total (us.take k)
theorem offs_zero (us : List Sl) : offs us 0 = 0 := by simp [offs, total]
theorem offs_next {us : List Sl} {t : Sl} {k : Nat} (hT : us[k]? = some t) : offs us (k + 1) = offs us k + t.xs.length := total_take hT
theorem offs_le (us : List Sl) (k : Nat) : offs us k ≤ total us := total_take_le us k
theorem offs_end {us : List Sl} {k : Nat} (h : us.length ≤ k) : offs us k = total us := by unfold offs; rw [List.take_of_length_le h]
/-- The rows hold marks that run on from row to row. -/
def MarkedII (w : World) (A : Option Addr) (n : Nat) (us : List Sl) (p : Int) : Prop := Rd w 1 A n (us.map Sl.val) ∧ ∀ k t, us[k]? = some t → SI w t.A t.xs.length (marks (p + offs us k) t.xs.length)
theorem MarkedII.below {w w' : World} {A : Option Addr} {n : Nat} {us : List Sl} {p : Int} (h : MarkedII w A n us p) (z : Below w.heap.size w w') : MarkedII w' A n us p := ⟨h.1.below z, fun k t ht => (h.2 k t ht).below z⟩
def MarkII (w : World) (lo hi : Nat) (A : Option Addr) (n : Nat) (us : List Sl) (p : Int) (e : Ending) (w' : World) : Prop := e = .returned (.int .i64 (p + total us)) ∧ MarkedII w' A n us p ∧ Tch lo hi w w'
/-- What holds behind the first k rows. -/
def MarkTo (w : World) (lo hi : Nat) (A : Option Addr) (n c : Nat) (us : List Sl) (p : Int) (k : Nat) (wr : World) : Prop :=
  Own wr lo 23 1 A n c (us.map Sl.val) ∧ (∀ j t, us[j]? = some t → j < k → SI wr t.A t.xs.length (marks (p + offs us j) t.xs.length)) ∧ (∀ j t, us[j]? = some t → k ≤ j → Own wr lo 2 1 t.A t.xs.length t.c (ints t.xs)) ∧ Tch lo hi w wr
theorem apt_of {us : List Sl} (h : us.Pairwise Apt) {i j : Nat} {t u : Sl} (hi : us[i]? = some t) (hj : us[j]? = some u) (hne : i ≠ j) : ∀ b, blk t.A = some b → blk u.A ≠ some b := by
  obtain ⟨hi1, rfl⟩ := List.getElem?_eq_some_iff.1 hi
  obtain ⟨hj1, rfl⟩ := List.getElem?_eq_some_iff.1 hj
  rw [List.pairwise_iff_getElem] at h
  rcases Nat.lt_or_gt_of_ne hne with hlt | hlt
  · exact h i j hi1 hj1 hlt
  · intro b h1 h2
    exact h j i hj1 hi1 hlt b h2 h1
theorem MarkTo.step {w wr w' : World} {lo hi : Nat} {A : Option Addr} {n c : Nat} {us : List Sl} {p : Int} {k : Nat} {t : Sl} (h : MarkTo w lo hi A n c us p k wr) (hap : us.Pairwise Apt) (hT : us[k]? = some t) (hne : 2 ≠ 23) (ho : OwnE w' lo 2 t.A t.xs.length t.c (marks (p + offs us k) t.xs.length)) (ht : Tch lo hi wr w') (hs : ∀ b, blk t.A ≠ some b → w'.heap[b]? = wr.heap[b]?) : MarkTo w lo hi A n c us p (k + 1) w' := by
  obtain ⟨h1, h2, h3, h4⟩ := h
  have hrow := h3 k t hT (Nat.le_refl _)
  refine ⟨h1.kept fun b hb _ _ => hs b (fun e => hrow.blk_ne h1 hne b e hb), ?_, ?_, h4.trans ht⟩
  · intro j u hu hj
    by_cases e : j = k
    · subst e
      rw [hT] at hu
      cases hu
      exact ho.si
    · refine Rd.keep (h2 j u hu (by omega)) fun q hq hbq => ?_
      exact World.cell?_of_block (hs q.block (fun e2 => apt_of hap hT hu (Ne.symm e) q.block e2 hbq.symm))
  · intro j u hu hj
    exact (h3 j u hu (by omega)).kept fun b hb _ _ => hs b (fun e2 => apt_of hap hT hu (by omega) b e2 hb)

theorem total_of {us : List Sl} {M : List (List Int)} {b : Nat} (h : nums us = M) (hl : (M.map List.length).sum ≤ b) : total us ≤ b := by rw [total_of_nums, h]; exact hl
end Go.Proofs.YtokglpdlhacnaaaDoor

/-
  Slices of rows that grow.
-/
namespace Go.Proofs.YtokglpdlhacnaaaDoor
open Go.RowKit

theorem OII.snoc {wa w w2 : World} {lo n c c2 k : Nat} {e2 e1 : TypeId} {A A2 : Option Addr} {ts : List Sl} {u : Sl} (h : OII wa lo e2 e1 A n c ts) (hw : OII w lo e2 e1 A n c ts) (hs : Own w2 lo e2 1 A2 (n + 1) c2 (ts.map Sl.val ++ [u.val])) (hg : w.grownBy w2 (blk A))
    (hu : Own w k e1 1 u.A u.xs.length u.c (ints u.xs)) (hk : wa.heap.size ≤ k) (hlk : lo ≤ k) (hne : e1 ≠ e2) : OII w2 lo e2 e1 A2 (n + 1) c2 (ts ++ [u]) := by
  have far : ∀ {B : Option Addr} {m d lo' : Nat} {xs : List Value}, Own w lo' e1 1 B m d xs → Own w2 lo' e1 1 B m d xs := fun ho => ho.grown hg (fun g hgA hb => Own.blk_ne hw.1 ho (fun he => hne he.symm) g hgA hb)
  refine ⟨by simpa using hs, fun t ht => ?_, Apt.snoc h.2.2 (fun t ht b hb hb' => ?_)⟩
  · rcases List.mem_append.1 ht with h1 | h1
    · exact far (hw.2.1 t h1)
    · rw [List.mem_singleton.1 h1]; exact (far hu).mono hlk
  · have h1 := (h.2.1 t ht).blk_lt b hb
    have h2 := hu.blk_ge b hb'
    omega
theorem OII.len {w : World} {lo n c : Nat} {e2 e1 : TypeId} {A : Option Addr} {ts : List Sl} (h : OII w lo e2 e1 A n c ts) : ts.length = n := by have := h.1.1; simp at this; omega
/-- The blocks of a slice of rows. -/
def OIIB (A : Option Addr) (ts : List Sl) (b : Nat) : Prop := blk A = some b ∨ ∃ t ∈ ts, blk t.A = some b
theorem OII.keptB {w w' : World} {lo n c : Nat} {e2 e1 : TypeId} {A : Option Addr} {ts : List Sl} (h : OII w lo e2 e1 A n c ts) (hk : ∀ b, OIIB A ts b → w'.heap[b]? = w.heap[b]?) : OII w' lo e2 e1 A n c ts :=
  ⟨h.1.kept (fun b hb _ _ => hk b (.inl hb)), fun t ht => (h.2.1 t ht).kept (fun b hb _ _ => hk b (.inr ⟨t, ht, hb⟩)), h.2.2⟩
theorem OII.blkB {w : World} {lo n c : Nat} {e2 e1 : TypeId} {A : Option Addr} {ts : List Sl} (h : OII w lo e2 e1 A n c ts) : ∀ b, OIIB A ts b → lo ≤ b ∧ b < w.heap.size := by
  rintro b (hb | ⟨t, ht, hb⟩)
  · exact ⟨h.1.blk_ge b hb, h.1.blk_lt b hb⟩
  · exact ⟨(h.2.1 t ht).blk_ge b hb, (h.2.1 t ht).blk_lt b hb⟩
theorem Blk.aptt {w : World} {g : Nat} {t e : TypeId} {cur : Array Value} {lo n c s : Nat} {A : Option Addr} {cs : List Value} (h : Blk w g t cur) (h' : Own w lo e s A n c cs) (hne : t ≠ e) : blk A ≠ some g := by
  intro hb
  rcases h'.2 with ⟨rfl, _⟩ | ⟨b, off, cur2, rfl, _, hg, _⟩
  · simp [blk] at hb
  · simp [blk] at hb; subst hb
    unfold Blk at h
    rw [hg] at h
    simp at h
    exact hne h.2.symm
theorem Blk.growt {w w2 : World} {g : Nat} {t e : TypeId} {cur : Array Value} {lo n c s : Nat} {A : Option Addr} {cs : List Value} (h : Blk w g t cur) (h' : Own w lo e s A n c cs) (hg : w.grownBy w2 (blk A)) (hne : t ≠ e) : Blk w2 g t cur :=
  (hg.block g h.lt (fun e => h.aptt h' hne e.symm)).trans h
theorem OII.set_box {w : World} {lo n c g i : Nat} {t e2 e1 : TypeId} {cur : Array Value} {A : Option Addr} {ts : List Sl} (h : OII w lo e2 e1 A n c ts) (hb : Blk w g t cur) (h1 : t ≠ e2) (h2 : t ≠ e1) (u : Value) : OII (w.setCell ⟨g, i, none⟩ u) lo e2 e1 A n c ts :=
  ⟨h.1.far (p := ⟨g, i, none⟩) (hb.aptt h.1 h1) u, fun x hx => (h.2.1 x hx).far (p := ⟨g, i, none⟩) (hb.aptt (h.2.1 x hx) h2) u, h.2.2⟩
theorem OII.nil {w : World} {lo c : Nat} {e2 e1 : TypeId} {A : Option Addr} (h : Own w lo e2 1 A 0 c []) : OII w lo e2 e1 A 0 c [] := ⟨h, by simp, List.Pairwise.nil⟩
theorem OII.one {w : World} {lo c : Nat} {e2 e1 : TypeId} {A : Option Addr} {u : Sl} (h : Own w lo e2 1 A 1 c [u.val]) (hu : Own w lo e1 1 u.A u.xs.length u.c (ints u.xs)) : OII w lo e2 e1 A 1 c [u] := ⟨by simpa using h, by simpa using hu, List.pairwise_singleton _ _⟩
end Go.Proofs.YtokglpdlhacnaaaDoor
