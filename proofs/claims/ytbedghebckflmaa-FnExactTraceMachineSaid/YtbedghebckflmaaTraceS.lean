/-
  Contracts of the reference's l05Trace and TraceMachine.
-/
import Derived.Test.YtbedghebckflmaaTraceJ
import Derived.Deep.DeepCutAuto
namespace Go.Proofs.Ytbedghebckflmaa
open Go.RowKit

def TraceB (w : World) (sy : Int) (rs : List R3) (c : Conf) (N : Nat) (e : Ending) (w' : World) : Prop :=
  ((∃ i A a ts, Ended sy rs c N i ∧ e = .returned (.tuple #[.slice A (i + 1) a, .bool true]) ∧ OCs w' w.heap.size A (i + 1) a ts ∧ confs ts = traceTo sy rs c (i + 1)) ∨
    (∃ i, Full sy rs c N i) ∧ e = .returned (.tuple #[.slice none 0 0, .bool false])) ∧ Below w.heap.size w w'

set_option maxRecDepth 100000 in
set_option maxHeartbeats 8000000 in
theorem l05Trace_any (g : Nat) (sy st : Int) (A : Option Addr) (n k : Nat) (rs : List R3) (c : Conf) (L : Option Addr) (a : Nat) (R : Option Addr) (d : Nat) (N : Nat) (w : World) (hm : MachAt w g sy st A n k) (hrs : S3 w A n rs) (hx : SI w L c.xs.length c.xs) (hy : SI w R c.ys.length c.ys) (hgc : goodC sy st rs c) (hn : n ≤ 1048576) (hN : N ≤ 100000) :
    Calls Try.prog 104 #[.pointer (some ⟨g, 0, none⟩), .agg #[.int .i64 c.q, .slice L c.xs.length a, .slice R c.ys.length d], .int .i64 (N : Int)] w (TraceB w sy rs c N) := by
  obtain ⟨W, hW_⟩ : ∃ W, W = w.alloc (.cells #[.int .i64 c.q, .slice L c.xs.length a, .slice R c.ys.length d] 38) := ⟨_, rfl⟩
  have b0 : Blk W w.heap.size 38 #[.int .i64 c.q, .slice L c.xs.length a, .slice R c.ys.length d] := by rw [hW_]; exact Blk.new w _ _
  have y0 : Below w.heap.size w W := by rw [hW_]; exact (Below.refl _ _).alloc (Nat.le_refl _) _
  have HW := Lib.hid hW_
  clear hW_
  have hcp := conf_parts hgc
  have hxl : c.xs.length ≤ 1048576 := by have := hcp.2.2.2.2.2.2.2.1; omega
  have hyl : c.ys.length ≤ 1048576 := by have := hcp.2.2.2.2.2.2.2.2.1; omega
  clear hcp
  go_enter Try.func104, Try.ntmps104
  go_wp2_with fail
  rw [← HW.out]
  clear HW
  refine (l05OwnConfig_any _ _ _ _ _ c.xs _ _ _ c.ys _ b0.confAt (hx.below y0) (hy.below y0) hxl hyl).mono ?_
  rintro e W1 ⟨L1, a1, R1, d1, rfl, o1, o1', hap1, z1⟩
  have HAP1 := Lib.hid hap1
  clear hap1
  have y1 := y0.trans (z1.mono y0.size)
  obtain ⟨W2, hW_⟩ : ∃ W, W = W1.alloc (.cells #[.int .i64 c.q, .slice L1 c.xs.length a1, .slice R1 c.ys.length d1] 38) := ⟨_, rfl⟩
  have b2 : Blk W2 W1.heap.size 38 #[.int .i64 c.q, .slice L1 c.xs.length a1, .slice R1 c.ys.length d1] := by rw [hW_]; exact Blk.new W1 _ _
  have z2 : Below W1.heap.size W1 W2 := by rw [hW_]; exact (Below.refl _ _).alloc (Nat.le_refl _) _
  have HW2 := Lib.hid hW_
  clear hW_
  have y2 := y1.trans (z2.mono y1.size)
  have hl0 : OCs W2 W.heap.size (some ⟨W1.heap.size, 0, none⟩) 1 1 [⟨c.q, L1, a1, c.xs, R1, d1, c.ys⟩] := by
    have hs : Own W2 W.heap.size 38 3 (some ⟨W1.heap.size, 0, none⟩) 1 1 ([⟨c.q, L1, a1, c.xs, R1, d1, c.ys⟩].flatMap Cf.cells) := by
      rw [HW2.out]
      exact Own.lit W1 #[.int .i64 c.q, .slice L1 c.xs.length a1, .slice R1 c.ys.length d1] _ 1 3 W.heap.size rfl (by simp [maxLen]) z1.size
    exact OCs.one hs (o1.below z2) (o1'.below z2) HAP1.out
  have hcf0 : Hid (confs [⟨c.q, L1, a1, c.xs, R1, d1, c.ys⟩] = traceTo sy rs c 1) := Lib.hid (by simp [confs, traceTo, Cf.conf, itC])
  have c02 := (b0.below' z1).below' z2
  clear o1 o1' HAP1 b2
  go_wp2_with fail
  rw [← HW2.out]
  refine (l05OwnConfig_any _ _ _ _ _ c.xs _ _ _ c.ys _ c02.confAt (hx.below y2) (hy.below y2) hxl hyl).mono ?_
  rintro e W3 ⟨L3, a3, R3', d3, rfl, o3, o3', hap3, z3⟩
  have HAP3 := Lib.hid hap3
  clear hap3
  have y3 := y2.trans (z3.mono y2.size)
  obtain ⟨W4, hW_⟩ : ∃ W, W = W3.alloc (.cells #[.int .i64 c.q, .slice L3 c.xs.length a3, .slice R3' c.ys.length d3] 38) := ⟨_, rfl⟩
  have b4 : Blk W4 W3.heap.size 38 #[.int .i64 c.q, .slice L3 c.xs.length a3, .slice R3' c.ys.length d3] := by rw [hW_]; exact Blk.new W3 _ _
  have z4 : Below W3.heap.size W3 W4 := by rw [hW_]; exact (Below.refl _ _).alloc (Nat.le_refl _) _
  have HW4 := Lib.hid hW_
  clear hW_
  have y4 := y3.trans (z4.mono y3.size)
  have hC4 : ConfC W4 W2.heap.size W3.heap.size c := ⟨L3, a3, R3', d3, b4, o3.below z4, o3'.below z4, HAP3.out⟩
  have hl4 := (hl0.below z3).below z4
  have hll0 : Hid ([⟨c.q, L1, a1, c.xs, R1, d1, c.ys⟩] = [(⟨c.q, L1, a1, c.xs, R1, d1, c.ys⟩ : Cf)]) := Lib.hid rfl
  have hwW : w.heap.size < W.heap.size := b0.lt
  have hWW1 := z1.size
  have hWW2 := z2.size
  have hWW3 := z3.size
  have hs2 : W2.heap.size = W1.heap.size + 1 := by rw [HW2.out]; simp
  go_wp2_with fail
  rw [← HW4.out]
  clear HW4 o3 o3' b4 b0 c02 hl0
  have hl0' : W1.heap.size < W3.heap.size := by have := hs2; omega
  generalize ([⟨c.q, L1, a1, c.xs, R1, d1, c.ys⟩] : List Cf) = ts0 at *
  clear hll0
  obtain ⟨f, hf⟩ : ∃ f, f = W3.heap.size := ⟨_, rfl⟩
  have hf1 : w.heap.size ≤ f := by omega
  have hf2 : blk (some ⟨W1.heap.size, 0, none⟩) ≠ some f := by have := hl0'; simp [blk]; omega
  have hC4' : ConfC W4 w.heap.size f c := by rw [hf]; obtain ⟨L, a, R, d, h1, h2, h3, h4⟩ := hC4; exact ⟨L, a, R, d, h1, h2.mono (by omega), h3.mono (by omega), h4⟩
  rw [← hf]
  clear hC4 hf
  have hl4' := hl4.mono (show w.heap.size ≤ W.heap.size by omega)
  go_loopw [2, 8] (fun s v wr => ∃ (i : Nat) (A : Option Addr) (a : Nat) (ts : List Cf), s = .int .i64 ((N : Int) - (i : Int)) ∧ v = .slice A (i + 1) a ∧ i ≤ N ∧ Alive sy rs c i ∧ ConfC wr w.heap.size f (itC sy rs c i) ∧ OCs wr w.heap.size A (i + 1) a ts ∧ Hid (confs ts = traceTo sy rs c (i + 1)) ∧ Hid (blk A ≠ some f) ∧ Below w.heap.size w wr) (fun s _ _ => (intOf s).toNat)
  case atStart => exact ⟨0, _, 1, ts0, by simp, rfl, Nat.zero_le _, Alive.zero _ _ _, hC4', hl4', hcf0, hf2, y4⟩
  case round =>
    obtain ⟨i, A', a', ts, rfl, rfl, hi, hal, hC, hO, hcf, hAf, hY⟩ := hrel
    have HGOOD := Lib.hid (hal.good hgc)
    have HAL := Lib.hid hal
    clear hal hC4' hl4' hl4 hcf0 hf2 y4 y3 y2 y1 y0
    have hhalt := l05Halts_c (hm.below hY) (hrs.below hY) hC HGOOD.out hn
    have HHALT := Lib.hid hhalt
    clear hhalt
    by_cases hlt : i < N
    · have hgt : decide ((0 : Int) < (N : Int) - (i : Int)) = true := by simp; omega
      go_wp2_with fail
      refine HHALT.out.mono ?_
      rintro e W5 ⟨rfl, z5⟩
      have hC5 := hC.below z5
      have hO5 := hO.below z5
      have hY5 : Below w.heap.size w W5 := hY.trans (z5.mono hY.size)
      cases hh : haltC sy rs (itC sy rs c i) with
      | true =>
        have HE : Ended sy rs c N i := ⟨hi, HAL.out, .inr hh⟩
        have HE := Lib.hid HE
        clear hh
        go_wp2_with fail
        exact bodyPost_ret (v := .tuple #[.slice A' (i + 1) a', .bool true]) (by simp [results, Try.results104, go_sem]) rfl ⟨.inl ⟨i, A', a', ts, HE.out, rfl, hO5, hcf.out⟩, hY5⟩
      | false =>
        have HH := Lib.hid hh
        clear hh
        have hstep := l05Step_c (hm.below hY5) (hrs.below hY5) hC5 HGOOD.out hn
        have HSTEP := Lib.hid hstep
        clear hstep
        go_wp2_with fail
        refine HSTEP.out.mono ?_
        rintro e W6 ⟨L6, a6, R6, d6, rfl, ol6, or6, hap6, z6⟩
        have HAP6 := Lib.hid hap6
        clear hap6 HSTEP HHALT
        have hY6 : Below w.heap.size w W6 := hY5.trans (z6.mono hY5.size)
        obtain ⟨W7, hW_⟩ : ∃ W, W = W6.alloc (.cells #[.int .i64 (nextC sy rs (itC sy rs c i)).q, .slice L6 (nextC sy rs (itC sy rs c i)).xs.length a6, .slice R6 (nextC sy rs (itC sy rs c i)).ys.length d6] 38) := ⟨_, rfl⟩
        have b7 : Blk W7 W6.heap.size 38 #[.int .i64 (nextC sy rs (itC sy rs c i)).q, .slice L6 (nextC sy rs (itC sy rs c i)).xs.length a6, .slice R6 (nextC sy rs (itC sy rs c i)).ys.length d6] := by rw [hW_]; exact Blk.new W6 _ _
        have z7 : Below W6.heap.size W6 W7 := by rw [hW_]; exact (Below.refl _ _).alloc (Nat.le_refl _) _
        have HW7 := Lib.hid hW_
        clear hW_
        have hY7 : Below w.heap.size w W7 := hY6.trans (z7.mono hY6.size)
        have hO7 := (hO5.below z6).below z7
        have hC7 := (hC5.below z6).below z7
        obtain ⟨L5, a5, R5, d5, bc7, _, _, _⟩ := hC7
        have hfW : f < W6.heap.size := by obtain ⟨_, _, _, _, b4, _⟩ := hC5.below z6; exact b4.lt
        go_upto_region 6 with fail
        rw [← HW7.out]
        clear HW7
        cases hro : roomC (nextC sy rs (itC sy rs c i)) with
        | true =>
          have HRO := Lib.hid hro
          clear hro
          have c0 : W7.cell? ⟨W6.heap.size, 0, none⟩ = some (.int .i64 (nextC sy rs (itC sy rs c i)).q) := b7.cell 0
          have c1 : W7.cell? ⟨W6.heap.size, 1, none⟩ = some (.slice L6 (nextC sy rs (itC sy rs c i)).xs.length a6) := b7.cell 1
          have c2 : W7.cell? ⟨W6.heap.size, 2, none⟩ = some (.slice R6 (nextC sy rs (itC sy rs c i)).ys.length d6) := b7.cell 2
          have u0 : W7.cell? ⟨f, 0, none⟩ = some (.int .i64 (itC sy rs c i).q) := bc7.cell 0
          have u1 : W7.cell? ⟨f, 1, none⟩ = some (.slice L5 (itC sy rs c i).xs.length a5) := bc7.cell 1
          have u2 : W7.cell? ⟨f, 2, none⟩ = some (.slice R5 (itC sy rs c i).ys.length d5) := bc7.cell 2
          have f0 := bc7.frozen 0
          have f1 := bc7.frozen 1
          have f2 := bc7.frozen 2
          have hC8 := ConfC.set3 (c := nextC sy rs (itC sy rs c i)) rfl bc7 ((ol6.below z7).mono hY5.size) ((or6.below z7).mono hY5.size) HAP6.out
          have hY8 := conf_below hY7 hf1 (.int .i64 (nextC sy rs (itC sy rs c i)).q) (.slice L6 (nextC sy rs (itC sy rs c i)).xs.length a6) (.slice R6 (nextC sy rs (itC sy rs c i)).ys.length d6)
          have hO8 := ((hO7.set_cfg bc7 hAf.out (.int .i64 (nextC sy rs (itC sy rs c i)).q) (i := 0)).set_cfg (bc7.set_ 0 _) hAf.out (.slice L6 (nextC sy rs (itC sy rs c i)).xs.length a6) (i := 1)).set_cfg ((bc7.set_ 0 _).set_ 1 _) hAf.out (.slice R6 (nextC sy rs (itC sy rs c i)).ys.length d6) (i := 2)
          have HG8 : Hid (goodC sy st rs (itC sy rs c (i + 1))) := Lib.hid ((HAL.out.next HH.out HRO.out).good hgc)
          go_upto_region 9 with fail
          generalize ((W7.setCell ⟨f, 0, none⟩ (.int .i64 (nextC sy rs (itC sy rs c i)).q)).setCell ⟨f, 1, none⟩ (.slice L6 (nextC sy rs (itC sy rs c i)).xs.length a6)).setCell ⟨f, 2, none⟩ (.slice R6 (nextC sy rs (itC sy rs c i)).ys.length d6) = W8 at *
          clear c0 c1 c2 u0 u1 u2 f0 f1 f2 bc7 b7 hC5 hC hO7 hO5 hO hY7 hY6 hY5 hY ol6 or6 z7 z6 z5
          obtain ⟨L8, a8, R8, d8, b8, o8, o8', hap8⟩ := hC8
          have HAP8 := Lib.hid hap8
          have hcp := conf_parts HG8.out
          have hxl8 : (nextC sy rs (itC sy rs c i)).xs.length ≤ 1048576 := by have := hcp.2.2.2.2.2.2.2.1; show (itC sy rs c (i + 1)).xs.length ≤ _; omega
          have hyl8 : (nextC sy rs (itC sy rs c i)).ys.length ≤ 1048576 := by have := hcp.2.2.2.2.2.2.2.2.1; show (itC sy rs c (i + 1)).ys.length ≤ _; omega
          clear hap8 hcp
          have hN1 : Hid (traceTo sy rs c (i + 1 + 1) = traceTo sy rs c (i + 1) ++ [nextC sy rs (itC sy rs c i)]) := Lib.hid (traceTo_next sy rs c (i + 1))
          have HAL1 := Lib.hid (HAL.out.next HH.out HRO.out)
          have hIT : Hid (itC sy rs c (i + 1) = nextC sy rs (itC sy rs c i)) := Lib.hid rfl
          generalize nextC sy rs (itC sy rs c i) = cn at *
          go_wp2_with fail
          refine (l05OwnConfig_any _ _ _ _ _ cn.xs _ _ _ cn.ys _ b8.confAt o8.rd o8'.rd hxl8 hyl8).mono ?_
          rintro e W9 ⟨L9, a9, R9, d9, rfl, o9, o9', hap9, z9⟩
          have HAP9 := Lib.hid hap9
          clear hap9
          have hO9 := hO8.below z9
          have b9 := b8.below' z9
          have hY9 := hY8.trans (z9.mono hY8.size)
          go_wp2_with (at_builtin; refine wpList_append_Own rfl (.tmp 32) (.tmp 34) rfl elCfg (lo := w.heap.size) rfl (hO9.alloc _).spine rfl (Cf.new W9 ⟨cn.q, L9, a9, cn.xs, R9, d9, cn.ys⟩) (by have := Cf.one [⟨cn.q, L9, a9, cn.xs, R9, d9, cn.ys⟩]; simpa using this) (by omega) (by simp only [maxLen]; omega) (by have := hY9.size; simp; omega) ?_; intro A10 c10 W10 h10 hg10 hw10)
          have hOs : OCs W10 w.heap.size A10 (i + 1 + 1) c10 (ts ++ [⟨cn.q, L9, a9, cn.xs, R9, d9, cn.ys⟩]) := OCs.snoc (wa := W8) hO8 (Nat.le_refl _) (hO9.alloc _) h10 hg10 (o9.alloc _) (o9'.alloc _) HAP9.out hY8.size
          have hfl := b9.lt
          have hA10 : Hid (blk A10 ≠ some f) := by
            rcases hw10.1 with h | h
            · exact Lib.hid (by rw [h]; exact hAf.out)
            · exact Lib.hid (by rw [h]; simp; omega)
          have hb10 : W10.heap[f]? = W9.heap[f]? := (hg10.block f (by simp; omega) (fun e => hAf.out e.symm)).trans (Below.heap_alloc _ _ _ hfl)
          have hrow : ∀ {A : Option Addr} {n c : Nat} {xs : List Int}, Own W8 w.heap.size 2 1 A n c (ints xs) → Own W10 w.heap.size 2 1 A n c (ints xs) := fun h => ((h.below z9).alloc _).grown_apt (hO9.alloc _).spine hg10 (by decide)
          have hC10 : ConfC W10 w.heap.size f cn := ⟨L8, a8, R8, d8, hb10.trans b9, hrow o8, hrow o8', HAP8.out⟩
          have hY10 : Below w.heap.size w W10 := Own.below_of (hO9.alloc _).spine (hY9.alloc hY9.size _) hg10 (by have := hY9.size; simp; omega)
          have HCF : Hid (confs (ts ++ [⟨cn.q, L9, a9, cn.xs, R9, d9, cn.ys⟩]) = traceTo sy rs c (i + 1 + 1)) := Lib.hid (by rw [hN1.out, ← hcf.out]; simp [confs, Cf.conf])
          go_wp2_with fail
          go_roundw
          case rel => exact ⟨i + 1, A10, c10, _, by go_num, rfl, by omega, HAL1.out, by rw [hIT.out]; exact hC10, hOs, HCF, hA10, hY10⟩
          case measure => simp [intOf]; omega
        | false =>
          have HRO := Lib.hid hro
          clear hro
          go_wp2_with fail
          exact bodyPost_ret (v := .tuple #[.slice none 0 0, .bool false]) (by simp [results, Try.results104, go_sem]) rfl ⟨.inr ⟨⟨i, hlt, HAL.out, HH.out, HRO.out⟩, rfl⟩, hY7⟩
    · have hgt : decide ((0 : Int) < (N : Int) - (i : Int)) = false := by simp; omega
      have hiN : i = N := by omega
      have HE : Ended sy rs c N i := ⟨hi, HAL.out, .inl hiN⟩
      have HE := Lib.hid HE
      clear hiN HHALT
      go_wp2_with fail
      exact bodyPost_ret (v := .tuple #[.slice A' (i + 1) a', .bool true]) (by simp [results, Try.results104, go_sem]) rfl ⟨.inl ⟨i, A', a', ts, HE.out, rfl, hO, hcf.out⟩, hY⟩

set_option maxHeartbeats 4000000 in
theorem traceMachineS_any (sy st : Int) (A : Option Addr) (n k : Nat) (rs : List R3) (q : Int) (B : Option Addr) (m c : Nat) (xs : List Int) (C : Option Addr) (l d : Nat) (ys : List Int) (b : Int) (w : World) (hr : S3 w A n rs) (hx : SI w B m xs) (hy : SI w C l ys) (hn : n ≤ 1048576) (hm : m ≤ 1048576) (hl : l ≤ 1048576) :
    Calls Try.prog 46 #[.agg #[.int .i64 sy, .int .i64 st, .slice A n k], .agg #[.int .i64 q, .slice B m c, .slice C l d], .int .i64 b] w (NewCs w (traceMachF sy st rs q xs ys b)) := by
  obtain ⟨W, hW_⟩ : ∃ W, W = (w.alloc (.cells #[.int .i64 sy, .int .i64 st, .slice A n k] 30)).alloc (.cells #[.int .i64 q, .slice B m c, .slice C l d] 38) := ⟨_, rfl⟩
  have s_1 : (w.alloc (.cells #[.int .i64 sy, .int .i64 st, .slice A n k] 30)).heap.size = w.heap.size + 1 := by simp
  have b0 : Blk W w.heap.size 30 #[.int .i64 sy, .int .i64 st, .slice A n k] := by rw [hW_]; exact (Blk.new w _ _).alloc _
  have b1 : Blk W (w.heap.size + 1) 38 #[.int .i64 q, .slice B m c, .slice C l d] := by rw [hW_, ← s_1]; exact Blk.new _ _ _
  have y0 : Below w.heap.size w W := by rw [hW_]; exact ((Below.refl _ _).alloc (Nat.le_refl _) _).alloc (by simp) _
  have HW := Lib.hid hW_
  clear hW_ s_1
  have hM := b0.machAt
  have hC := b1.confAt
  go_enter Try.func46, Try.ntmps46
  go_wp2_with fail
  rw [← HW.out]
  refine (l05Is_any _ _ _ _ _ _ rs _ hM (hr.below y0) hn).mono ?_
  rintro e w2 ⟨rfl, z2⟩
  have y2 : Below w.heap.size w w2 := y0.trans (z2.mono y0.size)
  have hM2 := hM.below z2
  have hC2 := hC.below z2
  have c1 := b1.below' z2
  cases a0 : machB sy st rs
  · have HF := Lib.hid (traceMachF_bad (q := q) (xs := xs) (ys := ys) (b := b) (by unfold validConfB; rw [a0]; rfl))
    clear a0
    go_wp2_with fail
    exact bodyPost_ret (v := .tuple #[.slice none 0 0, .int .i64 1]) (by simp [results, Try.results46, go_sem]) rfl (newCs_nil HF.out y2)
  obtain ⟨k1, k2, k3, k4, _, _⟩ := machB_parts a0
  have A0 := Lib.hid a0
  clear a0
  go_wp2_with fail
  refine (l05Good_any _ _ _ _ _ _ _ _ _ _ _ xs _ _ _ ys _ hM2 hC2 (hx.below y2) (hy.below y2) hm hl k1 k2 k3 k4).mono ?_
  rintro e w3' ⟨rfl, nq, rfl⟩
  have y3 : Below w.heap.size w (w2.drewN nq) := below_drewN y2 nq
  have c3 := c1.drewN nq
  have hM3 := hM2.drewN nq
  generalize w2.drewN nq = w3 at *
  cases a1 : confB sy st q xs ys
  · have HF := Lib.hid (traceMachF_bad (rs := rs) (b := b) (by unfold validConfB; rw [A0.out, a1]; rfl))
    clear a1
    go_wp2_with fail
    exact bodyPost_ret (v := .tuple #[.slice none 0 0, .int .i64 1]) (by simp [results, Try.results46, go_sem]) rfl (newCs_nil HF.out y3)
  have A1 : Hid (validConfB sy st rs q xs ys = true) := Lib.hid (by unfold validConfB; rw [A0.out, a1]; rfl)
  clear a1
  have r0 : w3.cell? ⟨(w.heap.size + 1), 0, none⟩ = some (.int .i64 q) := c3.cell 0
  have r1 : w3.cell? ⟨(w.heap.size + 1), 1, none⟩ = some (.slice B m c) := c3.cell 1
  have r2 : w3.cell? ⟨(w.heap.size + 1), 2, none⟩ = some (.slice C l d) := c3.cell 2
  cases a2 : inB b 0 60
  · have HF := Lib.hid (traceMachF_range A1.out a2)
    have A2 := Lib.hid a2
    clear a2
    go_wp2_with (go_at_call 92; refine (l00In_is A2.out _).mono ?_; rintro e w' ⟨rfl, rfl⟩)
    exact bodyPost_ret (v := .tuple #[.slice none 0 0, .int .i64 2]) (by simp [results, Try.results46, go_sem]) rfl (newCs_nil HF.out y3)
  have hb := (inB_iff _ _ _).1 a2
  obtain ⟨N, rfl⟩ : ∃ N : Nat, b = (N : Int) := ⟨b.toNat, by omega⟩
  have HF := Lib.hid (traceMachF_ok A1.out a2)
  have A2 := Lib.hid a2
  clear a2
  have hxl : xs.length = m := hx.len
  have hyl : ys.length = l := hy.len
  subst hxl
  subst hyl
  go_wp2_with (go_at_call 92; refine (l00In_is A2.out _).mono ?_; rintro e w' ⟨rfl, rfl⟩)
  refine (l05Trace_any _ sy st _ _ _ rs ⟨q, xs, ys⟩ _ _ _ _ N _ hM3 (hr.below y3) (hx.below y3) (hy.below y3) A1.out hn (by omega)).mono ?_
  rintro e w4 ⟨(⟨i, A4, a4, ts, hE, rfl, ho, hc⟩ | ⟨⟨i, hE⟩, rfl⟩), z4⟩
  · have HE := Lib.hid (HF.out.trans (traceF_ended hE))
    have HC := Lib.hid hc
    clear hE hc
    go_wp2_with fail
    exact bodyPost_ret (v := .tuple #[.slice A4 (i + 1) a4, .int .i64 0]) (by simp [results, Try.results46, go_sem]) rfl (newCs_of HE.out HC.out (ho.mono y3.size) (y3.trans (z4.mono y3.size)))
  · have HE := Lib.hid (HF.out.trans (traceF_full hE))
    clear hE
    go_wp2_with fail
    exact bodyPost_ret (v := .tuple #[.slice none 0 0, .int .i64 5]) (by simp [results, Try.results46, go_sem]) rfl (newCs_nil HE.out (y3.trans (z4.mono y3.size)))
end Go.Proofs.Ytbedghebckflmaa
