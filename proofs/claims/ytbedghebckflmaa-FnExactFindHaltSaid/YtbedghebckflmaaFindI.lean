/-
  Contracts of impl.FindHalt and spec.FindHalt: both return what findHaltF says.
-/
import Derived.Test.YtbedghebckflmaaProofS
namespace Go.Proofs.Ytbedghebckflmaa
open Go.RowKit

/-- What FindHalt returns: kind and numbers of a proof without words, and a code. -/
def findHaltF (sy st : Int) (rs : List R3) (b : Int) : (Int × List Int) × Int :=
  if codeF sy st rs blankC b = 0 then
    match runN sy rs b.toNat blankC with
    | some i => if haltC sy rs (itC sy rs blankC i) then ((1, [(i : Int)]), 0) else ((0, []), 3)
    | none => ((0, []), 5)
  else ((0, []), codeF sy st rs blankC b)
theorem findHaltF_len (sy st : Int) (rs : List R3) (b : Int) : (findHaltF sy st rs b).1.2.length ≤ 1048576 := by
  unfold findHaltF
  split
  · split
    · split <;> simp
    · simp
  · simp
theorem findHaltF_halt {sy st : Int} {rs : List R3} {N i : Nat} (hc : codeF sy st rs blankC (N : Int) = 0) (h : Ended sy rs blankC N i) (hh : haltC sy rs (itC sy rs blankC i) = true) : findHaltF sy st rs (N : Int) = ((1, [(i : Int)]), 0) := by
  unfold findHaltF; rw [if_pos hc, Int.toNat_natCast, runN_ended h]; simp [hh]
theorem findHaltF_runs {sy st : Int} {rs : List R3} {N i : Nat} (hc : codeF sy st rs blankC (N : Int) = 0) (h : Ended sy rs blankC N i) (hh : haltC sy rs (itC sy rs blankC i) = false) : findHaltF sy st rs (N : Int) = ((0, []), 3) := by
  unfold findHaltF; rw [if_pos hc, Int.toNat_natCast, runN_ended h]; simp [hh]
theorem findHaltF_full {sy st : Int} {rs : List R3} {N i : Nat} (hc : codeF sy st rs blankC (N : Int) = 0) (h : Full sy rs blankC N i) : findHaltF sy st rs (N : Int) = ((0, []), 5) := by
  unfold findHaltF; rw [if_pos hc, Int.toNat_natCast, runN_full h]
theorem findHaltF_code {sy st : Int} {rs : List R3} {b : Int} (hc : ¬ codeF sy st rs blankC b = 0) : findHaltF sy st rs b = ((0, []), codeF sy st rs blankC b) := by
  unfold findHaltF; rw [if_neg hc]
/-- A proof without words in new memory, and a code. -/
def NewPrf2 (w : World) (r : (Int × List Int) × Int) (e : Ending) (w' : World) : Prop :=
  ∃ L c R d, e = .returned (.tuple #[.agg #[.int .i64 r.1.1, .slice L r.1.2.length c, .slice R 0 d], .int .i64 r.2]) ∧ Own w' w.heap.size 2 1 L r.1.2.length c (ints r.1.2) ∧ Below w.heap.size w w'
theorem newPrf2_zero {w wf : World} {k : Int} {r : (Int × List Int) × Int} (hr : r = ((0, []), k)) (hz : Below w.heap.size w wf) : NewPrf2 w r (.returned (.tuple #[.agg #[.int .i64 0, .slice none 0 0, .slice none 0 0], .int .i64 k])) wf := by
  subst hr
  exact ⟨none, 0, none, 0, rfl, Own.nil, hz⟩
theorem newPrf2_one {w wf : World} {a k x : Int} {r : (Int × List Int) × Int} {L R : Option Addr} {c d : Nat} (hr : r = ((a, [x]), k)) (ho : Own wf w.heap.size 2 1 L 1 c [.int .i64 x]) (hz : Below w.heap.size w wf) : NewPrf2 w r (.returned (.tuple #[.agg #[.int .i64 a, .slice L 1 c, .slice R 0 d], .int .i64 k])) wf := by
  subst hr
  exact ⟨L, c, R, d, rfl, ho, hz⟩

set_option maxHeartbeats 4000000 in
theorem findHaltI_any (sy st : Int) (A : Option Addr) (n k : Nat) (rs : List R3) (b : Int) (w : World) (hr : S3 w A n rs) (hn : n ≤ 1048576) :
    Calls Try.prog 43 #[.agg #[.int .i64 sy, .int .i64 st, .slice A n k], .int .i64 b] w (NewPrf2 w (findHaltF sy st rs b)) := by
  obtain ⟨W, hW_⟩ : ∃ W, W = (w.alloc (.cells #[.int .i64 sy, .int .i64 st, .slice A n k] 30)).alloc (.cells #[.int .i64 0, .slice none 0 0, .slice none 0 0] 58) := ⟨_, rfl⟩
  have s_1 : (w.alloc (.cells #[.int .i64 sy, .int .i64 st, .slice A n k] 30)).heap.size = w.heap.size + 1 := by simp
  have b0 : Blk W w.heap.size 30 #[.int .i64 sy, .int .i64 st, .slice A n k] := by rw [hW_]; exact (Blk.new w _ _).alloc _
  have b1 : Blk W (w.heap.size + 1) 58 #[.int .i64 0, .slice none 0 0, .slice none 0 0] := by rw [hW_, ← s_1]; exact Blk.new _ _ _
  have y0 : Below w.heap.size w W := by rw [hW_]; exact ((Below.refl _ _).alloc (Nat.le_refl _) _).alloc (by simp) _
  have HW := Lib.hid hW_
  clear hW_ s_1
  have q0 : W.cell? ⟨w.heap.size, 0, none⟩ = some (.int .i64 sy) := b0.cell 0
  have q1 : W.cell? ⟨w.heap.size, 1, none⟩ = some (.int .i64 st) := b0.cell 1
  have q2 : W.cell? ⟨w.heap.size, 2, none⟩ = some (.slice A n k) := b0.cell 2
  go_enter Try.func43, Try.ntmps43
  go_wp2_with fail
  rw [← HW.out]
  refine (budgeted_any _ _ _ _ _ rs _ _ (hr.below y0) hn).mono ?_
  rintro e W1 ⟨rfl, z1⟩
  have y1 := y0.trans (z1.mono y0.size)
  have c0 := b0.below' z1
  have c1 := b1.below' z1
  clear q0 q1 q2
  have q0 : W1.cell? ⟨w.heap.size, 0, none⟩ = some (.int .i64 sy) := c0.cell 0
  have q1 : W1.cell? ⟨w.heap.size, 1, none⟩ = some (.int .i64 st) := c0.cell 1
  have q2 : W1.cell? ⟨w.heap.size, 2, none⟩ = some (.slice A n k) := c0.cell 2
  have u0 : W1.cell? ⟨(w.heap.size + 1), 0, none⟩ = some (.int .i64 0) := c1.cell 0
  have u1 : W1.cell? ⟨(w.heap.size + 1), 1, none⟩ = some (.slice none 0 0) := c1.cell 1
  have u2 : W1.cell? ⟨(w.heap.size + 1), 2, none⟩ = some (.slice none 0 0) := c1.cell 2
  have f0 := c1.frozen 0
  have f1 := c1.frozen 1
  have f2 := c1.frozen 2
  by_cases hc : codeF sy st rs blankC b = 0
  rotate_left
  · have HF := Lib.hid (findHaltF_code hc)
    go_wp2_with fail
    have d1 := conf_set c1 (.int .i64 0) (.slice none 0 0) (.slice none 0 0)
    exact bodyPost_ret (v := .tuple #[.agg #[.int .i64 0, .slice none 0 0, .slice none 0 0], .int .i64 (codeF sy st rs blankC b)]) (by simp [results, Try.results43, go_sem, d1.cell 0, d1.cell 1, d1.cell 2]) rfl (newPrf2_zero HF.out (conf_below y1 (by omega) _ _ _))
  obtain ⟨hg, hb1, hb2⟩ := codeF_zero hc
  obtain ⟨N, rfl⟩ : ∃ N : Nat, b = (N : Int) := ⟨b.toNat, by omega⟩
  have HC := Lib.hid hc
  rw [hc]
  clear hc
  go_wp2_with fail
  refine (blankRun_any _ _ _ _ _ _).mono ?_
  rintro e W2 ⟨g, L, cl, R, cr, rfl, hgW, hrun, ol, or_, hap, z2⟩
  have hrc : RunC (fun _ => False) W2 W1.heap.size g sy st A n k blankC := NewRunner.runC hrun ol or_ hap
  clear hap hrun ol or_ q0 q1 q2 u0 u1 u2 f0 f1 f2
  go_wp2_with fail
  refine (run_any W1 W2 g sy st A n k rs blankC N hrc (hr.below y1) z2 hgW hg hn (by omega)).mono ?_
  rintro e W3 ⟨hcase, z3⟩
  have y3 := y1.trans (z3.mono y1.size)
  have e1 := c1.below' z3
  have hlt : w.heap.size + 1 < W3.heap.size := e1.lt
  have u0 : W3.cell? ⟨(w.heap.size + 1), 0, none⟩ = some (.int .i64 0) := e1.cell 0
  have u1 : W3.cell? ⟨(w.heap.size + 1), 1, none⟩ = some (.slice none 0 0) := e1.cell 1
  have u2 : W3.cell? ⟨(w.heap.size + 1), 2, none⟩ = some (.slice none 0 0) := e1.cell 2
  have f0 := e1.frozen 0
  have f1 := e1.frozen 1
  have f2 := e1.frozen 2
  rcases hcase with ⟨i, hi, rfl, _⟩ | ⟨⟨i, hi⟩, rfl⟩
  · cases hh : haltC sy rs (itC sy rs blankC i) with
    | false =>
      have HF := Lib.hid (findHaltF_runs HC.out hi hh)
      clear hh hi
      go_wp2_with fail
      have d1 := conf_set e1 (.int .i64 0) (.slice none 0 0) (.slice none 0 0)
      exact bodyPost_ret (v := .tuple #[.agg #[.int .i64 0, .slice none 0 0, .slice none 0 0], .int .i64 3]) (by simp [results, Try.results43, go_sem, d1.cell 0, d1.cell 1, d1.cell 2]) rfl (newPrf2_zero HF.out (conf_below y3 (by omega) _ _ _))
    | true =>
      have HF := Lib.hid (findHaltF_halt HC.out hi hh)
      clear hh hi
      go_wp2_with fail
      have d1 := (conf_set e1 (.int .i64 1) (.slice (some ⟨W3.heap.size, 0, none⟩) 1 1) (.slice none 0 0)).alloc (.cells #[.int .i64 (i : Int)] 2)
      have hyf := conf_below y3 (show w.heap.size ≤ w.heap.size + 1 by omega) (.int .i64 1) (.slice (some ⟨W3.heap.size, 0, none⟩) 1 1) (.slice none 0 0)
      have hsz : (((W3.setCell ⟨w.heap.size + 1, 0, none⟩ (.int .i64 1)).setCell ⟨w.heap.size + 1, 1, none⟩ (.slice (some ⟨W3.heap.size, 0, none⟩) 1 1)).setCell ⟨w.heap.size + 1, 2, none⟩ (.slice none 0 0)).heap.size = W3.heap.size := by simp [World.setCell]
      generalize ((W3.setCell ⟨w.heap.size + 1, 0, none⟩ (.int .i64 1)).setCell ⟨w.heap.size + 1, 1, none⟩ (.slice (some ⟨W3.heap.size, 0, none⟩) 1 1)).setCell ⟨w.heap.size + 1, 2, none⟩ (.slice none 0 0) = Wf at *
      have ol := Own.lit Wf #[.int .i64 (i : Int)] 2 1 1 w.heap.size (by simp) (by simp [maxLen]) hyf.size
      rw [hsz] at ol
      exact bodyPost_ret (v := .tuple #[.agg #[.int .i64 1, .slice (some ⟨W3.heap.size, 0, none⟩) 1 1, .slice none 0 0], .int .i64 0]) (by simp [results, Try.results43, go_sem, d1.cell 0, d1.cell 1, d1.cell 2]) rfl (newPrf2_one HF.out ol (hyf.alloc hyf.size _))
  · have HF := Lib.hid (findHaltF_full HC.out hi)
    clear hi
    go_wp2_with fail
    have d1 := conf_set e1 (.int .i64 0) (.slice none 0 0) (.slice none 0 0)
    exact bodyPost_ret (v := .tuple #[.agg #[.int .i64 0, .slice none 0 0, .slice none 0 0], .int .i64 5]) (by simp [results, Try.results43, go_sem, d1.cell 0, d1.cell 1, d1.cell 2]) rfl (newPrf2_zero HF.out (conf_below y3 (by omega) _ _ _))

-- the reference
theorem codeF_blank (sy st : Int) (rs : List R3) (b : Int) : codeF sy st rs blankC b = if machB sy st rs then (if inB b 1 20000 then 0 else 2) else 1 := by
  unfold codeF; rw [show validConfB sy st rs blankC.q blankC.xs blankC.ys = machB sy st rs from blank_good sy st rs]

set_option maxHeartbeats 1000000 in
theorem l25Ask_any (g : Nat) (sy st : Int) (A : Option Addr) (n k : Nat) (rs : List R3) (b : Int) (w : World) (hm : MachAt w g sy st A n k) (hrs : S3 w A n rs) (hn : n ≤ 1048576) :
    Calls Try.prog 100 #[.pointer (some ⟨g, 0, none⟩), .int .i64 b] w fun e w' => e = .returned (.int .i64 (codeF sy st rs blankC b)) ∧ Below w.heap.size w w' := by
  go_enter Try.func100, Try.ntmps100
  go_wp2_with fail
  refine (l05Is_any _ _ _ _ _ _ rs _ hm hrs hn).mono ?_
  rintro e W1 ⟨rfl, z1⟩
  cases a0 : machB sy st rs
  · have A0 := Lib.hid a0
    clear a0
    go_wp2_with fail
    go_ret
    exact ⟨ret_int (by rw [codeF_blank, A0.out]; rfl), z1⟩
  have A0 := Lib.hid a0
  clear a0
  cases a1 : inB b 1 20000
  · have A1 := Lib.hid a1
    clear a1
    go_wp2_with (go_at_call 68; refine (l05Budget_is A1.out _).mono ?_; rintro e w' ⟨rfl, rfl⟩)
    go_ret
    exact ⟨ret_int (by rw [codeF_blank, A0.out, A1.out]; rfl), z1⟩
  · have A1 := Lib.hid a1
    clear a1
    go_wp2_with (go_at_call 68; refine (l05Budget_is A1.out _).mono ?_; rintro e w' ⟨rfl, rfl⟩)
    go_ret
    exact ⟨ret_int (by rw [codeF_blank, A0.out, A1.out]; rfl), z1⟩

set_option maxHeartbeats 1000000 in
theorem l25Made_any (a : Int) (A : Option Addr) (n c : Nat) (w : World) :
    Calls Try.prog 147 #[.int .i64 a, .slice A n c] w fun e w' => ∃ R d, e = .returned (.agg #[.int .i64 a, .slice A n c, .slice R 0 d]) ∧ Below w.heap.size w w' := by
  obtain ⟨C, hC⟩ : ∃ C : Obj, C = .cells #[.int .i64 a, .slice A n c, .slice (some ⟨w.heap.size + 1, 0, none⟩) 0 0] 58 := ⟨_, rfl⟩
  have d : Blk ((w.alloc C).alloc (.cells #[] 34)) w.heap.size 58 #[.int .i64 a, .slice A n c, .slice (some ⟨w.heap.size + 1, 0, none⟩) 0 0] := by rw [hC]; exact (Blk.new w _ _).alloc _
  have y : Below w.heap.size w ((w.alloc C).alloc (.cells #[] 34)) := ((Below.refl _ _).alloc (Nat.le_refl _) _).alloc (by simp) _
  have HC := Lib.hid hC
  clear hC
  go_enter Try.func147, Try.ntmps147
  go_wp2_with fail
  rw [← HC.out]
  generalize (w.alloc C).alloc (.cells #[] 34) = wf at *
  have q0 : wf.cell? ⟨w.heap.size, 0, none⟩ = some (.int .i64 a) := d.cell 0
  have q1 : wf.cell? ⟨w.heap.size, 1, none⟩ = some (.slice A n c) := d.cell 1
  have q2 : wf.cell? ⟨w.heap.size, 2, none⟩ = some (.slice (some ⟨w.heap.size + 1, 0, none⟩) 0 0) := d.cell 2
  exact bodyPost_ret (v := .agg #[.int .i64 a, .slice A n c, .slice (some ⟨w.heap.size + 1, 0, none⟩) 0 0]) (by simp [results, Try.results147, go_sem, q0, q1, q2]) rfl ⟨_, 0, rfl, y⟩

theorem l05Run_blank (g : Nat) (sy st : Int) (A : Option Addr) (n k : Nat) (rs : List R3) (L : Option Addr) (a : Nat) (R : Option Addr) (d : Nat) (N : Nat) (w : World) (hm : MachAt w g sy st A n k) (hrs : S3 w A n rs) (hgc : goodC sy st rs blankC) (hn : n ≤ 1048576) (hN : N ≤ 1000000) :
    Calls Try.prog 89 #[.pointer (some ⟨g, 0, none⟩), .agg #[.int .i64 0, .slice L 0 a, .slice R 0 d], .int .i64 (N : Int)] w (SpecRun w sy rs blankC N) :=
  l05Run_any g sy st A n k rs blankC L a R d N w hm hrs SI.nil SI.nil hgc hn hN

set_option maxHeartbeats 4000000 in
theorem l25FindHalt_any (g : Nat) (sy st : Int) (A : Option Addr) (n k : Nat) (rs : List R3) (N : Nat) (w : World) (hm : MachAt w g sy st A n k) (hrs : S3 w A n rs) (hn : n ≤ 1048576) (hg : goodC sy st rs blankC) (hc : codeF sy st rs blankC (N : Int) = 0) (hN : N ≤ 1000000) :
    Calls Try.prog 101 #[.pointer (some ⟨g, 0, none⟩), .int .i64 (N : Int)] w (NewPrf2 w (findHaltF sy st rs (N : Int))) := by
  obtain ⟨W, hW_⟩ : ∃ W, W = w.alloc (.cells #[.int .i64 0, .slice none 0 0, .slice none 0 0] 58) := ⟨_, rfl⟩
  have b1 : Blk W w.heap.size 58 #[.int .i64 0, .slice none 0 0, .slice none 0 0] := by rw [hW_]; exact Blk.new w _ _
  have y0 : Below w.heap.size w W := by rw [hW_]; exact (Below.refl _ _).alloc (Nat.le_refl _) _
  have HW := Lib.hid hW_
  clear hW_
  have HC := Lib.hid hc
  clear hc
  go_enter Try.func101, Try.ntmps101
  go_wp2_with fail
  rw [← HW.out]
  refine (l25Blank_any _).mono ?_
  rintro e W1 ⟨L1, a1, R1, d1, rfl, _, _, _, z1⟩
  have y1 := y0.trans (z1.mono y0.size)
  have c1 := b1.below' z1
  go_wp2_with fail
  refine (l05Run_blank g sy st A n k rs _ _ _ _ N _ (hm.below y1) (hrs.below y1) hg hn hN).mono ?_
  rintro e W2 ⟨hcase, z2⟩
  have y2 := y1.trans (z2.mono y1.size)
  have c2 := c1.below' z2
  rcases hcase with ⟨i, hi, L, a, R, d', rfl, _, _, _⟩ | ⟨⟨i, hi⟩, rfl⟩
  · have HFH := Lib.hid (fun h => findHaltF_halt HC.out hi h)
    have HFR := Lib.hid (fun h => findHaltF_runs HC.out hi h)
    clear hi
    generalize itC sy rs blankC i = cf at *
    obtain ⟨W3, hW_⟩ : ∃ W, W = W2.alloc (.cells #[.int .i64 cf.q, .slice L cf.xs.length a, .slice R cf.ys.length d'] 38) := ⟨_, rfl⟩
    have b3 : Blk W3 W2.heap.size 38 #[.int .i64 cf.q, .slice L cf.xs.length a, .slice R cf.ys.length d'] := by rw [hW_]; exact Blk.new W2 _ _
    have z3 : Below W2.heap.size W2 W3 := by rw [hW_]; exact (Below.refl _ _).alloc (Nat.le_refl _) _
    have HW3 := Lib.hid hW_
    clear hW_
    have y3 := y2.trans (z3.mono y2.size)
    have c3 := c2.below' z3
    have hlt : w.heap.size < W3.heap.size := c3.lt
    have u0 : W3.cell? ⟨w.heap.size, 0, none⟩ = some (.int .i64 0) := c3.cell 0
    have u1 : W3.cell? ⟨w.heap.size, 1, none⟩ = some (.slice none 0 0) := c3.cell 1
    have u2 : W3.cell? ⟨w.heap.size, 2, none⟩ = some (.slice none 0 0) := c3.cell 2
    have f0 := c3.frozen 0
    have f1 := c3.frozen 1
    have f2 := c3.frozen 2
    go_upto_region 2 with fail
    rw [← HW3.out]
    cases hh : haltC sy rs cf with
    | false =>
      have HF := Lib.hid (HFR.out hh)
      clear hh HFH HFR
      go_wp2_with fail
      have d1 := conf_set c3 (.int .i64 0) (.slice none 0 0) (.slice none 0 0)
      exact bodyPost_ret (v := .tuple #[.agg #[.int .i64 0, .slice none 0 0, .slice none 0 0], .int .i64 3]) (by simp [results, Try.results101, go_sem, d1.cell 0, d1.cell 1, d1.cell 2]) rfl (newPrf2_zero HF.out (conf_below y3 (by omega) _ _ _))
    | true =>
      have HF := Lib.hid (HFH.out hh)
      clear hh HFH HFR
      go_wp2_with fail
      obtain ⟨W4, hW_⟩ : ∃ W, W = W3.alloc (.cells #[.int .i64 (i : Int)] 2) := ⟨_, rfl⟩
      have b4 : Blk W4 W3.heap.size 2 #[.int .i64 (i : Int)] := by rw [hW_]; exact Blk.new W3 _ _
      have z4 : Below W3.heap.size W3 W4 := by rw [hW_]; exact (Below.refl _ _).alloc (Nat.le_refl _) _
      have HW4 := Lib.hid hW_
      clear hW_
      have ol : Own W4 W3.heap.size 2 1 (some ⟨W3.heap.size, 0, none⟩) 1 1 [.int .i64 (i : Int)] := by rw [HW4.out]; exact Own.lit W3 #[.int .i64 (i : Int)] 2 1 1 W3.heap.size (by simp) (by simp [maxLen]) (Nat.le_refl _)
      have y4 := y3.trans (z4.mono y3.size)
      clear u0 u1 u2 f0 f1 f2
      rw [← HW4.out]
      refine (l25Made_any _ _ _ _ _).mono ?_
      rintro e W5 ⟨R5, d5, rfl, z5⟩
      have y5 := y4.trans (z5.mono y4.size)
      have c5 := (c3.below' z4).below' z5
      have u0 : W5.cell? ⟨w.heap.size, 0, none⟩ = some (.int .i64 0) := c5.cell 0
      have u1 : W5.cell? ⟨w.heap.size, 1, none⟩ = some (.slice none 0 0) := c5.cell 1
      have u2 : W5.cell? ⟨w.heap.size, 2, none⟩ = some (.slice none 0 0) := c5.cell 2
      have f0 := c5.frozen 0
      have f1 := c5.frozen 1
      have f2 := c5.frozen 2
      go_wp2_with fail
      have d1 := conf_set c5 (.int .i64 1) (.slice (some ⟨W3.heap.size, 0, none⟩) 1 1) (.slice R5 0 d5)
      exact bodyPost_ret (v := .tuple #[.agg #[.int .i64 1, .slice (some ⟨W3.heap.size, 0, none⟩) 1 1, .slice R5 0 d5], .int .i64 0]) (by simp [results, Try.results101, go_sem, d1.cell 0, d1.cell 1, d1.cell 2]) rfl
        (newPrf2_one HF.out ((conf_far (ol.below z5) (by omega) _ _ _).mono (by omega)) (conf_below y5 (by omega) _ _ _))
  · have HF := Lib.hid (findHaltF_full HC.out hi)
    clear hi
    obtain ⟨W3, hW_⟩ : ∃ W, W = W2.alloc (.cells #[.int .i64 0, .slice none 0 0, .slice none 0 0] 38) := ⟨_, rfl⟩
    have b3 : Blk W3 W2.heap.size 38 #[.int .i64 0, .slice none 0 0, .slice none 0 0] := by rw [hW_]; exact Blk.new W2 _ _
    have z3 : Below W2.heap.size W2 W3 := by rw [hW_]; exact (Below.refl _ _).alloc (Nat.le_refl _) _
    have HW3 := Lib.hid hW_
    clear hW_
    have y3 := y2.trans (z3.mono y2.size)
    have c3 := c2.below' z3
    have u0 : W3.cell? ⟨w.heap.size, 0, none⟩ = some (.int .i64 0) := c3.cell 0
    have u1 : W3.cell? ⟨w.heap.size, 1, none⟩ = some (.slice none 0 0) := c3.cell 1
    have u2 : W3.cell? ⟨w.heap.size, 2, none⟩ = some (.slice none 0 0) := c3.cell 2
    have f0 := c3.frozen 0
    have f1 := c3.frozen 1
    have f2 := c3.frozen 2
    go_upto_region 2 with fail
    rw [← HW3.out]
    go_wp2_with fail
    have d1 := conf_set c3 (.int .i64 0) (.slice none 0 0) (.slice none 0 0)
    exact bodyPost_ret (v := .tuple #[.agg #[.int .i64 0, .slice none 0 0, .slice none 0 0], .int .i64 5]) (by simp [results, Try.results101, go_sem, d1.cell 0, d1.cell 1, d1.cell 2]) rfl (newPrf2_zero HF.out (conf_below y3 (by omega) _ _ _))

set_option maxHeartbeats 4000000 in
theorem specFindHalt_any (sy st : Int) (A : Option Addr) (n k : Nat) (rs : List R3) (b : Int) (w : World) (hr : S3 w A n rs) (hn : n ≤ 1048576) :
    Calls Try.prog 42 #[.agg #[.int .i64 sy, .int .i64 st, .slice A n k], .int .i64 b] w (NewPrf2 w (findHaltF sy st rs b)) := by
  obtain ⟨W, hW_⟩ : ∃ W, W = (w.alloc (.cells #[.int .i64 sy, .int .i64 st, .slice A n k] 30)).alloc (.cells #[.int .i64 0, .slice none 0 0, .slice none 0 0] 58) := ⟨_, rfl⟩
  have s_1 : (w.alloc (.cells #[.int .i64 sy, .int .i64 st, .slice A n k] 30)).heap.size = w.heap.size + 1 := by simp
  have b0 : Blk W w.heap.size 30 #[.int .i64 sy, .int .i64 st, .slice A n k] := by rw [hW_]; exact (Blk.new w _ _).alloc _
  have b1 : Blk W (w.heap.size + 1) 58 #[.int .i64 0, .slice none 0 0, .slice none 0 0] := by rw [hW_, ← s_1]; exact Blk.new _ _ _
  have y0 : Below w.heap.size w W := by rw [hW_]; exact ((Below.refl _ _).alloc (Nat.le_refl _) _).alloc (by simp) _
  have HW := Lib.hid hW_
  clear hW_ s_1
  have hM := b0.machAt
  go_enter Try.func42, Try.ntmps42
  go_wp2_with fail
  rw [← HW.out]
  refine (l25Ask_any _ _ _ _ _ _ rs _ _ hM (hr.below y0) hn).mono ?_
  rintro e W1 ⟨rfl, z1⟩
  have y1 := y0.trans (z1.mono y0.size)
  have c1 := b1.below' z1
  have hM1 := hM.below z1
  have u0 : W1.cell? ⟨(w.heap.size + 1), 0, none⟩ = some (.int .i64 0) := c1.cell 0
  have u1 : W1.cell? ⟨(w.heap.size + 1), 1, none⟩ = some (.slice none 0 0) := c1.cell 1
  have u2 : W1.cell? ⟨(w.heap.size + 1), 2, none⟩ = some (.slice none 0 0) := c1.cell 2
  have f0 := c1.frozen 0
  have f1 := c1.frozen 1
  have f2 := c1.frozen 2
  by_cases hc : codeF sy st rs blankC b = 0
  rotate_left
  · have HF := Lib.hid (findHaltF_code hc)
    go_wp2_with fail
    have d1 := conf_set c1 (.int .i64 0) (.slice none 0 0) (.slice none 0 0)
    exact bodyPost_ret (v := .tuple #[.agg #[.int .i64 0, .slice none 0 0, .slice none 0 0], .int .i64 (codeF sy st rs blankC b)]) (by simp [results, Try.results42, go_sem, d1.cell 0, d1.cell 1, d1.cell 2]) rfl (newPrf2_zero HF.out (conf_below y1 (by omega) _ _ _))
  obtain ⟨hg, hb1, hb2⟩ := codeF_zero hc
  obtain ⟨N, rfl⟩ : ∃ N : Nat, b = (N : Int) := ⟨b.toNat, by omega⟩
  have HC := Lib.hid hc
  rw [hc]
  clear hc u0 u1 u2 f0 f1 f2
  go_wp2_with fail
  refine (l25FindHalt_any _ sy st A n k rs N _ hM1 (hr.below y1) hn hg HC.out (by omega)).mono ?_
  rintro e W2 ⟨L2, a2, R2, d2, rfl, o2, z2⟩
  generalize findHaltF sy st rs (N : Int) = res at *
  have y2 := y1.trans (z2.mono y1.size)
  have c2 := c1.below' z2
  have hlt : w.heap.size + 1 < W1.heap.size := c1.lt
  have u0 : W2.cell? ⟨(w.heap.size + 1), 0, none⟩ = some (.int .i64 0) := c2.cell 0
  have u1 : W2.cell? ⟨(w.heap.size + 1), 1, none⟩ = some (.slice none 0 0) := c2.cell 1
  have u2 : W2.cell? ⟨(w.heap.size + 1), 2, none⟩ = some (.slice none 0 0) := c2.cell 2
  have f0 := c2.frozen 0
  have f1 := c2.frozen 1
  have f2 := c2.frozen 2
  go_wp2_with fail
  have d1 := conf_set c2 (.int .i64 res.1.1) (.slice L2 res.1.2.length a2) (.slice R2 0 d2)
  exact bodyPost_ret (v := .tuple #[.agg #[.int .i64 res.1.1, .slice L2 res.1.2.length a2, .slice R2 0 d2], .int .i64 res.2]) (by simp [results, Try.results42, go_sem, d1.cell 0, d1.cell 1, d1.cell 2]) rfl ⟨L2, a2, R2, d2, rfl, (conf_far o2 (by omega) _ _ _).mono (by omega), conf_below y2 (by omega) _ _ _⟩
end Go.Proofs.Ytbedghebckflmaa
