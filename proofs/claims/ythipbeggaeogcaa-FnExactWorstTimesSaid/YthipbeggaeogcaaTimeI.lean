/-
  Contracts of impl.TimeTable and spec.TimeTable: both return what timeTableF says.
-/
import Derived.Test.YthipbeggaeogcaaStartS
import Derived.Test.YthipbeggaeogcaaConfL
namespace Go.Proofs.Ythipbeggaeogcaa
open Go.RowKit

/-- The number of steps from a word, -1 if the machine does not halt, and a code. -/
def timeF (sy st : Int) (rs : List R3) (N : Nat) (xs : List Int) : Int × Int :=
  if (startF sy st rs xs).2 = 0 then
    match runN sy rs N (startF sy st rs xs).1 with
    | some i => (if haltC sy rs (itC sy rs (startF sy st rs xs).1 i) then (i : Int) else -1, 0)
    | none => (0, 5)
  else (0, (startF sy st rs xs).2)
theorem timeF_code {sy st : Int} {rs : List R3} {N : Nat} {xs : List Int} (h : ¬ (startF sy st rs xs).2 = 0) : timeF sy st rs N xs = (0, (startF sy st rs xs).2) := by unfold timeF; rw [if_neg h]
theorem timeF_full {sy st : Int} {rs : List R3} {N i : Nat} {xs : List Int} (h : (startF sy st rs xs).2 = 0) (h1 : Full sy rs (startF sy st rs xs).1 N i) : timeF sy st rs N xs = (0, 5) := by unfold timeF; rw [if_pos h, runN_full h1]
theorem timeF_ended {sy st : Int} {rs : List R3} {N i : Nat} {xs : List Int} (h : (startF sy st rs xs).2 = 0) (h1 : Ended sy rs (startF sy st rs xs).1 N i) : timeF sy st rs N xs = (if haltC sy rs (itC sy rs (startF sy st rs xs).1 i) then (i : Int) else -1, 0) := by unfold timeF; rw [if_pos h, runN_ended h1]
/-- A function of each word, up to the first word with a code. -/
def timesF (f : List Int → Int × Int) : List (List Int) → List Int × Int
  | [] => ([], 0)
  | x :: r => if (f x).2 = 0 then (if (timesF f r).2 = 0 then ((f x).1 :: (timesF f r).1, 0) else ([], (timesF f r).2)) else ([], (f x).2)
theorem timesF_ok {f : List Int → Int × Int} {xss : List (List Int)} (h : ∀ x ∈ xss, (f x).2 = 0) : timesF f xss = (xss.map (fun x => (f x).1), 0) := by
  induction xss with
  | nil => rfl
  | cons x r ih =>
    have h1 := ih (fun y hy => h y (List.mem_cons_of_mem _ hy))
    rw [timesF, if_pos (h x (List.mem_cons_self)), h1]
    simp
theorem timesF_bad {f : List Int → Int × Int} {a b : List (List Int)} {x : List Int} (h : ∀ y ∈ a, (f y).2 = 0) (hx : ¬ (f x).2 = 0) : timesF f (a ++ x :: b) = ([], (f x).2) := by
  induction a with
  | nil => rw [List.nil_append, timesF, if_neg hx]
  | cons y r ih =>
    have h1 := ih (fun z hz => h z (List.mem_cons_of_mem _ hz))
    rw [List.cons_append, timesF, if_pos (h y (List.mem_cons_self)), h1, if_neg hx]
/-- What TimeTable returns. -/
def timeTableF (sy st : Int) (rs : List R3) (xss : List (List Int)) (b : Int) : List Int × Int :=
  if machB sy st rs then (if inB b 1 20000 && decide (xss.length ≤ 256) then timesF (timeF sy st rs b.toNat) xss else ([], 2)) else ([], 1)
theorem timesF_len (f : List Int → Int × Int) (xss : List (List Int)) : (timesF f xss).1.length ≤ xss.length := by
  induction xss with
  | nil => simp [timesF]
  | cons x r ih =>
    rw [timesF]
    split
    · split
      · simpa using ih
      · simp
    · simp
theorem timeTableF_len (sy st : Int) (rs : List R3) (xss : List (List Int)) (b : Int) : (timeTableF sy st rs xss b).1.length ≤ 1048576 := by
  unfold timeTableF
  split
  · split
    · rename_i h
      simp only [Bool.and_eq_true, decide_eq_true_eq] at h
      have := timesF_len (timeF sy st rs b.toNat) xss
      omega
    · simp
  · simp
/-- The times of the first k words. -/
def timesTo (f : List Int → Int × Int) (xss : List (List Int)) (k : Nat) : List Int := (xss.take k).map (fun x => (f x).1)
def okTo (f : List Int → Int × Int) (xss : List (List Int)) (k : Nat) : Prop := ∀ x ∈ xss.take k, (f x).2 = 0
theorem timesTo_next {f : List Int → Int × Int} {ts : List Sl} {t : Sl} {k : Nat} (hT : ts[k]? = some t) : timesTo f (nums ts) (k + 1) = timesTo f (nums ts) k ++ [(f t.xs).1] := by
  obtain ⟨hk, rfl⟩ := List.getElem?_eq_some_iff.1 hT
  unfold timesTo
  rw [List.take_succ_eq_append_getElem (by simpa [nums] using hk), List.map_append]
  simp [nums]
theorem okTo_next {f : List Int → Int × Int} {ts : List Sl} {t : Sl} {k : Nat} (hT : ts[k]? = some t) (h : okTo f (nums ts) k) (h1 : (f t.xs).2 = 0) : okTo f (nums ts) (k + 1) := by
  obtain ⟨hk, rfl⟩ := List.getElem?_eq_some_iff.1 hT
  unfold okTo at h ⊢
  rw [List.take_succ_eq_append_getElem (by simpa [nums] using hk)]
  intro x hx
  rcases List.mem_append.1 hx with hx | hx
  · exact h x hx
  · simp [nums] at hx; subst hx; exact h1
theorem times_stop {f : List Int → Int × Int} {ts : List Sl} {t : Sl} {k : Nat} (hT : ts[k]? = some t) (h : okTo f (nums ts) k) (h1 : ¬ (f t.xs).2 = 0) : timesF f (nums ts) = ([], (f t.xs).2) := by
  obtain ⟨hk, rfl⟩ := List.getElem?_eq_some_iff.1 hT
  have hk2 : k < (nums ts).length := by simpa [nums] using hk
  have e : nums ts = (nums ts).take k ++ (nums ts)[k] :: (nums ts).drop (k + 1) := by
    rw [← List.drop_eq_getElem_cons hk2, List.take_append_drop]
  have e2 : (nums ts)[k] = ts[k].xs := by simp [nums]
  rw [e, e2]
  exact timesF_bad h h1
theorem times_end {f : List Int → Int × Int} {ts : List Sl} {k : Nat} (hk : (nums ts).length ≤ k) (h : okTo f (nums ts) k) : timesF f (nums ts) = (timesTo f (nums ts) k, 0) := by
  unfold okTo at h
  unfold timesTo
  rw [List.take_of_length_le hk] at h ⊢
  exact timesF_ok h
theorem timesTo_len (f : List Int → Int × Int) (xss : List (List Int)) (k : Nat) : (timesTo f xss k).length ≤ k := by unfold timesTo; simp; omega

theorem Blk.ne_own1 {w : World} {g : Nat} {cs : Array Value} {lo s n' c' : Nat} {X : Option Addr} {xs : List Value} (h : Blk w g 82 cs) (h' : Own w lo 2 s X n' c' xs) : blk X ≠ some g := by
  intro hb
  rcases h'.2 with ⟨rfl, _⟩ | ⟨b, off, cur, rfl, _, hg, _⟩
  · simp [blk] at hb
  · simp [blk] at hb; subst hb
    unfold Blk at h
    rw [hg] at h
    simp at h
theorem newI2_nil {w wf : World} {k : Int} {r : List Int × Int} (hr : r = ([], k)) (hz : Below w.heap.size w wf) : NewI2 w r (.returned (.tuple #[.slice none 0 0, .int .i64 k])) wf := by
  subst hr
  exact ⟨none, 0, rfl, Own.nil, hz⟩
theorem newI2_of {w wf : World} {k : Int} {r : List Int × Int} {xs : List Int} {A : Option Addr} {c : Nat} (hr : r = (xs, k)) (ho : Own wf w.heap.size 2 1 A xs.length c (ints xs)) (hz : Below w.heap.size w wf) : NewI2 w r (.returned (.tuple #[.slice A xs.length c, .int .i64 k])) wf := by
  subst hr
  exact ⟨A, c, rfl, ho, hz⟩

set_option maxRecDepth 100000 in
set_option maxHeartbeats 8000000 in
theorem timeTableI_any (sy st : Int) (A : Option Addr) (n k : Nat) (rs : List R3) (B : Option Addr) (m c : Nat) (ts : List Sl) (b : Int) (w : World) (hr : S3 w A n rs) (hx : SII w B m ts) (hn : n ≤ 1048576) (hm : m ≤ 1048576) (hns : ∀ t ∈ ts, t.xs.length ≤ 1048576) :
    Calls Try.prog 125 #[.agg #[.int .i64 sy, .int .i64 st, .slice A n k], .slice B m c, .int .i64 b] w (NewI2 w (timeTableF sy st rs (nums ts) b)) := by
  obtain ⟨W, hW_⟩ : ∃ W, W = w.alloc (.cells #[.int .i64 sy, .int .i64 st, .slice A n k] 82) := ⟨_, rfl⟩
  have b0 : Blk W w.heap.size 82 #[.int .i64 sy, .int .i64 st, .slice A n k] := by rw [hW_]; exact Blk.new w _ _
  have y0 : Below w.heap.size w W := by rw [hW_]; exact (Below.refl _ _).alloc (Nat.le_refl _) _
  have HW := Lib.hid hW_
  clear hW_
  have q0 : W.cell? ⟨w.heap.size, 0, none⟩ = some (.int .i64 sy) := b0.cell 0
  have q1 : W.cell? ⟨w.heap.size, 1, none⟩ = some (.int .i64 st) := b0.cell 1
  have q2 : W.cell? ⟨w.heap.size, 2, none⟩ = some (.slice A n k) := b0.cell 2
  have HM : Hid ((nums ts).length = m) := by show _ = _; have := hx.len; simpa [nums] using this
  have HNS := Lib.hid hns
  clear hns
  go_enter Try.func125, Try.ntmps125
  go_wp2_with fail
  rw [← HW.out]
  refine (validMachine_any _ _ _ _ _ rs _ (hr.below y0) hn).mono ?_
  rintro e W1 ⟨rfl, z1⟩
  have y1 := y0.trans (z1.mono y0.size)
  have c0 := b0.below' z1
  clear q0 q1 q2
  cases a0 : machB sy st rs
  · have HF : Hid (timeTableF sy st rs (nums ts) b = ([], 1)) := Lib.hid (by unfold timeTableF; rw [a0]; rfl)
    clear a0
    go_wp2_with fail
    exact bodyPost_ret (v := .tuple #[.slice none 0 0, .int .i64 1]) (by simp [results, Try.results125, go_sem]) rfl (newI2_nil HF.out y1)
  have A0 := Lib.hid a0
  clear a0
  cases a1 : inB b 1 20000
  · have HF : Hid (timeTableF sy st rs (nums ts) b = ([], 2)) := Lib.hid (by unfold timeTableF; rw [A0.out, a1]; rfl)
    have A1 := Lib.hid a1
    clear a1
    go_wp2_with (go_at_call 77; refine (budgetOk_is A1.out _).mono ?_; rintro e w' ⟨rfl, rfl⟩)
    exact bodyPost_ret (v := .tuple #[.slice none 0 0, .int .i64 2]) (by simp [results, Try.results125, go_sem]) rfl (newI2_nil HF.out y1)
  have A1 := Lib.hid a1
  have hb := (inB_iff _ _ _).1 a1
  clear a1
  by_cases h3 : m ≤ 256
  rotate_left
  · have HF : Hid (timeTableF sy st rs (nums ts) b = ([], 2)) := Lib.hid (by unfold timeTableF; rw [A0.out, A1.out, HM.out]; simp [h3])
    have i1 : decide ((256 : Int) < (m : Int)) = true := by simp; omega
    go_wp2_with (go_at_call 77; refine (budgetOk_is A1.out _).mono ?_; rintro e w' ⟨rfl, rfl⟩)
    exact bodyPost_ret (v := .tuple #[.slice none 0 0, .int .i64 2]) (by simp [results, Try.results125, go_sem]) rfl (newI2_nil HF.out y1)
  have i1 : decide ((256 : Int) < (m : Int)) = false := by simp; omega
  obtain ⟨N, rfl⟩ : ∃ N : Nat, b = (N : Int) := ⟨b.toNat, by omega⟩
  have HF : Hid (timeTableF sy st rs (nums ts) (N : Int) = timesF (timeF sy st rs N) (nums ts)) := Lib.hid (by unfold timeTableF; rw [A0.out, A1.out, HM.out, Int.toNat_natCast]; simp [h3])
  have z2 : Below W1.heap.size W1 (W1.alloc (.cells #[] 2)) := (Below.refl _ _).alloc (Nat.le_refl _) _
  have y2 : Below w.heap.size w (W1.alloc (.cells #[] 2)) := y1.trans (z2.mono y1.size)
  have o0 : Own (W1.alloc (.cells #[] 2)) w.heap.size 2 1 (some ⟨W1.heap.size, 0, none⟩) 0 0 (ints (timesTo (timeF sy st rs N) (nums ts) 0)) := (Own.lit0 W1 _ 1).mono y1.size
  have c2 := c0.below' z2
  go_wp2_with (go_at_call 77; refine (budgetOk_is A1.out _).mono ?_; rintro e w' ⟨rfl, rfl⟩)
  clear i1
  generalize W1.alloc (.cells #[] 2) = W2 at *
  go_loopw [8, 31] (fun v i wr => ∃ (j : Nat) (D : Option Addr) (cd : Nat), j ≤ m ∧ i = .int .i64 (j : Int) ∧ v = .slice D (timesTo (timeF sy st rs N) (nums ts) j).length cd ∧ okTo (timeF sy st rs N) (nums ts) j ∧ Own wr w.heap.size 2 1 D (timesTo (timeF sy st rs N) (nums ts) j).length cd (ints (timesTo (timeF sy st rs N) (nums ts) j)) ∧ Blk wr w.heap.size 82 #[.int .i64 sy, .int .i64 st, .slice A n k] ∧ Below w.heap.size w wr) (fun _ i _ => m - (intOf i).toNat)
  case atStart => exact ⟨0, _, 0, Nat.zero_le _, rfl, rfl, (by intro x hx; simp at hx), o0, c2, y2⟩
  case round =>
    obtain ⟨j, D, cd, hj, rfl, rfl, hok, ho, hB, hy⟩ := hrel
    have HOK := Lib.hid hok
    clear hok o0 c2 y2 c0 b0 z2 y1 z1 y0
    have hfl := timesTo_len (timeF sy st rs N) (nums ts) j
    by_cases hlt : j < m
    · obtain ⟨t, bb, off, HT, htm, rfl, hbl, e0, hrow⟩ := (hx.below hy).pick hlt
      have hnt := HNS.out t htm
      have HSTOP := Lib.hid (times_stop (f := timeF sy st rs N) HT.out HOK.out)
      have HNEXT := Lib.hid (timesTo_next (f := timeF sy st rs N) HT.out)
      have HOKN := Lib.hid (okTo_next (f := timeF sy st rs N) HT.out HOK.out)
      have q0 : wr.cell? ⟨w.heap.size, 0, none⟩ = some (.int .i64 sy) := hB.cell 0
      have q1 : wr.cell? ⟨w.heap.size, 1, none⟩ = some (.int .i64 st) := hB.cell 1
      have q2 : wr.cell? ⟨w.heap.size, 2, none⟩ = some (.slice A n k) := hB.cell 2
      go_wp2_with fail
      refine (startConfigI_any _ _ _ _ _ rs _ _ _ t.xs _ (hr.below hy) hrow hn hnt).mono ?_
      rintro e W3 ⟨L3, a3, R3', d3, rfl, oL3, oR3, hap3, z3⟩
      have HAP3 := Lib.hid hap3
      have HSF : Hid ((startF sy st rs t.xs).2 = 0 → goodC sy st rs (startF sy st rs t.xs).1) := fun h => startF_good h
      have HTC := Lib.hid (fun h => timeF_code (sy := sy) (st := st) (rs := rs) (N := N) (xs := t.xs) h)
      have HTF := Lib.hid (fun i h h1 => timeF_full (i := i) (sy := sy) (st := st) (rs := rs) (N := N) (xs := t.xs) h h1)
      have HTE := Lib.hid (fun i h h1 => timeF_ended (i := i) (sy := sy) (st := st) (rs := rs) (N := N) (xs := t.xs) h h1)
      clear hap3 q0 q1 q2 e0 hrow htm
      generalize startF sy st rs t.xs = sf at *
      obtain ⟨cf, kc⟩ := sf
      dsimp only at oL3 oR3 HSF HTC HTF HTE ⊢
      have y3 := hy.trans (z3.mono hy.size)
      obtain ⟨W4, hW_⟩ : ∃ W_, W_ = W3.alloc (.cells #[.int .i64 cf.q, .slice L3 cf.xs.length a3, .slice R3' cf.ys.length d3] 172) := ⟨_, rfl⟩
      have b4 : Blk W4 W3.heap.size 172 #[.int .i64 cf.q, .slice L3 cf.xs.length a3, .slice R3' cf.ys.length d3] := by rw [hW_]; exact Blk.new W3 _ _
      have z4 : Below W3.heap.size W3 W4 := by rw [hW_]; exact (Below.refl _ _).alloc (Nat.le_refl _) _
      have HW4 := Lib.hid hW_
      clear hW_
      have y4 := y3.trans (z4.mono y3.size)
      have z34 := z3.trans (z4.mono z3.size)
      have hB4 := hB.below' z34
      have ho4 := ho.below z34
      have q0 : W4.cell? ⟨w.heap.size, 0, none⟩ = some (.int .i64 sy) := hB4.cell 0
      have q1 : W4.cell? ⟨w.heap.size, 1, none⟩ = some (.int .i64 st) := hB4.cell 1
      have q2 : W4.cell? ⟨w.heap.size, 2, none⟩ = some (.slice A n k) := hB4.cell 2
      have u0 : W4.cell? ⟨W3.heap.size, 0, none⟩ = some (.int .i64 cf.q) := b4.cell 0
      have u1 : W4.cell? ⟨W3.heap.size, 1, none⟩ = some (.slice L3 cf.xs.length a3) := b4.cell 1
      have u2 : W4.cell? ⟨W3.heap.size, 2, none⟩ = some (.slice R3' cf.ys.length d3) := b4.cell 2
      go_upto_region 10 with fail
      rw [← HW4.out]
      clear HW4
      by_cases hk0 : kc = 0
      rotate_left
      · have HE := Lib.hid (HTC.out hk0)
        have HE2 : Hid (timesF (timeF sy st rs N) (nums ts) = ([], kc)) := Lib.hid (by have := HSTOP.out (by rw [HE.out]; exact hk0); rw [this, HE.out])
        clear HTC HTF HTE HSTOP HNEXT HOKN HSF
        go_wp2_with fail
        exact bodyPost_ret (v := .tuple #[.slice none 0 0, .int .i64 kc]) (by simp [results, Try.results125, go_sem]) rfl (newI2_nil (HF.out.trans HE2.out) y4)
      subst hk0
      have hgc := HSF.out rfl
      have hcl := conf_len hgc
      go_wp2_with fail
      refine (runnerOf_any _ _ _ _ _ _ _ _ _ cf.xs _ _ _ cf.ys _ (oL3.below z4).asI (oR3.below z4).asI (by omega) (by omega)).mono ?_
      rintro e W5 ⟨g, L, cl, R, cr, rfl, hg, hrun, ol, or_, hap, z5⟩
      have hrc : RunC (fun _ => False) W5 W4.heap.size g sy st A n k cf := NewRunner.runC hrun ol or_ hap
      clear hap hrun ol or_ q0 q1 q2 u0 u1 u2
      go_wp2_with fail
      refine (run_any W4 W5 g sy st A n k rs cf N hrc (hr.below y4) z5 hg hgc hn (by omega)).mono ?_
      rintro e W6 ⟨hcase, z6⟩
      have y6 := y4.trans (z6.mono y4.size)
      have hB6 := hB4.below' z6
      have ho6 := ho4.below z6
      rcases hcase with ⟨i, hi, rfl, _⟩ | ⟨⟨i, hi⟩, rfl⟩
      · have HE := Lib.hid (HTE.out i (by trivial) hi)
        have hi2 := hi.1
        clear HTC HTF HTE HSTOP HSF hi hrc
        have HOK1 := Lib.hid (HOKN.out (by rw [HE.out]))
        cases hh : haltC sy rs (itC sy rs cf i) with
        | true =>
          have HN1 : Hid (timesTo (timeF sy st rs N) (nums ts) (j + 1) = timesTo (timeF sy st rs N) (nums ts) j ++ [(i : Int)]) := Lib.hid (by rw [HNEXT.out, HE.out, hh]; rfl)
          clear HE HNEXT HOKN hh
          go_wp2_with (at_builtin; refine wpList_append_Own rfl (.tmp 58) (.tmp 60) rfl elI (lo := w.heap.size) rfl (ho6.alloc _) rfl (Rd.new1 W6 (.int .i64 (i : Int)) _) (by simp [Value.oneCell']) (by omega) (by simp only [maxLen]; omega) (by have := y6.size; simp; omega) ?_; intro A2 c2 w2 ho7 hg7 hw7)
          have hy7 : Below w.heap.size w w2 := (ho6.alloc _).below_of (y6.alloc y6.size _) hg7 (by have := y6.size; simp; omega)
          have hB7 : Blk w2 w.heap.size 82 #[.int .i64 sy, .int .i64 st, .slice A n k] := (hg7.block w.heap.size (by have := hB6.lt; simp; omega) (fun e => (hB6.alloc (.cells #[.int .i64 (i : Int)] 2)).ne_own1 (ho6.alloc _) e.symm)).trans (hB6.alloc _)
          rw [ints_snoc, ← HN1.out] at ho7
          have HLEN : Hid ((timesTo (timeF sy st rs N) (nums ts) j).length + 1 = (timesTo (timeF sy st rs N) (nums ts) (j + 1)).length) := Lib.hid (by rw [HN1.out]; simp)
          go_wp2_with fail
          go_roundw
          case rel => exact ⟨j + 1, A2, c2, by omega, by go_num, by rw [← HLEN.out], HOK1.out, by rw [← HLEN.out]; exact ho7, hB7, hy7⟩
          case measure => simp [intOf]; omega
        | false =>
          have HN1 : Hid (timesTo (timeF sy st rs N) (nums ts) (j + 1) = timesTo (timeF sy st rs N) (nums ts) j ++ [-1]) := Lib.hid (by rw [HNEXT.out, HE.out, hh]; rfl)
          clear HE HNEXT HOKN hh
          go_wp2_with (at_builtin; refine wpList_append_Own rfl (.tmp 58) (.tmp 60) rfl elI (lo := w.heap.size) rfl (ho6.alloc _) rfl (Rd.new1 W6 (.int .i64 (-1)) _) (by simp [Value.oneCell']) (by omega) (by simp only [maxLen]; omega) (by have := y6.size; simp; omega) ?_; intro A2 c2 w2 ho7 hg7 hw7)
          have hy7 : Below w.heap.size w w2 := (ho6.alloc _).below_of (y6.alloc y6.size _) hg7 (by have := y6.size; simp; omega)
          have hB7 : Blk w2 w.heap.size 82 #[.int .i64 sy, .int .i64 st, .slice A n k] := (hg7.block w.heap.size (by have := hB6.lt; simp; omega) (fun e => (hB6.alloc (.cells #[.int .i64 (-1)] 2)).ne_own1 (ho6.alloc _) e.symm)).trans (hB6.alloc _)
          rw [ints_snoc, ← HN1.out] at ho7
          have HLEN : Hid ((timesTo (timeF sy st rs N) (nums ts) j).length + 1 = (timesTo (timeF sy st rs N) (nums ts) (j + 1)).length) := Lib.hid (by rw [HN1.out]; simp)
          go_wp2_with fail
          go_roundw
          case rel => exact ⟨j + 1, A2, c2, by omega, by go_num, by rw [← HLEN.out], HOK1.out, by rw [← HLEN.out]; exact ho7, hB7, hy7⟩
          case measure => simp [intOf]; omega
      · have HE := Lib.hid (HTF.out i (by trivial) hi)
        have HE2 : Hid (timesF (timeF sy st rs N) (nums ts) = ([], 5)) := Lib.hid (by have := HSTOP.out (by rw [HE.out]; decide); rw [this, HE.out])
        clear HTC HTF HTE HSTOP HNEXT HOKN HSF hi hrc
        go_wp2_with fail
        exact bodyPost_ret (v := .tuple #[.slice none 0 0, .int .i64 5]) (by simp [results, Try.results125, go_sem]) rfl (newI2_nil (HF.out.trans HE2.out) y6)
    · have HE := Lib.hid (times_end (f := timeF sy st rs N) (ts := ts) (k := j) (by rw [HM.out]; omega) HOK.out)
      go_wp2_with fail
      exact bodyPost_ret (v := .tuple #[.slice D (timesTo (timeF sy st rs N) (nums ts) j).length cd, .int .i64 0]) (by simp [results, Try.results125, go_sem]) rfl (newI2_of (HF.out.trans HE.out) ho hy)
end Go.Proofs.Ythipbeggaeogcaa
