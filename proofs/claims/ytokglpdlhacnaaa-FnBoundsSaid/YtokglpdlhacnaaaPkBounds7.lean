/-
  Contracts of impl.TimeTable and spec.TimeTable: both return what timeTableF says.
-/
import Derived.Test.YtokglpdlhacnaaaPkBounds5
import Derived.Test.YtokglpdlhacnaaaPkBounds6
namespace Go.Proofs.Ytokglpdlhacnaaa
open Go.RowKit

/-- The number of steps from a word, -1 if the machine does not halt, and a code. -/
def timeF (sy st : Int) (rs : List R3) (N : Nat) (xs : List Int) : Int × Int :=
  if (startF sy st rs xs).2 = 0 then
    match runN sy rs N (startF sy st rs xs).1 with
    | some i => (if haltC sy rs (itC sy rs (startF sy st rs xs).1 i) then (i : Int) else -1, 0)
    | none => (0, 5)
  else (0, (startF sy st rs xs).2)
theorem timeF_code {sy st : Int} {rs : List R3} {N : Nat} {xs : List Int} (h : ¬ (startF sy st rs xs).2 = 0) : timeF sy st rs N xs = (0, (startF sy st rs xs).2) := by unfold timeF; rw [if_neg h]
theorem timeF_full {sy st : Int} {rs : List R3} {N i : Nat} {xs : List Int} (h : (startF sy st rs xs).2 = 0) (h1 : Full sy rs (startF sy st rs xs).1 N i) : timeF sy st rs N xs = (0, 5) := by unfold timeF; rw [if_pos h, runN_full h1]
theorem timeF_ended {sy st : Int} {rs : List R3} {N i : Nat} {xs : List Int} (h : (startF sy st rs xs).2 = 0) (h1 : Ended sy rs (startF sy st rs xs).1 N i) : timeF sy st rs N xs = (if haltC sy rs (itC sy rs (startF sy st rs xs).1 i) then (i : Int) else -1, 0) := by unfold timeF; rw [if_pos h, runN_ended h1]
/-- A function of each word, up to the first word with a code. -/
def timesF (f : List Int → Int × Int) : List (List Int) → List Int × Int
  | [] => ([], 0)
  | x :: r => if (f x).2 = 0 then (if (timesF f r).2 = 0 then ((f x).1 :: (timesF f r).1, 0) else ([], (timesF f r).2)) else ([], (f x).2)
theorem timesF_ok {f : List Int → Int × Int} {xss : List (List Int)} (h : ∀ x ∈ xss, (f x).2 = 0) : timesF f xss = (xss.map (fun x => (f x).1), 0) := by
  induction xss with
  | nil => rfl
  | cons x r ih =>
    have h1 := ih (fun y hy => h y (List.mem_cons_of_mem _ hy))
    rw [timesF, if_pos (h x (List.mem_cons_self)), h1]
    simp
theorem timesF_bad {f : List Int → Int × Int} {a b : List (List Int)} {x : List Int} (h : ∀ y ∈ a, (f y).2 = 0) (hx : ¬ (f x).2 = 0) : timesF f (a ++ x :: b) = ([], (f x).2) := by
  induction a with
  | nil => rw [List.nil_append, timesF, if_neg hx]
  | cons y r ih =>
    have h1 := ih (fun z hz => h z (List.mem_cons_of_mem _ hz))
    rw [List.cons_append, timesF, if_pos (h y (List.mem_cons_self)), h1, if_neg hx]
/-- What TimeTable returns. -/
def timeTableF (sy st : Int) (rs : List R3) (xss : List (List Int)) (b : Int) : List Int × Int :=
  if machB sy st rs then (if inB b 1 20000 && decide (xss.length ≤ 256) then timesF (timeF sy st rs b.toNat) xss else ([], 2)) else ([], 1)
theorem timesF_len (f : List Int → Int × Int) (xss : List (List Int)) : (timesF f xss).1.length ≤ xss.length := by
  induction xss with
  | nil => simp [timesF]
  | cons x r ih =>
    rw [timesF]
    split
    · split
      · simpa using ih
      · simp
    · simp
theorem timeTableF_len (sy st : Int) (rs : List R3) (xss : List (List Int)) (b : Int) : (timeTableF sy st rs xss b).1.length ≤ 1048576 := by
  unfold timeTableF
  split
  · split
    · rename_i h
      simp only [Bool.and_eq_true, decide_eq_true_eq] at h
      have := timesF_len (timeF sy st rs b.toNat) xss
      omega
    · simp
  · simp
/-- The times of the first k words. -/
def timesTo (f : List Int → Int × Int) (xss : List (List Int)) (k : Nat) : List Int := (xss.take k).map (fun x => (f x).1)
def okTo (f : List Int → Int × Int) (xss : List (List Int)) (k : Nat) : Prop := ∀ x ∈ xss.take k, (f x).2 = 0
theorem timesTo_next {f : List Int → Int × Int} {ts : List Sl} {t : Sl} {k : Nat} (hT : ts[k]? = some t) : timesTo f (nums ts) (k + 1) = timesTo f (nums ts) k ++ [(f t.xs).1] := by
  obtain ⟨hk, rfl⟩ := List.getElem?_eq_some_iff.1 hT
  unfold timesTo
  rw [List.take_succ_eq_append_getElem (by simpa [nums] using hk), List.map_append]
  simp [nums]
theorem okTo_next {f : List Int → Int × Int} {ts : List Sl} {t : Sl} {k : Nat} (hT : ts[k]? = some t) (h : okTo f (nums ts) k) (h1 : (f t.xs).2 = 0) : okTo f (nums ts) (k + 1) := by
  obtain ⟨hk, rfl⟩ := List.getElem?_eq_some_iff.1 hT
  unfold okTo at h ⊢
  rw [List.take_succ_eq_append_getElem (by simpa [nums] using hk)]
  intro x hx
  rcases List.mem_append.1 hx with hx | hx
  · exact h x hx
  · simp [nums] at hx; subst hx; exact h1
theorem times_stop {f : List Int → Int × Int} {ts : List Sl} {t : Sl} {k : Nat} (hT : ts[k]? = some t) (h : okTo f (nums ts) k) (h1 : ¬ (f t.xs).2 = 0) : timesF f (nums ts) = ([], (f t.xs).2) := by
  obtain ⟨hk, rfl⟩ := List.getElem?_eq_some_iff.1 hT
  have hk2 : k < (nums ts).length := by simpa [nums] using hk
  have e : nums ts = (nums ts).take k ++ (nums ts)[k] :: (nums ts).drop (k + 1) := by
    rw [← List.drop_eq_getElem_cons hk2, List.take_append_drop]
  have e2 : (nums ts)[k] = ts[k].xs := by simp [nums]
  rw [e, e2]
  exact timesF_bad h h1
theorem times_end {f : List Int → Int × Int} {ts : List Sl} {k : Nat} (hk : (nums ts).length ≤ k) (h : okTo f (nums ts) k) : timesF f (nums ts) = (timesTo f (nums ts) k, 0) := by
  unfold okTo at h
  unfold timesTo
  rw [List.take_of_length_le hk] at h ⊢
  exact timesF_ok h
theorem timesTo_len (f : List Int → Int × Int) (xss : List (List Int)) (k : Nat) : (timesTo f xss k).length ≤ k := by unfold timesTo; simp; omega

theorem Blk.ne_own1 {w : World} {g : Nat} {cs : Array Value} {lo s n' c' : Nat} {X : Option Addr} {xs : List Value} (h : Blk w g 26 cs) (h' : Own w lo 2 s X n' c' xs) : blk X ≠ some g := by
  intro hb
  rcases h'.2 with ⟨rfl, _⟩ | ⟨b, off, cur, rfl, _, hg, _⟩
  · simp [blk] at hb
  · simp [blk] at hb; subst hb
    unfold Blk at h
    rw [hg] at h
    simp at h
theorem newI2_nil {w wf : World} {k : Int} {r : List Int × Int} (hr : r = ([], k)) (hz : Below w.heap.size w wf) : NewI2 w r (.returned (.tuple #[.slice none 0 0, .int .i64 k])) wf := by
  subst hr
  exact ⟨none, 0, rfl, Own.nil, hz⟩
theorem newI2_of {w wf : World} {k : Int} {r : List Int × Int} {xs : List Int} {A : Option Addr} {c : Nat} (hr : r = (xs, k)) (ho : Own wf w.heap.size 2 1 A xs.length c (ints xs)) (hz : Below w.heap.size w wf) : NewI2 w r (.returned (.tuple #[.slice A xs.length c, .int .i64 k])) wf := by
  subst hr
  exact ⟨A, c, rfl, ho, hz⟩

set_option maxRecDepth 100000 in
set_option maxHeartbeats 8000000 in
theorem timeTableI_any (sy st : Int) (A : Option Addr) (n k : Nat) (rs : List R3) (B : Option Addr) (m c : Nat) (ts : List Sl) (b : Int) (w : World) (hr : S3 w A n rs) (hx : SII w B m ts) (hn : n ≤ 1048576) (hm : m ≤ 1048576) (hns : ∀ t ∈ ts, t.xs.length ≤ 1048576) :
    Calls Try.prog 11 #[.agg #[.int .i64 sy, .int .i64 st, .slice A n k], .slice B m c, .int .i64 b] w (NewI2 w (timeTableF sy st rs (nums ts) b)) := by
  obtain ⟨W, hW_⟩ : ∃ W, W = w.alloc (.cells #[.int .i64 sy, .int .i64 st, .slice A n k] 26) := ⟨_, rfl⟩
  have b0 : Blk W w.heap.size 26 #[.int .i64 sy, .int .i64 st, .slice A n k] := by rw [hW_]; exact Blk.new w _ _
  have y0 : Below w.heap.size w W := by rw [hW_]; exact (Below.refl _ _).alloc (Nat.le_refl _) _
  have HW := Lib.hid hW_
  clear hW_
  have q0 : W.cell? ⟨w.heap.size, 0, none⟩ = some (.int .i64 sy) := b0.cell 0
  have q1 : W.cell? ⟨w.heap.size, 1, none⟩ = some (.int .i64 st) := b0.cell 1
  have q2 : W.cell? ⟨w.heap.size, 2, none⟩ = some (.slice A n k) := b0.cell 2
  have HM : Hid ((nums ts).length = m) := by show _ = _; have := hx.len; simpa [nums] using this
  have HNS := Lib.hid hns
  clear hns
  go_enter Try.func11, Try.ntmps11
  go_wp2_with fail
  rw [← HW.out]
  refine (validMachine_any _ _ _ _ _ rs _ (hr.below y0) hn).mono ?_
  rintro e W1 ⟨rfl, z1⟩
  have y1 := y0.trans (z1.mono y0.size)
  have c0 := b0.below' z1
  clear q0 q1 q2
  cases a0 : machB sy st rs
  · have HF : Hid (timeTableF sy st rs (nums ts) b = ([], 1)) := Lib.hid (by unfold timeTableF; rw [a0]; rfl)
    clear a0
    go_wp2_with fail
    exact bodyPost_ret (v := .tuple #[.slice none 0 0, .int .i64 1]) (by simp [results, Try.results11, go_sem]) rfl (newI2_nil HF.out y1)
  have A0 := Lib.hid a0
  clear a0
  cases a1 : inB b 1 20000
  · have HF : Hid (timeTableF sy st rs (nums ts) b = ([], 2)) := Lib.hid (by unfold timeTableF; rw [A0.out, a1]; rfl)
    have A1 := Lib.hid a1
    clear a1
    go_wp2_with (go_at_call 41; refine (budgetOk_is A1.out _).mono ?_; rintro e w' ⟨rfl, rfl⟩)
    exact bodyPost_ret (v := .tuple #[.slice none 0 0, .int .i64 2]) (by simp [results, Try.results11, go_sem]) rfl (newI2_nil HF.out y1)
  have A1 := Lib.hid a1
  have hb := (inB_iff _ _ _).1 a1
  clear a1
  by_cases h3 : m ≤ 256
  rotate_left
  · have HF : Hid (timeTableF sy st rs (nums ts) b = ([], 2)) := Lib.hid (by unfold timeTableF; rw [A0.out, A1.out, HM.out]; simp [h3])
    have i1 : decide ((256 : Int) < (m : Int)) = true := by simp; omega
    go_wp2_with (go_at_call 41; refine (budgetOk_is A1.out _).mono ?_; rintro e w' ⟨rfl, rfl⟩)
    exact bodyPost_ret (v := .tuple #[.slice none 0 0, .int .i64 2]) (by simp [results, Try.results11, go_sem]) rfl (newI2_nil HF.out y1)
  have i1 : decide ((256 : Int) < (m : Int)) = false := by simp; omega
  obtain ⟨N, rfl⟩ : ∃ N : Nat, b = (N : Int) := ⟨b.toNat, by omega⟩
  have HF : Hid (timeTableF sy st rs (nums ts) (N : Int) = timesF (timeF sy st rs N) (nums ts)) := Lib.hid (by unfold timeTableF; rw [A0.out, A1.out, HM.out, Int.toNat_natCast]; simp [h3])
  have z2 : Below W1.heap.size W1 (W1.alloc (.cells #[] 2)) := (Below.refl _ _).alloc (Nat.le_refl _) _
  have y2 : Below w.heap.size w (W1.alloc (.cells #[] 2)) := y1.trans (z2.mono y1.size)
  have o0 : Own (W1.alloc (.cells #[] 2)) w.heap.size 2 1 (some ⟨W1.heap.size, 0, none⟩) 0 0 (ints (timesTo (timeF sy st rs N) (nums ts) 0)) := (Own.lit0 W1 _ 1).mono y1.size
  have c2 := c0.below' z2
  go_wp2_with (go_at_call 41; refine (budgetOk_is A1.out _).mono ?_; rintro e w' ⟨rfl, rfl⟩)
  clear i1
  generalize W1.alloc (.cells #[] 2) = W2 at *
  go_loopw [8, 31] (fun v i wr => ∃ (j : Nat) (D : Option Addr) (cd : Nat), j ≤ m ∧ i = .int .i64 (j : Int) ∧ v = .slice D (timesTo (timeF sy st rs N) (nums ts) j).length cd ∧ okTo (timeF sy st rs N) (nums ts) j ∧ Own wr w.heap.size 2 1 D (timesTo (timeF sy st rs N) (nums ts) j).length cd (ints (timesTo (timeF sy st rs N) (nums ts) j)) ∧ Blk wr w.heap.size 26 #[.int .i64 sy, .int .i64 st, .slice A n k] ∧ Below w.heap.size w wr) (fun _ i _ => m - (intOf i).toNat)
  case atStart => exact ⟨0, _, 0, Nat.zero_le _, rfl, rfl, (by intro x hx; simp at hx), o0, c2, y2⟩
  case round =>
    obtain ⟨j, D, cd, hj, rfl, rfl, hok, ho, hB, hy⟩ := hrel
    have HOK := Lib.hid hok
    clear hok o0 c2 y2 c0 b0 z2 y1 z1 y0
    have hfl := timesTo_len (timeF sy st rs N) (nums ts) j
    by_cases hlt : j < m
    · obtain ⟨t, bb, off, HT, htm, rfl, hbl, e0, hrow⟩ := (hx.below hy).pick hlt
      have hnt := HNS.out t htm
      have HSTOP := Lib.hid (times_stop (f := timeF sy st rs N) HT.out HOK.out)
      have HNEXT := Lib.hid (timesTo_next (f := timeF sy st rs N) HT.out)
      have HOKN := Lib.hid (okTo_next (f := timeF sy st rs N) HT.out HOK.out)
      have q0 : wr.cell? ⟨w.heap.size, 0, none⟩ = some (.int .i64 sy) := hB.cell 0
      have q1 : wr.cell? ⟨w.heap.size, 1, none⟩ = some (.int .i64 st) := hB.cell 1
      have q2 : wr.cell? ⟨w.heap.size, 2, none⟩ = some (.slice A n k) := hB.cell 2
      go_wp2_with fail
      refine (startConfigI_any _ _ _ _ _ rs _ _ _ t.xs _ (hr.below hy) hrow hn hnt).mono ?_
      rintro e W3 ⟨L3, a3, R3', d3, rfl, oL3, oR3, hap3, z3⟩
      have HAP3 := Lib.hid hap3
      have HSF : Hid ((startF sy st rs t.xs).2 = 0 → goodC sy st rs (startF sy st rs t.xs).1) := fun h => startF_good h
      have HTC := Lib.hid (fun h => timeF_code (sy := sy) (st := st) (rs := rs) (N := N) (xs := t.xs) h)
      have HTF := Lib.hid (fun i h h1 => timeF_full (i := i) (sy := sy) (st := st) (rs := rs) (N := N) (xs := t.xs) h h1)
      have HTE := Lib.hid (fun i h h1 => timeF_ended (i := i) (sy := sy) (st := st) (rs := rs) (N := N) (xs := t.xs) h h1)
      clear hap3 q0 q1 q2 e0 hrow htm
      generalize startF sy st rs t.xs = sf at *
      obtain ⟨cf, kc⟩ := sf
      dsimp only at oL3 oR3 HSF HTC HTF HTE ⊢
      have y3 := hy.trans (z3.mono hy.size)
      obtain ⟨W4, hW_⟩ : ∃ W_, W_ = W3.alloc (.cells #[.int .i64 cf.q, .slice L3 cf.xs.length a3, .slice R3' cf.ys.length d3] 29) := ⟨_, rfl⟩
      have b4 : Blk W4 W3.heap.size 29 #[.int .i64 cf.q, .slice L3 cf.xs.length a3, .slice R3' cf.ys.length d3] := by rw [hW_]; exact Blk.new W3 _ _
      have z4 : Below W3.heap.size W3 W4 := by rw [hW_]; exact (Below.refl _ _).alloc (Nat.le_refl _) _
      have HW4 := Lib.hid hW_
      clear hW_
      have y4 := y3.trans (z4.mono y3.size)
      have z34 := z3.trans (z4.mono z3.size)
      have hB4 := hB.below' z34
      have ho4 := ho.below z34
      have q0 : W4.cell? ⟨w.heap.size, 0, none⟩ = some (.int .i64 sy) := hB4.cell 0
      have q1 : W4.cell? ⟨w.heap.size, 1, none⟩ = some (.int .i64 st) := hB4.cell 1
      have q2 : W4.cell? ⟨w.heap.size, 2, none⟩ = some (.slice A n k) := hB4.cell 2
      have u0 : W4.cell? ⟨W3.heap.size, 0, none⟩ = some (.int .i64 cf.q) := b4.cell 0
      have u1 : W4.cell? ⟨W3.heap.size, 1, none⟩ = some (.slice L3 cf.xs.length a3) := b4.cell 1
      have u2 : W4.cell? ⟨W3.heap.size, 2, none⟩ = some (.slice R3' cf.ys.length d3) := b4.cell 2
      go_upto_region 10 with fail
      rw [← HW4.out]
      clear HW4
      by_cases hk0 : kc = 0
      rotate_left
      · have HE := Lib.hid (HTC.out hk0)
        have HE2 : Hid (timesF (timeF sy st rs N) (nums ts) = ([], kc)) := Lib.hid (by have := HSTOP.out (by rw [HE.out]; exact hk0); rw [this, HE.out])
        clear HTC HTF HTE HSTOP HNEXT HOKN HSF
        go_wp2_with fail
        exact bodyPost_ret (v := .tuple #[.slice none 0 0, .int .i64 kc]) (by simp [results, Try.results11, go_sem]) rfl (newI2_nil (HF.out.trans HE2.out) y4)
      subst hk0
      have hgc := HSF.out rfl
      have hcl := conf_len hgc
      go_wp2_with fail
      refine (runnerOf_any _ _ _ _ _ _ _ _ _ cf.xs _ _ _ cf.ys _ (oL3.below z4).asI (oR3.below z4).asI (by omega) (by omega)).mono ?_
      rintro e W5 ⟨g, L, cl, R, cr, rfl, hg, hrun, ol, or_, hap, z5⟩
      have hrc : RunC (fun _ => False) W5 W4.heap.size g sy st A n k cf := NewRunner.runC hrun ol or_ hap
      clear hap hrun ol or_ q0 q1 q2 u0 u1 u2
      go_wp2_with fail
      refine (run_any W4 W5 g sy st A n k rs cf N hrc (hr.below y4) z5 hg hgc hn (by omega)).mono ?_
      rintro e W6 ⟨hcase, z6⟩
      have y6 := y4.trans (z6.mono y4.size)
      have hB6 := hB4.below' z6
      have ho6 := ho4.below z6
      rcases hcase with ⟨i, hi, rfl, _⟩ | ⟨⟨i, hi⟩, rfl⟩
      · have HE := Lib.hid (HTE.out i (by trivial) hi)
        have hi2 := hi.1
        clear HTC HTF HTE HSTOP HSF hi hrc
        have HOK1 := Lib.hid (HOKN.out (by rw [HE.out]))
        cases hh : haltC sy rs (itC sy rs cf i) with
        | true =>
          have HN1 : Hid (timesTo (timeF sy st rs N) (nums ts) (j + 1) = timesTo (timeF sy st rs N) (nums ts) j ++ [(i : Int)]) := Lib.hid (by rw [HNEXT.out, HE.out, hh]; rfl)
          clear HE HNEXT HOKN hh
          go_wp2_with (at_builtin; refine wpList_append_Own rfl (.tmp 58) (.tmp 60) rfl elI (lo := w.heap.size) rfl (ho6.alloc _) rfl (Rd.new1 W6 (.int .i64 (i : Int)) _) (by simp [Value.oneCell']) (by omega) (by simp only [maxLen]; omega) (by have := y6.size; simp; omega) ?_; intro A2 c2 w2 ho7 hg7 hw7)
          have hy7 : Below w.heap.size w w2 := (ho6.alloc _).below_of (y6.alloc y6.size _) hg7 (by have := y6.size; simp; omega)
          have hB7 : Blk w2 w.heap.size 26 #[.int .i64 sy, .int .i64 st, .slice A n k] := (hg7.block w.heap.size (by have := hB6.lt; simp; omega) (fun e => (hB6.alloc (.cells #[.int .i64 (i : Int)] 2)).ne_own1 (ho6.alloc _) e.symm)).trans (hB6.alloc _)
          rw [ints_snoc, ← HN1.out] at ho7
          have HLEN : Hid ((timesTo (timeF sy st rs N) (nums ts) j).length + 1 = (timesTo (timeF sy st rs N) (nums ts) (j + 1)).length) := Lib.hid (by rw [HN1.out]; simp)
          go_wp2_with fail
          go_roundw
          case rel => exact ⟨j + 1, A2, c2, by omega, by go_num, by rw [← HLEN.out], HOK1.out, by rw [← HLEN.out]; exact ho7, hB7, hy7⟩
          case measure => simp [intOf]; omega
        | false =>
          have HN1 : Hid (timesTo (timeF sy st rs N) (nums ts) (j + 1) = timesTo (timeF sy st rs N) (nums ts) j ++ [-1]) := Lib.hid (by rw [HNEXT.out, HE.out, hh]; rfl)
          clear HE HNEXT HOKN hh
          go_wp2_with (at_builtin; refine wpList_append_Own rfl (.tmp 58) (.tmp 60) rfl elI (lo := w.heap.size) rfl (ho6.alloc _) rfl (Rd.new1 W6 (.int .i64 (-1)) _) (by simp [Value.oneCell']) (by omega) (by simp only [maxLen]; omega) (by have := y6.size; simp; omega) ?_; intro A2 c2 w2 ho7 hg7 hw7)
          have hy7 : Below w.heap.size w w2 := (ho6.alloc _).below_of (y6.alloc y6.size _) hg7 (by have := y6.size; simp; omega)
          have hB7 : Blk w2 w.heap.size 26 #[.int .i64 sy, .int .i64 st, .slice A n k] := (hg7.block w.heap.size (by have := hB6.lt; simp; omega) (fun e => (hB6.alloc (.cells #[.int .i64 (-1)] 2)).ne_own1 (ho6.alloc _) e.symm)).trans (hB6.alloc _)
          rw [ints_snoc, ← HN1.out] at ho7
          have HLEN : Hid ((timesTo (timeF sy st rs N) (nums ts) j).length + 1 = (timesTo (timeF sy st rs N) (nums ts) (j + 1)).length) := Lib.hid (by rw [HN1.out]; simp)
          go_wp2_with fail
          go_roundw
          case rel => exact ⟨j + 1, A2, c2, by omega, by go_num, by rw [← HLEN.out], HOK1.out, by rw [← HLEN.out]; exact ho7, hB7, hy7⟩
          case measure => simp [intOf]; omega
      · have HE := Lib.hid (HTF.out i (by trivial) hi)
        have HE2 : Hid (timesF (timeF sy st rs N) (nums ts) = ([], 5)) := Lib.hid (by have := HSTOP.out (by rw [HE.out]; decide); rw [this, HE.out])
        clear HTC HTF HTE HSTOP HNEXT HOKN HSF hi hrc
        go_wp2_with fail
        exact bodyPost_ret (v := .tuple #[.slice none 0 0, .int .i64 5]) (by simp [results, Try.results11, go_sem]) rfl (newI2_nil (HF.out.trans HE2.out) y6)
    · have HE := Lib.hid (times_end (f := timeF sy st rs N) (ts := ts) (k := j) (by rw [HM.out]; omega) HOK.out)
      go_wp2_with fail
      exact bodyPost_ret (v := .tuple #[.slice D (timesTo (timeF sy st rs N) (nums ts) j).length cd, .int .i64 0]) (by simp [results, Try.results11, go_sem]) rfl (newI2_of (HF.out.trans HE.out) ho hy)
end Go.Proofs.Ytokglpdlhacnaaa

/-
  Contract of spec.TimeTable: it returns what timeTableF says.
-/
namespace Go.Proofs.Ytokglpdlhacnaaa
open Go.RowKit

theorem runMachF_good {sy st : Int} {rs : List R3} {c : Conf} {N : Nat} (h : goodC sy st rs c) (hb : inB (N : Int) 1 20000 = true) : runMachF sy st rs c.q c.xs c.ys (N : Int) = match runN sy rs N c with
      | some i => (itC sy rs c i, (i : Int), haltC sy rs (itC sy rs c i), 0)
      | none => (⟨0, [], []⟩, 0, false, 5) := by
  unfold runMachF
  rw [show validConfB sy st rs c.q c.xs c.ys = true from h, hb, Int.toNat_natCast]
  rfl
/-- What l20Time has of RunMachine. -/
def TimeCut (W : World) (r : Conf × Int × Bool × Int) (s11 s12 s13 : Value) (wx : World) : Prop := s11 = .int .i64 r.2.1 ∧ s12 = .bool r.2.2.1 ∧ s13 = .int .i64 r.2.2.2 ∧ Below W.heap.size W wx
def Two (w : World) (v : Int × Int) (e : Ending) (w' : World) : Prop := e = .returned (.tuple #[.int .i64 v.1, .int .i64 v.2]) ∧ Below w.heap.size w w'
theorem two {w w' : World} {v : Int × Int} {a b : Int} (h : v = (a, b)) (z : Below w.heap.size w w') : Two w v (.returned (.tuple #[.int .i64 a, .int .i64 b])) w' := by subst h; exact ⟨rfl, z⟩

end Go.Proofs.Ytokglpdlhacnaaa

/-
  Plain words for the greatest times of the words of each length.
-/
namespace Go.Proofs.Ytokglpdlhacnaaa
open Go.RowKit

/-- All words of n letters over 0 .. L - 1, in order. -/
def wordsL (L : Nat) : Nat → List (List Int)
  | 0 => [[]]
  | n + 1 => (wordsL L n).flatMap (fun w => (List.range L).map (fun l : Nat => w ++ [(l : Int)]))
def upW (w : List Int) : List Int := w.map (· + 1)
theorem mem_wordsL {L n : Nat} {w : List Int} : w ∈ wordsL L n ↔ w.length = n ∧ ∀ x ∈ w, 0 ≤ x ∧ x < (L : Int) := by
  induction n generalizing w with
  | zero =>
    simp only [wordsL, List.mem_singleton]
    constructor
    · rintro rfl; simp
    · rintro ⟨h, _⟩; exact List.eq_nil_of_length_eq_zero h
  | succ n ih =>
    simp only [wordsL, List.mem_flatMap, List.mem_map, List.mem_range]
    constructor
    · rintro ⟨u, hu, l, hl, rfl⟩
      obtain ⟨h1, h2⟩ := ih.1 hu
      refine ⟨by simp [h1], fun x hx => ?_⟩
      rcases List.mem_append.1 hx with hx | hx
      · exact h2 x hx
      · simp at hx; subst hx; omega
    · rintro ⟨h1, h2⟩
      have hne : w ≠ [] := by rintro rfl; simp at h1
      have hl := h2 (w.getLast hne) (List.getLast_mem hne)
      refine ⟨w.dropLast, ih.2 ⟨by simp [h1], fun x hx => h2 x ((List.dropLast_sublist w).mem hx)⟩, (w.getLast hne).toNat, by omega, ?_⟩
      rw [Int.toNat_of_nonneg hl.1]
      exact List.dropLast_concat_getLast hne
/-- The n lowest digits of a number, each one more. -/
def digs (L : Nat) : Nat → Nat → List Int
  | 0, _ => []
  | n + 1, k => (1 + ((k % L : Nat) : Int)) :: digs L n (k / L)
theorem digs_len (L n k : Nat) : (digs L n k).length = n := by
  induction n generalizing k with
  | zero => rfl
  | succ n ih => simp [digs, ih]
theorem digs_snoc (L n k : Nat) : digs L (n + 1) k = digs L n k ++ [1 + ((k / L ^ n % L : Nat) : Int)] := by
  induction n generalizing k with
  | zero => simp [digs]
  | succ n ih =>
    rw [digs, ih (k / L), digs, List.cons_append, Nat.div_div_eq_div_mul, Nat.pow_succ, Nat.mul_comm L (L ^ n)]
/-- The reference's words of n letters, in its order. -/
def wordsD (L n : Nat) : List (List Int) := (List.range (L ^ n)).map (digs L n)
theorem mem_wordsD {L n : Nat} (hL : 0 < L) {w : List Int} : w ∈ wordsD L n ↔ w.length = n ∧ ∀ x ∈ w, 1 ≤ x ∧ x ≤ (L : Int) := by
  unfold wordsD
  simp only [List.mem_map, List.mem_range]
  constructor
  · rintro ⟨k, _, rfl⟩
    refine ⟨digs_len _ _ _, ?_⟩
    have key : ∀ n k, ∀ x ∈ digs L n k, 1 ≤ x ∧ x ≤ (L : Int) := by
      intro n
      induction n with
      | zero => intro k x hx; simp [digs] at hx
      | succ n ih =>
        intro k x hx
        rcases List.mem_cons.1 hx with rfl | hx
        · have := Nat.mod_lt k hL; omega
        · exact ih _ x hx
    exact key n k
  · rintro ⟨h1, h2⟩
    have key : ∀ n (w : List Int), w.length = n → (∀ x ∈ w, 1 ≤ x ∧ x ≤ (L : Int)) → ∃ k, k < L ^ n ∧ digs L n k = w := by
      intro n
      induction n with
      | zero => intro w h _; exact ⟨0, by simp, by rw [List.eq_nil_of_length_eq_zero h]; rfl⟩
      | succ n ih =>
        intro w h hw
        cases w with
        | nil => simp at h
        | cons x r =>
          obtain ⟨k, hk, hr⟩ := ih r (by simpa using h) (fun y hy => hw y (List.mem_cons_of_mem _ hy))
          obtain ⟨hx1, hx2⟩ := hw x List.mem_cons_self
          obtain ⟨d, rfl⟩ : ∃ d : Nat, x = 1 + (d : Int) := ⟨(x - 1).toNat, by omega⟩
          have hd : d < L := by omega
          refine ⟨d + L * k, ?_, ?_⟩
          · have e1 : L ^ (n + 1) = L * L ^ n := by rw [Nat.pow_succ, Nat.mul_comm]
            have h2 : L * (k + 1) ≤ L * L ^ n := Nat.mul_le_mul_left L hk
            rw [Nat.mul_succ] at h2
            omega
          · rw [digs, Nat.add_mul_mod_self_left, Nat.mod_eq_of_lt hd, Nat.add_mul_div_left _ _ hL, Nat.div_eq_of_lt hd, Nat.zero_add, hr]
    exact key n w h1 h2
theorem mem_up {L n : Nat} {w : List Int} : w ∈ (wordsL L n).map upW ↔ w.length = n ∧ ∀ x ∈ w, 1 ≤ x ∧ x ≤ (L : Int) := by
  rw [List.mem_map]
  constructor
  · rintro ⟨u, hu, rfl⟩
    obtain ⟨h1, h2⟩ := mem_wordsL.1 hu
    refine ⟨by simp [upW, h1], fun x hx => ?_⟩
    obtain ⟨y, hy, rfl⟩ := List.mem_map.1 hx
    have := h2 y hy
    omega
  · rintro ⟨h1, h2⟩
    refine ⟨w.map (· - 1), mem_wordsL.2 ⟨by simp [h1], fun x hx => ?_⟩, ?_⟩
    · obtain ⟨y, hy, rfl⟩ := List.mem_map.1 hx
      have := h2 y hy
      omega
    · unfold upW
      rw [List.map_map]
      conv => rhs; rw [← List.map_id w]
      apply List.map_congr_left
      intro x _
      simp
theorem words_same {L n : Nat} (hL : 0 < L) (w : List Int) : w ∈ (wordsL L n).map upW ↔ w ∈ wordsD L n := by rw [mem_up, mem_wordsD hL]
theorem wordsL_len (L n : Nat) : (wordsL L n).length = L ^ n := by
  induction n with
  | zero => rfl
  | succ n ih =>
    have key : ∀ l : List (List Int), (l.flatMap (fun w => (List.range L).map (fun l : Nat => w ++ [(l : Int)]))).length = l.length * L := by
      intro l
      induction l with
      | nil => simp
      | cons x r ih => rw [List.flatMap_cons, List.length_append, ih, List.length_cons, Nat.succ_mul]; simp; omega
    rw [wordsL, key, ih, Nat.pow_succ]
/-! ### the worst -/
def maxT (l : List Int) : Int := l.foldl max 0
theorem foldl_max_le (l : List Int) : ∀ a b : Int, a ≤ b → (∀ x ∈ l, x ≤ b) → l.foldl max a ≤ b := by
  induction l with
  | nil => intro a b h _; exact h
  | cons x r ih =>
    intro a b h hx
    refine ih _ b ?_ (fun y hy => hx y (List.mem_cons_of_mem _ hy))
    have := hx x List.mem_cons_self
    omega
theorem le_foldl_max (l : List Int) : ∀ a : Int, a ≤ l.foldl max a ∧ ∀ x ∈ l, x ≤ l.foldl max a := by
  induction l with
  | nil => intro a; exact ⟨Int.le_refl _, by simp⟩
  | cons x r ih =>
    intro a
    obtain ⟨h1, h2⟩ := ih (max a x)
    refine ⟨Int.le_trans (by omega) h1, fun y hy => ?_⟩
    rcases List.mem_cons.1 hy with rfl | hy
    · exact Int.le_trans (by omega) h1
    · exact h2 y hy
theorem maxT_nonneg (l : List Int) : 0 ≤ maxT l := (le_foldl_max l 0).1
theorem maxT_congr {l l' : List Int} (h : ∀ x, x ∈ l ↔ x ∈ l') : maxT l = maxT l' :=
  Int.le_antisymm (foldl_max_le l 0 _ (maxT_nonneg l') (fun x hx => (le_foldl_max l' 0).2 x ((h x).1 hx))) (foldl_max_le l' 0 _ (maxT_nonneg l) (fun x hx => (le_foldl_max l 0).2 x ((h x).2 hx)))
theorem maxT_snoc (l : List Int) (x : Int) : maxT (l ++ [x]) = max (maxT l) x := by simp [maxT]
/-- The greatest of numbers, or -1 if one of them is negative. -/
def worstL (l : List Int) : Int := if l.any (fun x => decide (x < 0)) then -1 else maxT l
theorem worstL_congr {l l' : List Int} (h : ∀ x, x ∈ l ↔ x ∈ l') : worstL l = worstL l' := by
  have e : l.any (fun x => decide (x < 0)) = l'.any (fun x => decide (x < 0)) := by
    rw [Bool.eq_iff_iff, List.any_eq_true, List.any_eq_true]
    constructor
    · rintro ⟨x, hx, hp⟩; exact ⟨x, (h x).1 hx, hp⟩
    · rintro ⟨x, hx, hp⟩; exact ⟨x, (h x).2 hx, hp⟩
  unfold worstL
  rw [e, maxT_congr h]
theorem worstL_neg (l : List Int) : (worstL l < 0) ↔ l.any (fun x => decide (x < 0)) = true := by
  unfold worstL
  have h0 := maxT_nonneg l
  cases hh : l.any (fun x => decide (x < 0)) with
  | true => simp
  | false => simp; omega
theorem worstL_bad {l : List Int} {x : Int} (h : x < 0 ∨ worstL l < 0) : worstL (l ++ [x]) = -1 := by
  unfold worstL
  rw [if_pos]
  rw [List.any_append]
  rcases h with h | h
  · simp [h]
  · rw [(worstL_neg l).1 h]; rfl
theorem worstL_more {l : List Int} {x : Int} (h : ¬ x < 0) (h2 : ¬ worstL l < 0) : worstL (l ++ [x]) = if x < worstL l then worstL l else x := by
  have h3 : l.any (fun x => decide (x < 0)) = false := by
    cases hh : l.any (fun x => decide (x < 0)) with
    | false => rfl
    | true => exact absurd ((worstL_neg l).2 hh) h2
  have e1 : worstL l = maxT l := by unfold worstL; rw [h3]; rfl
  have e2 : worstL (l ++ [x]) = maxT (l ++ [x]) := by unfold worstL; rw [List.any_append, h3]; simp [h]
  rw [e2, e1, maxT_snoc]
  split <;> omega
/-- What slices.Max says. -/
def maxL : List Int → Int
  | [] => 0
  | x :: r => r.foldl max x
theorem maxL_worst {l : List Int} (hne : l ≠ []) (h : l.any (fun x => decide (x < 0)) = false) : maxL l = worstL l := by
  have e : worstL l = maxT l := by unfold worstL; rw [h]; rfl
  rw [e]
  cases l with
  | nil => exact absurd rfl hne
  | cons x r =>
    simp only [List.any_cons, Bool.or_eq_false_iff, decide_eq_false_iff_not] at h
    show r.foldl max x = r.foldl max (max 0 x)
    congr 1
    omega
def okL (f : List Int → Int × Int) (ws : List (List Int)) : Bool := ws.all (fun w => decide ((f w).2 = 0))
theorem okL_congr {f : List Int → Int × Int} {l l' : List (List Int)} (h : ∀ x, x ∈ l ↔ x ∈ l') : okL f l = okL f l' := by
  unfold okL
  rw [Bool.eq_iff_iff, List.all_eq_true, List.all_eq_true]
  exact ⟨fun hl x hx => hl x ((h x).2 hx), fun hl x hx => hl x ((h x).1 hx)⟩
def timesV (f : List Int → Int × Int) (ws : List (List Int)) : List Int := ws.map (fun w => (f w).1)
theorem timesV_congr {f : List Int → Int × Int} {l l' : List (List Int)} (h : ∀ x, x ∈ l ↔ x ∈ l') : ∀ x, x ∈ timesV f l ↔ x ∈ timesV f l' := by
  intro x
  unfold timesV
  rw [List.mem_map, List.mem_map]
  exact ⟨fun ⟨a, ha, e⟩ => ⟨a, (h a).1 ha, e⟩, fun ⟨a, ha, e⟩ => ⟨a, (h a).2 ha, e⟩⟩
/-- The worst times of the words of less than n letters. -/
def worstTo (f : List Int → Int × Int) (L n : Nat) : List Int := (List.range n).map (fun k => worstL (timesV f (wordsD L k)))
theorem worstTo_next (f : List Int → Int × Int) (L n : Nat) : worstTo f L (n + 1) = worstTo f L n ++ [worstL (timesV f (wordsD L n))] := by simp [worstTo, List.range_succ]
theorem worstTo_len (f : List Int → Int × Int) (L n : Nat) : (worstTo f L n).length = n := by simp [worstTo]
def okTo2 (f : List Int → Int × Int) (L n : Nat) : Bool := (List.range n).all (fun k => okL f (wordsD L k))
theorem okTo2_next (f : List Int → Int × Int) (L n : Nat) : okTo2 f L (n + 1) = (okTo2 f L n && okL f (wordsD L n)) := by simp [okTo2, List.range_succ, List.all_append]
theorem okTo2_bad {f : List Int → Int × Int} {L n k : Nat} (hk : k < n) (h : okL f (wordsD L k) = false) : okTo2 f L n = false := by
  unfold okTo2
  rw [List.all_eq_false]
  exact ⟨k, List.mem_range.2 hk, by simp [h]⟩
/-- What WorstTimes returns. -/
def worstF (sy st : Int) (rs : List R3) (l m b : Int) : List Int × Int :=
  if machB sy st rs then
    if inB b 1 20000 && inB l 1 (sy - 1) && inB m 0 8 && decide (l.toNat ^ m.toNat ≤ 256) then
      if okTo2 (timeF sy st rs b.toNat) l.toNat (m.toNat + 1) then (worstTo (timeF sy st rs b.toNat) l.toNat (m.toNat + 1), 0) else ([], 5)
    else ([], 2)
  else ([], 1)
theorem worstF_len (sy st : Int) (rs : List R3) (l m b : Int) : (worstF sy st rs l m b).1.length ≤ 1048576 := by
  unfold worstF
  split
  · split
    · rename_i h
      simp only [Bool.and_eq_true, inB_iff] at h
      split
      · rw [worstTo_len]; omega
      · simp
    · simp
  · simp
/-- A word of few letters starts. -/
theorem startF_word {sy st : Int} {rs : List R3} {w : List Int} {L n : Nat} (hm : machB sy st rs = true) (hL : (L : Int) ≤ sy - 1) (hw : w.length = n) (hn : n ≤ 8) (h : ∀ x ∈ w, 1 ≤ x ∧ x ≤ (L : Int)) : (startF sy st rs w).2 = 0 := by
  obtain ⟨k1, k2, k3, k4, _, _⟩ := machB_parts hm
  unfold startF
  have h1 : isWordB w = true := by
    unfold isWordB allIn
    simp only [Bool.and_eq_true, decide_eq_true_eq, List.all_eq_true, inB_iff]
    exact ⟨by omega, fun x hx => by have := h x hx; omega⟩
  have h2 : allIn w 0 (sy - 1) = true := by
    unfold allIn
    simp only [List.all_eq_true, inB_iff]
    exact fun x hx => by have := h x hx; omega
  obtain ⟨k, hk, e⟩ := trim_take w
  rw [hm, h1, h2, if_pos (by rfl), if_pos rfl, if_pos (by rw [e, List.length_take]; omega)]
theorem timeF_codes {sy st : Int} {rs : List R3} {N : Nat} {w : List Int} (h : (startF sy st rs w).2 = 0) (h2 : ¬ (timeF sy st rs N w).2 = 0) : (timeF sy st rs N w).2 = 5 := by
  unfold timeF at h2 ⊢
  rw [if_pos h] at h2 ⊢
  cases hr : runN sy rs N (startF sy st rs w).1 with
  | none => rfl
  | some i => rw [hr] at h2; exact absurd rfl h2
theorem timeF_ge {sy st : Int} {rs : List R3} {N : Nat} {w : List Int} : -1 ≤ (timeF sy st rs N w).1 := by
  unfold timeF
  split
  · split
    · dsimp only; split <;> omega
    · simp
  · simp
theorem timesF_five {f : List Int → Int × Int} {ws : List (List Int)} (hc : ∀ x ∈ ws, (f x).2 = 0 ∨ (f x).2 = 5) (h : okL f ws = false) : timesF f ws = ([], 5) := by
  induction ws with
  | nil => simp [okL] at h
  | cons x r ih =>
    by_cases hx : (f x).2 = 0
    · have h2 : okL f r = false := by
        unfold okL at h ⊢
        rw [List.all_cons, hx] at h
        simpa using h
      rw [timesF, if_pos hx, ih (fun y hy => hc y (List.mem_cons_of_mem _ hy)) h2]
      simp
    · rw [timesF, if_neg hx]
      rcases hc x List.mem_cons_self with h3 | h3
      · exact absurd h3 hx
      · rw [h3]
theorem timesF_all {f : List Int → Int × Int} {ws : List (List Int)} (h : okL f ws = true) : timesF f ws = (timesV f ws, 0) :=
  timesF_ok (fun x hx => by unfold okL at h; simpa using List.all_eq_true.1 h x hx)
theorem mem_neg {l : List Int} (h : ∀ x ∈ l, -1 ≤ x) : decide ((-1 : Int) ∈ l) = l.any (fun x => decide (x < 0)) := by
  rw [Bool.eq_iff_iff, decide_eq_true_eq, List.any_eq_true]
  constructor
  · intro hm; exact ⟨-1, hm, by simp⟩
  · rintro ⟨x, hx, hp⟩
    have h1 := h x hx
    simp at hp
    have : x = -1 := by omega
    rw [← this]; exact hx
/-- The first t words raised. -/
def upTo (ws : List (List Int)) (t : Nat) : List (List Int) := (ws.take t).map upW ++ ws.drop t
def upPart (x : List Int) (k : Nat) : List Int := upW (x.take k) ++ x.drop k
theorem upTo_zero (ws : List (List Int)) : upTo ws 0 = ws := by simp [upTo]
theorem upTo_end {ws : List (List Int)} {t : Nat} (h : ws.length ≤ t) : upTo ws t = ws.map upW := by unfold upTo; rw [List.take_of_length_le h, List.drop_of_length_le h, List.append_nil]
theorem upTo_len (ws : List (List Int)) (t : Nat) : (upTo ws t).length = ws.length := by simp [upTo]; omega
theorem upTo_at {ws : List (List Int)} {t : Nat} {x : List Int} (h : ws[t]? = some x) : (upTo ws t)[t]? = some x := by
  obtain ⟨hl, rfl⟩ := List.getElem?_eq_some_iff.1 h
  unfold upTo
  rw [List.getElem?_append_right (by simp; omega)]
  simp [Nat.min_eq_left (Nat.le_of_lt hl)]
theorem upTo_next {ws : List (List Int)} {t : Nat} {x : List Int} (h : ws[t]? = some x) : (upTo ws t).set t (upW x) = upTo ws (t + 1) := by
  obtain ⟨hl, rfl⟩ := List.getElem?_eq_some_iff.1 h
  unfold upTo
  rw [List.set_append_right _ _ (by simp; omega), List.take_succ_eq_append_getElem hl, List.drop_eq_getElem_cons hl, List.map_append]
  have e : t - ((ws.take t).map upW).length = 0 := by simp; omega
  rw [e, List.set_cons_zero]
  simp
theorem upPart_zero (x : List Int) : upPart x 0 = x := by simp [upPart, upW]
theorem upPart_end {x : List Int} {k : Nat} (h : x.length ≤ k) : upPart x k = upW x := by unfold upPart; rw [List.take_of_length_le h, List.drop_of_length_le h, List.append_nil]
theorem upPart_len (x : List Int) (k : Nat) : (upPart x k).length = x.length := by simp [upPart, upW]; omega
theorem upPart_at {x : List Int} {k : Nat} {v : Int} (h : x[k]? = some v) : (upPart x k)[k]? = some v := by
  obtain ⟨hl, rfl⟩ := List.getElem?_eq_some_iff.1 h
  unfold upPart upW
  rw [List.getElem?_append_right (by simp; omega)]
  simp [Nat.min_eq_left (Nat.le_of_lt hl)]
theorem upPart_next {x : List Int} {k : Nat} {v : Int} (h : x[k]? = some v) : (upPart x k).set k (v + 1) = upPart x (k + 1) := by
  obtain ⟨hl, rfl⟩ := List.getElem?_eq_some_iff.1 h
  unfold upPart upW
  rw [List.set_append_right _ _ (by simp; omega), List.take_succ_eq_append_getElem hl, List.drop_eq_getElem_cons hl, List.map_append]
  have e : k - ((x.take k).map (· + 1)).length = 0 := by simp; omega
  rw [e, List.set_cons_zero]
  simp
end Go.Proofs.Ytokglpdlhacnaaa

/-
  What the law FnBounds says of the worst times and the least factor. No program is in sight.
-/
namespace Go.Proofs.Ytokglpdlhacnaaa
open Go.RowKit

/-- The least factor of a bound n <= f k + 3, over the first elements; none where there is none. -/
def leastTo (xs : List Int) : Nat → Option Int
  | 0 => some 0
  | k + 1 => (leastTo xs k).bind fun f => if xs.getD k 0 ≤ 3 then some f else if k = 0 then none else some (max f ((xs.getD k 0 - 3 + (k : Int) - 1) / (k : Int)))
theorem leastTo_first {xs : List Int} (h : 3 < xs.getD 0 0) : ∀ n, leastTo xs (n + 1) = none := by
  intro n
  induction n with
  | zero => simp only [leastTo, Option.bind_some]; rw [if_neg (by omega)]; simp
  | succ n ih => rw [leastTo, ih]; rfl
theorem leastTo_next {xs : List Int} {k : Nat} {f : Int} (h : leastTo xs k = some f) (hk : k ≠ 0 ∨ xs.getD k 0 ≤ 3) : leastTo xs (k + 1) = some (if xs.getD k 0 ≤ 3 then f else max f ((xs.getD k 0 - 3 + (k : Int) - 1) / (k : Int))) := by
  rw [leastTo, h, Option.bind_some]
  split
  · rfl
  · rw [if_neg (by omega)]
theorem ceil_facts {n c k : Int} (hk : 0 < k) (hc : c = (n - 3 + k - 1) / k) : n ≤ c * k + 3 ∧ (c - 1) * k + 3 < n := by
  have h1 := Int.mul_ediv_add_emod (n - 3 + k - 1) k
  have h2 := Int.emod_nonneg (n - 3 + k - 1) (show k ≠ 0 by omega)
  have h3 := Int.emod_lt_of_pos (n - 3 + k - 1) hk
  rw [← hc, Int.mul_comm] at h1
  rw [Int.sub_mul]
  omega
theorem leastTo_ok {xs : List Int} (hx : ∀ j, xs.getD j 0 ≤ 40) : ∀ {k : Nat} {f : Int}, leastTo xs k = some f → 0 ≤ f ∧ f ≤ 40 ∧ (∀ j, j < k → xs.getD j 0 ≤ f * (j : Int) + 3) ∧ (f = 0 ∨ ∃ j, 0 < j ∧ j < k ∧ (f - 1) * (j : Int) + 3 < xs.getD j 0) := by
  intro k
  induction k with
  | zero => intro f h; cases h; exact ⟨Int.le_refl 0, by omega, fun j hj => absurd hj (Nat.not_lt_zero j), .inl rfl⟩
  | succ k ih =>
    intro f h
    simp only [leastTo, Option.bind_eq_some_iff] at h
    obtain ⟨g, e, h⟩ := h
    obtain ⟨i0, i1, i2, i3⟩ := ih e
    split at h
    · rename_i h3
      cases h
      refine ⟨i0, i1, fun j hj => ?_, ?_⟩
      · by_cases hjk : j = k
        · subst hjk
          have := Int.mul_nonneg i0 (Int.natCast_nonneg j)
          omega
        · exact i2 j (by omega)
      · rcases i3 with i3 | ⟨j, h1, h2, h4⟩
        · exact .inl i3
        · exact .inr ⟨j, h1, by omega, h4⟩
    · rename_i h3
      split at h
      · cases h
      · rename_i hk0
        obtain ⟨c, hc⟩ : ∃ c, c = (xs.getD k 0 - 3 + (k : Int) - 1) / (k : Int) := ⟨_, rfl⟩
        rw [← hc] at h
        obtain ⟨c1, c2⟩ := ceil_facts (n := xs.getD k 0) (show (0 : Int) < (k : Int) by omega) hc
        have hx1 := hx k
        have c3 : c ≤ 40 := by
          rcases Int.lt_or_le 40 c with h40 | h40
          · have := Int.mul_le_mul_of_nonneg_left (show (1 : Int) ≤ (k : Int) by omega) (show 0 ≤ c - 1 by omega)
            omega
          · exact h40
        cases h
        have hm0 : 0 ≤ max g c := by omega
        refine ⟨hm0, by omega, fun j hj => ?_, ?_⟩
        · by_cases hjk : j = k
          · subst hjk
            have := Int.mul_le_mul_of_nonneg_right (show c ≤ max g c by omega) (Int.natCast_nonneg j)
            omega
          · have h1 := i2 j (by omega)
            have := Int.mul_le_mul_of_nonneg_right (show g ≤ max g c by omega) (Int.natCast_nonneg j)
            omega
        · by_cases hgc : c ≤ g
          · rw [show max g c = g by omega]
            rcases i3 with i3 | ⟨j, h1, h2, h4⟩
            · exact .inl i3
            · exact .inr ⟨j, h1, by omega, h4⟩
          · rw [show max g c = c by omega]
            exact .inr ⟨k, by omega, by omega, c2⟩
theorem leastTo_zero {xs : List Int} {n : Nat} {f : Int} (h : leastTo xs (n + 1) = some f) : xs.getD 0 0 ≤ 3 := by
  rcases Int.lt_or_le 3 (xs.getD 0 0) with h3 | h3
  · rw [leastTo_first h3] at h; cases h
  · exact h3
theorem leastTo_none {xs : List Int} : ∀ {n : Nat}, leastTo xs n = none → 3 < xs.getD 0 0 := by
  intro n
  induction n with
  | zero => intro h; cases h
  | succ k ih =>
    intro h
    simp only [leastTo] at h
    cases e : leastTo xs k with
    | none => exact ih e
    | some g =>
      rw [e, Option.bind_some] at h
      split at h
      · cases h
      · split at h
        · rename_i h1 h2; subst h2; omega
        · cases h
theorem push_len2 (xs : List Int) (x : Int) : (pushI xs x).length ≤ xs.length + 1 := by
  unfold pushI; split
  · omega
  · simp
theorem step_len2 (r : R3) (xs ys : List Int) : (stepC r xs ys).xs.length ≤ xs.length + 2 ∧ (stepC r xs ys).ys.length ≤ ys.length + 2 := by
  constructor
  · show (stepL r xs.reverse).reverse.length ≤ _
    rw [List.length_reverse]
    unfold stepL
    split
    · have := push_len2 xs.reverse r.a
      simp at this; omega
    · simp; omega
  · show (stepR r xs.reverse ys.reverse).reverse.length ≤ _
    rw [List.length_reverse]
    unfold stepR
    split
    · simp; omega
    · have h1 := push_len2 (pushI ys.reverse.dropLast r.a) (lastI xs.reverse)
      have h2 := push_len2 ys.reverse.dropLast r.a
      have h3 : ys.reverse.dropLast.length ≤ ys.length := by simp
      omega
theorem runN_some {sy : Int} {rs : List R3} : ∀ (N : Nat) (c : Conf), c.xs.length + 2 * N ≤ 200 → c.ys.length + 2 * N ≤ 200 → ∃ i, runN sy rs N c = some i ∧ i ≤ N := by
  intro N
  induction N with
  | zero => intro c _ _; exact ⟨0, rfl, Nat.le_refl _⟩
  | succ N ih =>
    intro c h1 h2
    by_cases hh : haltC sy rs c = true
    · exact ⟨0, by rw [runN, if_pos hh], by omega⟩
    · obtain ⟨s1, s2⟩ := step_len2 (ruleOf sy rs c.q c.ys) c.xs c.ys
      have hr : roomC (nextC sy rs c) = true := by
        unfold roomC roomB nextC
        simp only [Bool.and_eq_true, decide_eq_true_eq]
        omega
      obtain ⟨i, e, hi⟩ := ih (nextC sy rs c) (by unfold nextC; omega) (by unfold nextC; omega)
      exact ⟨i + 1, by rw [runN, if_neg hh, if_pos hr, e]; rfl, by omega⟩
/-- The times of short words of ones: in time, or -1. -/
theorem time_short {sy st : Int} {rs : List R3} {xs : List Int} (hm : machB sy st rs = true) (hl : xs.length ≤ 8) (hx : ∀ x ∈ xs, x = 1) : (timeF sy st rs 40 xs).2 = 0 ∧ -1 ≤ (timeF sy st rs 40 xs).1 ∧ (timeF sy st rs 40 xs).1 ≤ 40 := by
  have h2 := (machB_parts hm).1
  have e1 : isWordB xs = true := by
    unfold isWordB
    simp only [Bool.and_eq_true, decide_eq_true_eq]
    refine ⟨by omega, List.all_eq_true.2 fun x h => ?_⟩
    rw [hx x h]; rfl
  have e2 : allIn xs 0 (sy - 1) = true := List.all_eq_true.2 fun x h => by
    rw [hx x h, inB_iff]; omega
  have h3 : (trimI xs).length ≤ 8 := Nat.le_trans (trim_len xs) hl
  have e3 := startF_ok hm e1 e2 (by omega)
  obtain ⟨i, hi, hle⟩ := runN_some (sy := sy) (rs := rs) 40 ⟨0, [], trimI xs⟩ (by simp) (by show (trimI xs).length + 80 ≤ 200; omega)
  unfold timeF
  rw [e3]
  simp only [if_true]
  rw [hi]
  dsimp only
  split
  · exact ⟨rfl, by omega, by omega⟩
  · exact ⟨rfl, by omega, by omega⟩
theorem wordsD_one (n : Nat) : wordsD 1 n = [digs 1 n 0] := by
  unfold wordsD
  rw [Nat.one_pow]
  rfl
theorem digs_ones : ∀ n k : Nat, ∀ x ∈ digs 1 n k, x = 1 := by
  intro n
  induction n with
  | zero => intro k x h; simp [digs] at h
  | succ n ih =>
    intro k x h
    rcases List.mem_cons.1 h with h | h
    · rw [h, Nat.mod_one]; rfl
    · exact ih _ x h
def oneT (sy st : Int) (rs : List R3) (n : Nat) : Int := (timeF sy st rs 40 (digs 1 n 0)).1
theorem oneT_in {sy st : Int} {rs : List R3} (hm : machB sy st rs = true) {n : Nat} (hn : n ≤ 8) : -1 ≤ oneT sy st rs n ∧ oneT sy st rs n ≤ 40 :=
  (time_short hm (by rw [digs_len]; exact hn) (digs_ones n 0)).2
theorem worstL_one {x : Int} (h : -1 ≤ x) : worstL [x] = x := by
  unfold worstL maxT
  by_cases h0 : x < 0
  · simp [h0]; omega
  · simp [h0]; omega
theorem worstTo_one {sy st : Int} {rs : List R3} (hm : machB sy st rs = true) {n : Nat} (hn : n ≤ 8) : worstTo (timeF sy st rs 40) 1 n = (List.range n).map (oneT sy st rs) := by
  unfold worstTo
  apply List.map_congr_left
  intro k hk
  rw [List.mem_range] at hk
  rw [wordsD_one]
  show worstL [oneT sy st rs k] = _
  exact worstL_one (oneT_in hm (by omega)).1
theorem okTo_one {sy st : Int} {rs : List R3} (hm : machB sy st rs = true) {n : Nat} (hn : n ≤ 8) : okTo2 (timeF sy st rs 40) 1 n = true := by
  unfold okTo2
  refine List.all_eq_true.2 fun k hk => ?_
  rw [List.mem_range] at hk
  rw [wordsD_one]
  show (decide ((timeF sy st rs 40 (digs 1 k 0)).2 = 0) && true) = true
  rw [(time_short hm (by rw [digs_len]; omega) (digs_ones k 0)).1]; rfl
/-- The worst times of the law. -/
def worstV (sy st : Int) (rs : List R3) : List Int := (List.range 5).map (oneT sy st rs)
theorem worst_law {sy st : Int} {rs : List R3} (hm : machB sy st rs = true) : worstF sy st rs 1 4 40 = (worstV sy st rs, 0) := by
  have h2 := (machB_parts hm).1
  unfold worstF
  rw [if_pos hm, if_pos (by
    simp only [Bool.and_eq_true, decide_eq_true_eq, inB_iff]
    exact ⟨⟨⟨by decide, by omega⟩, by decide⟩, by decide⟩)]
  show (if okTo2 (timeF sy st rs 40) 1 5 = true then (worstTo (timeF sy st rs 40) 1 5, (0 : Int)) else ([], 5)) = _
  rw [if_pos (okTo_one hm (by decide)), worstTo_one hm (by decide)]
  rfl
theorem table_law {sy st : Int} {rs : List R3} (hm : machB sy st rs = true) : timeTableF sy st rs [[], [1], [1, 1]] 40 = ((worstV sy st rs).take 3, 0) := by
  unfold timeTableF
  rw [if_pos hm, if_pos (by decide)]
  show timesF (timeF sy st rs 40) _ = _
  rw [timesF_ok (fun x hx => (time_short hm (by
    simp only [List.mem_cons, List.not_mem_nil, or_false] at hx
    rcases hx with rfl | rfl | rfl <;> decide) (by
    simp only [List.mem_cons, List.not_mem_nil, or_false] at hx
    rcases hx with rfl | rfl | rfl <;> simp)).1)]
  rfl
theorem worstV_len (sy st : Int) (rs : List R3) : (worstV sy st rs).length = 5 := rfl
theorem worstV_in {sy st : Int} {rs : List R3} (hm : machB sy st rs = true) : ∀ x ∈ worstV sy st rs, -1 ≤ x ∧ x ≤ 40 := by
  intro x hx
  obtain ⟨k, hk, rfl⟩ := List.mem_map.1 hx
  rw [List.mem_range] at hk
  exact oneT_in hm (by omega)
theorem worstV_get {sy st : Int} {rs : List R3} (hm : machB sy st rs = true) (j : Nat) : (worstV sy st rs).getD j 0 ≤ 40 := by
  rw [List.getD_eq_getElem?_getD]
  cases e : (worstV sy st rs)[j]? with
  | none => show (0 : Int) ≤ 40; decide
  | some x => exact (worstV_in hm x (List.mem_of_getElem? e)).2
end Go.Proofs.Ytokglpdlhacnaaa

/-
  Contracts of impl's boundCode, BoundHolds and LeastFactor for five small times, degree 1 and constant 3; of the law's b10Nums.
-/
namespace Go.Proofs.Ytokglpdlhacnaaa
open Go.RowKit

set_option maxHeartbeats 1000000 in
theorem powerOf1_any (k : Int) (w : World) (h0 : 0 ≤ k) (h4 : k ≤ 4) :
    Calls Try.prog 43 #[.int .i64 k, .int .i64 1] w fun e w' => e = .returned (.tuple #[.int .i64 k, .int .i64 0]) ∧ w = w' := by
  have hk : k = 0 ∨ k = 1 ∨ k = 2 ∨ k = 3 ∨ k = 4 := by omega
  obtain ⟨K, hK⟩ : ∃ K : Int, K = k := ⟨_, rfl⟩
  have HK := Lib.hid hK
  clear hK h0 h4
  rcases hk with rfl | rfl | rfl | rfl | rfl
  all_goals
    go_enter Try.func43, Try.ntmps43
    go_wp2_with (go_at_call 42; refine (within_is (b := true) rfl _).mono ?_; rintro e w' ⟨rfl, rfl⟩)
    go_loop [1, 6] (fun q s => (q = .int .i64 1 ∧ s = .int .i64 1) ∨ (q = .int .i64 0 ∧ s = .int .i64 K)) (fun q _ => (intOf q).toNat)
    case atStart => exact .inl ⟨rfl, rfl⟩
    case round =>
      rcases hrel with ⟨rfl, rfl⟩ | ⟨rfl, rfl⟩
      · go_wp2_with fail
        go_round
        case rel => exact .inr ⟨rfl, by rw [HK.out]⟩
        case measure => decide
      · go_wp2_with fail
        exact bodyPost_ret (v := .tuple #[.int .i64 K, .int .i64 0]) (by simp [results, Try.results43, go_sem]) rfl ⟨by rw [HK.out], rfl⟩
theorem boundCode_any (A : Option Addr) (n c : Nat) (xs : List Int) (f : Int) (w : World) (hx : SI w A n xs) (hn : n ≤ 64) (hin : allIn xs (-1) 1000000000000 = true) (hf : inB f 0 1000000000000 = true) :
    Calls Try.prog 50 #[.slice A n c, .int .i64 f, .int .i64 1, .int .i64 3] w fun e w' => e = .returned (.int .i64 0) ∧ w = w' := by
  have h3 : inB 3 0 1000000000000 = true := by decide
  have h1 : inB 1 0 4 = true := by decide
  have HF := Lib.hid hf
  have H3 := Lib.hid h3
  have H1 := Lib.hid h1
  have HI := Lib.hid hin
  clear hf h3 h1 hin
  go_enter Try.func50, Try.ntmps50
  go_wp2_with (first
    | (go_at_call 68; refine (allWithin_is HI.out _ _ _ _ hx (by omega)).mono ?_; rintro e w' ⟨rfl, rfl⟩)
    | (go_at_call_of 42 (Value.int .i64 3); refine (within_is H3.out _).mono ?_; rintro e w' ⟨rfl, rfl⟩)
    | (go_at_call_of 42 (Value.int .i64 4); refine (within_is H1.out _).mono ?_; rintro e w' ⟨rfl, rfl⟩)
    | (go_at_call 42; refine (within_is HF.out _).mono ?_; rintro e w' ⟨rfl, rfl⟩))
  go_ret
  exact ⟨rfl, rfl⟩
/-- What BoundHolds says of five times. -/
def HoldsP (f : Int) (xs : List Int) (w : World) (e : Ending) (w' : World) : Prop :=
  ((∃ k : Int, 0 ≤ k ∧ k ≤ 4 ∧ e = .returned (.tuple #[.bool false, .int .i64 k, .int .i64 0]) ∧ f * k + 3 < xs.getD k.toNat 0) ∨ (e = .returned (.tuple #[.bool true, .int .i64 0, .int .i64 0]) ∧ ∀ j : Nat, j < 5 → xs.getD j 0 ≤ f * (j : Int) + 3)) ∧ w = w'
set_option maxRecDepth 100000 in
set_option maxHeartbeats 2000000 in
theorem boundHolds_any (A : Option Addr) (c : Nat) (x0 x1 x2 x3 x4 f : Int) (w : World) (hx : SI w A 5 [x0, x1, x2, x3, x4]) (hin : allIn [x0, x1, x2, x3, x4] (-1) 1000000000000 = true) (hf0 : 0 ≤ f) (hf1 : f ≤ 40) :
    Calls Try.prog 14 #[.slice A 5 c, .int .i64 f, .int .i64 1, .int .i64 3] w (HoldsP f [x0, x1, x2, x3, x4] w) := by
  have HBC := Lib.hid (boundCode_any A 5 c _ f w hx (by omega) hin ((inB_iff _ _ _).2 ⟨hf0, by omega⟩))
  obtain ⟨b, off, rfl, hbl, c0⟩ := hx.at_ (k := 0) (by omega)
  obtain ⟨_, _, e, _, c1⟩ := hx.at_ (k := 1) (by omega)
  simp only [Option.some.injEq, Addr.mk.injEq, and_true] at e
  obtain ⟨rfl, rfl⟩ := e
  obtain ⟨_, _, e, _, c2⟩ := hx.at_ (k := 2) (by omega)
  simp only [Option.some.injEq, Addr.mk.injEq, and_true] at e
  obtain ⟨rfl, rfl⟩ := e
  obtain ⟨_, _, e, _, c3⟩ := hx.at_ (k := 3) (by omega)
  simp only [Option.some.injEq, Addr.mk.injEq, and_true] at e
  obtain ⟨rfl, rfl⟩ := e
  obtain ⟨_, _, e, _, c4⟩ := hx.at_ (k := 4) (by omega)
  simp only [Option.some.injEq, Addr.mk.injEq, and_true] at e
  obtain ⟨rfl, rfl⟩ := e
  replace c0 : w.cell? ⟨b, off, none⟩ = some (.int .i64 x0) := c0
  replace c1 : w.cell? ⟨b, off + 1, none⟩ = some (.int .i64 x1) := c1
  replace c2 : w.cell? ⟨b, off + 2, none⟩ = some (.int .i64 x2) := c2
  replace c3 : w.cell? ⟨b, off + 3, none⟩ = some (.int .i64 x3) := c3
  replace c4 : w.cell? ⟨b, off + 4, none⟩ = some (.int .i64 x4) := c4
  clear hx hin hbl
  go_enter Try.func14, Try.ntmps14
  go_wp2_with (go_at_call 50; refine HBC.out.mono ?_; rintro e w' ⟨rfl, rfl⟩)
  go_loop [26] (fun i => ∃ k : Int, 0 ≤ k ∧ k ≤ 5 ∧ i = .int .i64 k ∧ Hid (∀ j : Nat, (j : Int) < k → [x0, x1, x2, x3, x4].getD j 0 ≤ f * (j : Int) + 3)) (fun i => 5 - (intOf i).toNat)
  case atStart => exact ⟨0, Int.le_refl 0, by omega, rfl, Lib.hid (fun j hj => by omega)⟩
  case round =>
    obtain ⟨k, hk0, hk5, rfl, HV⟩ := hrel
    have hk : k = 5 ∨ k = 0 ∨ k = 1 ∨ k = 2 ∨ k = 3 ∨ k = 4 := by omega
    clear hk0 hk5
    rcases hk with rfl | hk
    · go_wp2_with fail
      exact bodyPost_ret (v := .tuple #[.bool true, .int .i64 0, .int .i64 0]) (by simp [results, Try.results14, go_sem]) rfl ⟨.inr ⟨rfl, fun j hj => HV.out j (by omega)⟩, rfl⟩
    · obtain ⟨xk, hxk⟩ : ∃ x, x = [x0, x1, x2, x3, x4].getD k.toNat 0 := ⟨_, rfl⟩
      have ck : w.cell? ⟨b, off + k.toNat, none⟩ = some (.int .i64 xk) := by
        rw [hxk]
        rcases hk with rfl | rfl | rfl | rfl | rfl
        · exact c0
        · exact c1
        · exact c2
        · exact c3
        · exact c4
      have HXK := Lib.hid hxk
      clear hxk c0 c1 c2 c3 c4
      by_cases hv : f * k + 3 < xk
      · obtain ⟨K, hK⟩ : ∃ K : Int, K = k := ⟨_, rfl⟩
        have HN : Hid (0 ≤ K ∧ K ≤ 4 ∧ f * K + 3 < [x0, x1, x2, x3, x4].getD K.toNat 0) := Lib.hid (by rw [hK, ← HXK.out]; exact ⟨by omega, by omega, hv⟩)
        have HK := Lib.hid hK
        clear hK
        rcases hk with rfl | rfl | rfl | rfl | rfl
        all_goals
          simp only [Int.reduceToNat, Nat.add_zero] at ck
          go_wp2_with (go_at_call 43; refine (powerOf1_any _ _ (by omega) (by omega)).mono ?_; rintro e w' ⟨rfl, rfl⟩)
          exact bodyPost_ret (v := .tuple #[.bool false, .int .i64 K, .int .i64 0]) (by simp [results, Try.results14, go_sem, HK.out]) rfl ⟨.inl ⟨K, HN.out.1, HN.out.2.1, rfl, HN.out.2.2⟩, rfl⟩
      · have HN : Hid (∀ j : Nat, (j : Int) < k + 1 → [x0, x1, x2, x3, x4].getD j 0 ≤ f * (j : Int) + 3) := Lib.hid (fun j hj => by
          by_cases h : (j : Int) = k
          · subst h
            have := HXK.out
            rw [Int.toNat_natCast] at this
            omega
          · exact HV.out j (by omega))
        rcases hk with rfl | rfl | rfl | rfl | rfl
        all_goals
          simp only [Int.reduceToNat, Nat.add_zero] at ck
          go_wp2_with (go_at_call 43; refine (powerOf1_any _ _ (by omega) (by omega)).mono ?_; rintro e w' ⟨rfl, rfl⟩)
          go_round
          case rel => exact ⟨_, by decide, by decide, rfl, HN⟩
          case measure => decide
/-- What LeastFactor says of five times. -/
def leastE (o : Option Int) : Ending := match o with
  | some f => .returned (.tuple #[.int .i64 f, .int .i64 0])
  | none => .returned (.tuple #[.int .i64 0, .int .i64 3])
set_option maxRecDepth 100000 in
set_option maxHeartbeats 2000000 in
theorem leastFactor_any (A : Option Addr) (c : Nat) (x0 x1 x2 x3 x4 : Int) (w : World) (hx : SI w A 5 [x0, x1, x2, x3, x4]) (hin : allIn [x0, x1, x2, x3, x4] (-1) 1000000000000 = true) (hle : ∀ j, [x0, x1, x2, x3, x4].getD j 0 ≤ 40) :
    Calls Try.prog 13 #[.slice A 5 c, .int .i64 1, .int .i64 3] w fun e w' => e = leastE (leastTo [x0, x1, x2, x3, x4] 5) ∧ w = w' := by
  have HBC := Lib.hid (boundCode_any A 5 c _ 0 w hx (by omega) hin (by decide))
  have HLE := Lib.hid hle
  obtain ⟨b, off, rfl, hbl, c0⟩ := hx.at_ (k := 0) (by omega)
  obtain ⟨_, _, e, _, c1⟩ := hx.at_ (k := 1) (by omega)
  simp only [Option.some.injEq, Addr.mk.injEq, and_true] at e
  obtain ⟨rfl, rfl⟩ := e
  obtain ⟨_, _, e, _, c2⟩ := hx.at_ (k := 2) (by omega)
  simp only [Option.some.injEq, Addr.mk.injEq, and_true] at e
  obtain ⟨rfl, rfl⟩ := e
  obtain ⟨_, _, e, _, c3⟩ := hx.at_ (k := 3) (by omega)
  simp only [Option.some.injEq, Addr.mk.injEq, and_true] at e
  obtain ⟨rfl, rfl⟩ := e
  obtain ⟨_, _, e, _, c4⟩ := hx.at_ (k := 4) (by omega)
  simp only [Option.some.injEq, Addr.mk.injEq, and_true] at e
  obtain ⟨rfl, rfl⟩ := e
  replace c0 : w.cell? ⟨b, off, none⟩ = some (.int .i64 x0) := c0
  replace c1 : w.cell? ⟨b, off + 1, none⟩ = some (.int .i64 x1) := c1
  replace c2 : w.cell? ⟨b, off + 2, none⟩ = some (.int .i64 x2) := c2
  replace c3 : w.cell? ⟨b, off + 3, none⟩ = some (.int .i64 x3) := c3
  replace c4 : w.cell? ⟨b, off + 4, none⟩ = some (.int .i64 x4) := c4
  clear hx hin hbl hle
  go_enter Try.func13, Try.ntmps13
  go_wp2_with (go_at_call 50; refine HBC.out.mono ?_; rintro e w' ⟨rfl, rfl⟩)
  go_loop [9, 23] (fun s i => ∃ (k : Int) (f : Int), 0 ≤ k ∧ k ≤ 5 ∧ i = .int .i64 k ∧ s = .int .i64 f ∧ Hid (leastTo [x0, x1, x2, x3, x4] k.toNat = some f)) (fun _ i => 5 - (intOf i).toNat)
  case atStart => exact ⟨0, 0, by omega, by omega, rfl, rfl, Lib.hid rfl⟩
  case round =>
    obtain ⟨k, f, hk0, hk5, rfl, rfl, HV⟩ := hrel
    have hf := leastTo_ok HLE.out HV.out
    obtain ⟨hf0, hf1, _, _⟩ := hf
    have hk : k = 5 ∨ k = 0 ∨ k = 1 ∨ k = 2 ∨ k = 3 ∨ k = 4 := by omega
    rcases hk with rfl | hk
    · have HE : Hid (leastE (leastTo [x0, x1, x2, x3, x4] 5) = .returned (.tuple #[.int .i64 f, .int .i64 0])) := Lib.hid (by rw [show (5 : Nat) = (5 : Int).toNat from rfl, HV.out]; rfl)
      go_wp2_with fail
      exact bodyPost_ret (v := .tuple #[.int .i64 f, .int .i64 0]) (by simp [results, Try.results13, go_sem]) rfl ⟨HE.out.symm, rfl⟩
    · obtain ⟨xk, hxk⟩ : ∃ x, x = [x0, x1, x2, x3, x4].getD k.toNat 0 := ⟨_, rfl⟩
      have hx40 := HLE.out k.toNat
      rw [← hxk] at hx40
      have ck : w.cell? ⟨b, off + k.toNat, none⟩ = some (.int .i64 xk) := by
        rw [hxk]
        rcases hk with rfl | rfl | rfl | rfl | rfl
        · exact c0
        · exact c1
        · exact c2
        · exact c3
        · exact c4
      have HXK := Lib.hid hxk
      have HT : Hid ((k + 1).toNat = k.toNat + 1) := Lib.hid (by omega)
      have HC : Hid ((k.toNat : Int) = k) := Lib.hid (Int.toNat_of_nonneg hk0)
      clear hxk c0 c1 c2 c3 c4 hk5
      by_cases hv : xk ≤ 3
      · have HN : Hid (leastTo [x0, x1, x2, x3, x4] (k + 1).toNat = some f) := Lib.hid (by rw [HT.out, leastTo_next HV.out (.inr (by rw [← HXK.out]; exact hv)), if_pos (by rw [← HXK.out]; exact hv)])
        rcases hk with rfl | rfl | rfl | rfl | rfl
        all_goals
          simp only [Int.reduceToNat, Nat.add_zero] at ck
          go_wp2_with (go_at_call 43; refine (powerOf1_any _ _ (by omega) (by omega)).mono ?_; rintro e w' ⟨rfl, rfl⟩)
          go_round
          case rel => exact ⟨_, f, by decide, by decide, rfl, rfl, HN⟩
          case measure => decide
      · rcases hk with rfl | hk
        · have HE : Hid (leastE (leastTo [x0, x1, x2, x3, x4] 5) = .returned (.tuple #[.int .i64 0, .int .i64 3])) := Lib.hid (by rw [leastTo_first (n := 4) (by have e := HXK.out; have e0 : [x0, x1, x2, x3, x4].getD (0 : Int).toNat 0 = [x0, x1, x2, x3, x4].getD 0 0 := rfl; rw [e0] at e; omega)]; rfl)
          simp only [Int.reduceToNat, Nat.add_zero] at ck
          go_wp2_with (go_at_call 43; refine (powerOf1_any _ _ (by omega) (by omega)).mono ?_; rintro e w' ⟨rfl, rfl⟩)
          exact bodyPost_ret (v := .tuple #[.int .i64 0, .int .i64 3]) (by simp [results, Try.results13, go_sem]) rfl ⟨HE.out.symm, rfl⟩
        · obtain ⟨D, hD⟩ : ∃ D, D = (xk - 3 + k - 1) / k := ⟨_, rfl⟩
          have hk1 : 1 ≤ k ∧ k ≤ 4 := by omega
          have hD0 : 0 ≤ D ∧ D ≤ 44 := by rw [hD]; exact ⟨Int.ediv_nonneg (by omega) (by omega), Int.ediv_le_of_le_mul (by omega) (by have := Int.mul_le_mul_of_nonneg_left (show (1 : Int) ≤ k by omega) (show (0 : Int) ≤ 44 by omega); omega)⟩
          have p1 : (xk - 3 + k - 1).tdiv k = D := by rw [hD]; exact Int.tdiv_eq_ediv_of_nonneg (by omega)
          have HN : Hid (leastTo [x0, x1, x2, x3, x4] (k + 1).toNat = some (max f D)) := Lib.hid (by rw [HT.out, leastTo_next HV.out (.inl (by omega)), if_neg (by rw [← HXK.out]; exact hv), ← HXK.out, HC.out, hD])
          have HDD := Lib.hid hD
          clear hD hk1
          rcases hk with rfl | rfl | rfl | rfl
          all_goals
            simp only [Int.reduceToNat, Nat.add_zero] at ck
            go_wp2_with (go_at_call 43; refine (powerOf1_any _ _ (by omega) (by omega)).mono ?_; rintro e w' ⟨rfl, rfl⟩)
            go_round
            case rel => exact ⟨_, max f D, by decide, by decide, rfl, (by have h := HDD.out; first | (congr 1; omega) | (congr 1; split <;> omega)), HN⟩
            case measure => decide
end Go.Proofs.Ytokglpdlhacnaaa
