/-
  Contract of spec.TimeTable: it returns what timeTableF says.
-/
import Derived.Test.YtbedghebckflmaaTimeI
import Derived.Test.YtbedghebckflmaaRunV
namespace Go.Proofs.Ytbedghebckflmaa
open Go.RowKit

theorem l20Count_any (a : Int) (h : Bool) (w : World) : Calls Try.prog 151 #[.int .i64 a, .bool h, .int .i64 0] w fun e w' => e = .returned (.int .i64 (if h then a else -1)) ∧ w = w' := by
  cases h
  · go_enter Try.func151, Try.ntmps151
    go_wp2
    go_ret
    exact ⟨rfl, rfl⟩
  · go_enter Try.func151, Try.ntmps151
    go_wp2
    go_ret
    exact ⟨rfl, rfl⟩

theorem runMachF_good {sy st : Int} {rs : List R3} {c : Conf} {N : Nat} (h : goodC sy st rs c) (hb : inB (N : Int) 1 20000 = true) : runMachF sy st rs c.q c.xs c.ys (N : Int) = match runN sy rs N c with
      | some i => (itC sy rs c i, (i : Int), haltC sy rs (itC sy rs c i), 0)
      | none => (⟨0, [], []⟩, 0, false, 5) := by
  unfold runMachF
  rw [show validConfB sy st rs c.q c.xs c.ys = true from h, hb, Int.toNat_natCast]
  rfl
/-- What l20Time has of RunMachine. -/
def TimeCut (W : World) (r : Conf × Int × Bool × Int) (s11 s12 s13 : Value) (wx : World) : Prop := s11 = .int .i64 r.2.1 ∧ s12 = .bool r.2.2.1 ∧ s13 = .int .i64 r.2.2.2 ∧ Below W.heap.size W wx
def Two (w : World) (v : Int × Int) (e : Ending) (w' : World) : Prop := e = .returned (.tuple #[.int .i64 v.1, .int .i64 v.2]) ∧ Below w.heap.size w w'
theorem two {w w' : World} {v : Int × Int} {a b : Int} (h : v = (a, b)) (z : Below w.heap.size w w') : Two w v (.returned (.tuple #[.int .i64 a, .int .i64 b])) w' := by subst h; exact ⟨rfl, z⟩

set_option maxRecDepth 100000 in
set_option maxHeartbeats 8000000 in
theorem l20Time_any (g : Nat) (sy st : Int) (A : Option Addr) (n k : Nat) (rs : List R3) (B : Option Addr) (m c : Nat) (xs : List Int) (N : Nat) (w : World) (hM : MachAt w g sy st A n k) (hr : S3 w A n rs) (hx : SI w B m xs) (hn : n ≤ 1048576) (hm : m ≤ 1048576) (hcap : m ≤ c) (hb : inB (N : Int) 1 20000 = true) :
    Calls Try.prog 110 #[.pointer (some ⟨g, 0, none⟩), .slice B m c, .int .i64 (N : Int)] w (Two w (timeF sy st rs N xs)) := by
  have HB := Lib.hid hb
  have hbb := (inB_iff _ _ _).1 hb
  clear hb
  obtain ⟨q0, q1, q2⟩ := id hM
  go_enter Try.func110, Try.ntmps110
  go_wp2_with fail
  refine (specStartConfig_any _ _ _ _ _ rs _ _ _ xs _ hr hx hn hm hcap).mono ?_
  rintro e W3 ⟨L3, a3, R3', d3, rfl, oL3, oR3, hap3, z3⟩
  have HSF : Hid ((startF sy st rs xs).2 = 0 → goodC sy st rs (startF sy st rs xs).1) := fun h => startF_good h
  have HTC := Lib.hid (fun h => timeF_code (sy := sy) (st := st) (rs := rs) (N := N) (xs := xs) h)
  have HTM : Hid ((startF sy st rs xs).2 = 0 → timeF sy st rs N xs = match runN sy rs N (startF sy st rs xs).1 with
    | some i => (if haltC sy rs (itC sy rs (startF sy st rs xs).1 i) then (i : Int) else -1, 0)
    | none => (0, 5)) := fun h => by unfold timeF; rw [if_pos h]; cases runN sy rs N (startF sy st rs xs).1 <;> rfl
  clear hap3 q0 q1 q2
  generalize startF sy st rs xs = sf at *
  obtain ⟨cf, kc⟩ := sf
  dsimp only at oL3 oR3 HSF HTC HTM ⊢
  obtain ⟨W4, hW_⟩ : ∃ W, W = W3.alloc (.cells #[.int .i64 cf.q, .slice L3 cf.xs.length a3, .slice R3' cf.ys.length d3] 38) := ⟨_, rfl⟩
  have b4 : Blk W4 W3.heap.size 38 #[.int .i64 cf.q, .slice L3 cf.xs.length a3, .slice R3' cf.ys.length d3] := by rw [hW_]; exact Blk.new W3 _ _
  have z4 : Below W3.heap.size W3 W4 := by rw [hW_]; exact (Below.refl _ _).alloc (Nat.le_refl _) _
  have HW4 := Lib.hid hW_
  clear hW_
  have z34 := z3.trans (z4.mono z3.size)
  have hM4 := hM.below z34
  obtain ⟨q0, q1, q2⟩ := id hM4
  have u0 : W4.cell? ⟨W3.heap.size, 0, none⟩ = some (.int .i64 cf.q) := b4.cell 0
  have u1 : W4.cell? ⟨W3.heap.size, 1, none⟩ = some (.slice L3 cf.xs.length a3) := b4.cell 1
  have u2 : W4.cell? ⟨W3.heap.size, 2, none⟩ = some (.slice R3' cf.ys.length d3) := b4.cell 2
  go_upto_region 2 with fail
  rw [← HW4.out]
  clear HW4
  by_cases hk0 : kc = 0
  rotate_left
  · have HE := Lib.hid (HTC.out hk0)
    clear HTC HTM HSF
    go_wp2_with fail
    exact bodyPost_ret (v := .tuple #[.int .i64 0, .int .i64 kc]) (by simp [results, Try.results110, go_sem]) rfl (two HE.out z34)
  subst hk0
  have hgc := HSF.out (by trivial)
  have hcl := conf_len hgc
  have HT1 := Lib.hid (HTM.out (by trivial))
  have HRM := Lib.hid (runMachF_good hgc HB.out)
  obtain ⟨res, hres⟩ : ∃ res, res = runMachF sy st rs cf.q cf.xs cf.ys (N : Int) := ⟨_, rfl⟩
  have HRES := Lib.hid hres
  clear hres HTC HTM HSF
  have KEEP : Hid (∀ cur, Below W4.heap.size W4 cur → cur.cell? ⟨g, 0, none⟩ = some (.int .i64 sy) ∧ cur.cell? ⟨g, 1, none⟩ = some (.int .i64 st) ∧ cur.cell? ⟨g, 2, none⟩ = some (.slice A n k) ∧ cur.cell? ⟨W3.heap.size, 0, none⟩ = some (.int .i64 cf.q) ∧ cur.cell? ⟨W3.heap.size, 1, none⟩ = some (.slice L3 cf.xs.length a3) ∧ cur.cell? ⟨W3.heap.size, 2, none⟩ = some (.slice R3' cf.ys.length d3)) := fun cur h =>
    ⟨(hM4.below h).1, (hM4.below h).2.1, (hM4.below h).2.2, (b4.below' h).cell 0, (b4.below' h).cell 1, (b4.below' h).cell 2⟩
  go_upto_region 4 with fail
  go_cut [11, 12, 13] (fun s11 s12 s13 wx => TimeCut W4 res s11 s12 s13 wx)
  case first =>
    go_region_held3 (fun w' => w'.cell? ⟨g, 0, none⟩ = some (.int .i64 sy) ∧ w'.cell? ⟨g, 1, none⟩ = some (.int .i64 st) ∧ w'.cell? ⟨g, 2, none⟩ = some (.slice A n k) ∧ w'.cell? ⟨W3.heap.size, 0, none⟩ = some (.int .i64 cf.q) ∧ w'.cell? ⟨W3.heap.size, 1, none⟩ = some (.slice L3 cf.xs.length a3) ∧ w'.cell? ⟨W3.heap.size, 2, none⟩ = some (.slice R3' cf.ys.length d3))
      (first
        | (go_keep; done)
        | (exact KEEP.out _ (by first
            | exact zz5
            | exact zz5.alloc zz5.size _
            | exact below_drewN ((Below.refl _ _).alloc (Nat.le_refl _) _) _
            | exact (Below.refl _ _).alloc (Nat.le_refl _) _
            | exact conf_below (zz5.alloc zz5.size _) zz5.size _ _ _
            | exact conf_below zz5 BX.out.1 _ _ _)))
      (first
        | (go_at_call 33; refine (specRunMachine_any _ _ _ _ _ rs _ _ _ _ cf.xs _ _ _ cf.ys _ _ ((hr.below z34).drewN 1) ((oL3.below z4).asI.drewN 1) ((oR3.below z4).asI.drewN 1) hn (by omega) (by omega)).mono ?_; rw [← HRES.out]; rintro e W5 ⟨L5, a5, R5, d5, rfl, oL5, oR5, hap5, z5⟩; have hq : Below W4.heap.size W4 W5 := below_undrew z5; have zz5 := hq; clear hq)
        | (go_at_call 33; refine (specRunMachine_any _ _ _ _ _ rs _ _ _ _ cf.xs _ _ _ cf.ys _ _ (((hr.below z34).alloc _).drewN 1) (((oL3.below z4).asI.alloc _).drewN 1) (((oR3.below z4).asI.alloc _).drewN 1) hn (by omega) (by omega)).mono ?_; rw [← HRES.out]; rintro e W5 ⟨L5, a5, R5, d5, rfl, oL5, oR5, hap5, z5⟩; have hq : Below W4.heap.size W4 W5 := below_of_alloc (below_undrew z5); have zz5 := hq; clear hq; have BX := Lib.hid (((Bx.new W4 38 #[.int .i64 0, .slice none 0 0, .slice none 0 0] (Nat.le_refl _)).drewN 1).below' z5); have x0_ : _ = some (Value.int .i64 0) := BX.out.2.cell 0; have f0 := BX.out.2.frozen 0; have x1_ : _ = some (Value.slice none 0 0) := BX.out.2.cell 1; have f1 := BX.out.2.frozen 1; have x2_ : _ = some (Value.slice none 0 0) := BX.out.2.cell 2; have f2 := BX.out.2.frozen 2))
    all_goals
      go_wp2_with fail
      go_meet
      first
        | exact ⟨rfl, rfl, rfl, zz5.alloc zz5.size _⟩
        | exact ⟨rfl, rfl, rfl, conf_below zz5 BX.out.1 _ _ _⟩
  case rest =>
    obtain ⟨rfl, rfl, rfl, z6⟩ := hcut
    have y6 := z34.trans (z6.mono z34.size)
    rw [HRM.out] at HRES
    cases hrn : runN sy rs N cf with
    | none =>
      rw [hrn] at HRES HT1
      obtain rfl : res = (⟨0, [], []⟩, 0, false, 5) := HRES.out
      have HT2 : Hid (timeF sy st rs N xs = (0, 5)) := HT1
      clear HRES HT1 HRM hrn KEEP q0 q1 q2 u0 u1 u2
      dsimp only
      go_wp2_with fail
      exact bodyPost_ret (v := .tuple #[.int .i64 0, .int .i64 5]) (by simp [results, Try.results110, go_sem]) rfl (two HT2.out y6)
    | some i =>
      rw [hrn] at HRES HT1
      obtain rfl : res = (itC sy rs cf i, (i : Int), haltC sy rs (itC sy rs cf i), 0) := HRES.out
      have HT2 : Hid (timeF sy st rs N xs = (if haltC sy rs (itC sy rs cf i) then (i : Int) else -1, 0)) := HT1
      clear HRES HT1 HRM hrn KEEP q0 q1 q2 u0 u1 u2
      dsimp only
      cases hh : haltC sy rs (itC sy rs cf i) with
      | true =>
        have HT3 : Hid (timeF sy st rs N xs = ((i : Int), 0)) := Lib.hid (by rw [HT2.out, hh]; rfl)
        clear hh HT2
        go_wp2_with (go_at_call 151; refine (l20Count_any _ _ _).mono ?_; rintro e w' ⟨rfl, rfl⟩)
        exact bodyPost_ret (v := .tuple #[.int .i64 (i : Int), .int .i64 0]) (by simp [results, Try.results110, go_sem]) rfl (two HT3.out y6)
      | false =>
        have HT3 : Hid (timeF sy st rs N xs = (-1, 0)) := Lib.hid (by rw [HT2.out, hh]; rfl)
        clear hh HT2
        go_wp2_with (go_at_call 151; refine (l20Count_any _ _ _).mono ?_; rintro e w' ⟨rfl, rfl⟩)
        exact bodyPost_ret (v := .tuple #[.int .i64 (-1), .int .i64 0]) (by simp [results, Try.results110, go_sem]) rfl (two HT3.out y6)

set_option maxRecDepth 100000 in
set_option maxHeartbeats 8000000 in
theorem specTimeTable_any (sy st : Int) (A : Option Addr) (n k : Nat) (rs : List R3) (B : Option Addr) (m c : Nat) (ts : List Sl) (b : Int) (w : World) (hr : S3 w A n rs) (hx : SII w B m ts) (hn : n ≤ 1048576) (hm : m ≤ 1048576) (hns : ∀ t ∈ ts, t.xs.length ≤ 1048576) (hcs : ∀ t ∈ ts, t.xs.length ≤ t.c) :
    Calls Try.prog 54 #[.agg #[.int .i64 sy, .int .i64 st, .slice A n k], .slice B m c, .int .i64 b] w (NewI2 w (timeTableF sy st rs (nums ts) b)) := by
  obtain ⟨W, hW_⟩ : ∃ W, W = w.alloc (.cells #[.int .i64 sy, .int .i64 st, .slice A n k] 30) := ⟨_, rfl⟩
  have b0 : Blk W w.heap.size 30 #[.int .i64 sy, .int .i64 st, .slice A n k] := by rw [hW_]; exact Blk.new w _ _
  have y0 : Below w.heap.size w W := by rw [hW_]; exact (Below.refl _ _).alloc (Nat.le_refl _) _
  have HW := Lib.hid hW_
  clear hW_
  have hM := b0.machAt
  have HM : Hid ((nums ts).length = m) := by show _ = _; have := hx.len; simpa [nums] using this
  have HNS := Lib.hid hns
  have HCS := Lib.hid hcs
  clear hns hcs
  go_enter Try.func54, Try.ntmps54
  go_wp2_with fail
  rw [← HW.out]
  refine (l05Is_any _ _ _ _ _ _ rs _ hM (hr.below y0) hn).mono ?_
  rintro e W1 ⟨rfl, z1⟩
  have y1 := y0.trans (z1.mono y0.size)
  have c0 := b0.below' z1
  cases a0 : machB sy st rs
  · have HF : Hid (timeTableF sy st rs (nums ts) b = ([], 1)) := Lib.hid (by unfold timeTableF; rw [a0]; rfl)
    clear a0
    go_wp2_with fail
    exact bodyPost_ret (v := .tuple #[.slice none 0 0, .int .i64 1]) (by simp [results, Try.results54, go_sem]) rfl (newI2_nil HF.out y1)
  have A0 := Lib.hid a0
  clear a0
  cases a1 : inB b 1 20000
  · have HF : Hid (timeTableF sy st rs (nums ts) b = ([], 2)) := Lib.hid (by unfold timeTableF; rw [A0.out, a1]; rfl)
    have A1 := Lib.hid a1
    clear a1
    go_wp2_with (go_at_call 68; refine (l05Budget_is A1.out _).mono ?_; rintro e w' ⟨rfl, rfl⟩)
    exact bodyPost_ret (v := .tuple #[.slice none 0 0, .int .i64 2]) (by simp [results, Try.results54, go_sem]) rfl (newI2_nil HF.out y1)
  have A1 := Lib.hid a1
  have hb := (inB_iff _ _ _).1 a1
  clear a1
  by_cases h3 : m ≤ 256
  rotate_left
  · have HF : Hid (timeTableF sy st rs (nums ts) b = ([], 2)) := Lib.hid (by unfold timeTableF; rw [A0.out, A1.out, HM.out]; simp [h3])
    have i1 : decide ((256 : Int) < (m : Int)) = true := by simp; omega
    go_wp2_with (go_at_call 68; refine (l05Budget_is A1.out _).mono ?_; rintro e w' ⟨rfl, rfl⟩)
    exact bodyPost_ret (v := .tuple #[.slice none 0 0, .int .i64 2]) (by simp [results, Try.results54, go_sem]) rfl (newI2_nil HF.out y1)
  have i1 : decide ((256 : Int) < (m : Int)) = false := by simp; omega
  obtain ⟨N, rfl⟩ : ∃ N : Nat, b = (N : Int) := ⟨b.toNat, by omega⟩
  have HF : Hid (timeTableF sy st rs (nums ts) (N : Int) = timesF (timeF sy st rs N) (nums ts)) := Lib.hid (by unfold timeTableF; rw [A0.out, A1.out, HM.out, Int.toNat_natCast]; simp [h3])
  have z2 : Below W1.heap.size W1 (W1.alloc (.cells #[] 2)) := (Below.refl _ _).alloc (Nat.le_refl _) _
  have y2 : Below w.heap.size w (W1.alloc (.cells #[] 2)) := y1.trans (z2.mono y1.size)
  have o0 : Own (W1.alloc (.cells #[] 2)) w.heap.size 2 1 (some ⟨W1.heap.size, 0, none⟩) 0 0 (ints (timesTo (timeF sy st rs N) (nums ts) 0)) := (Own.lit0 W1 _ 1).mono y1.size
  have c2 := c0.below' z2
  go_wp2_with (go_at_call 68; refine (l05Budget_is A1.out _).mono ?_; rintro e w' ⟨rfl, rfl⟩)
  clear i1
  generalize W1.alloc (.cells #[] 2) = W2 at *
  go_loopw [8, 9] (fun v i wr => ∃ (j : Nat) (D : Option Addr) (cd : Nat), j ≤ m ∧ i = .int .i64 (j : Int) ∧ v = .slice D (timesTo (timeF sy st rs N) (nums ts) j).length cd ∧ okTo (timeF sy st rs N) (nums ts) j ∧ Own wr w.heap.size 2 1 D (timesTo (timeF sy st rs N) (nums ts) j).length cd (ints (timesTo (timeF sy st rs N) (nums ts) j)) ∧ Blk wr w.heap.size 30 #[.int .i64 sy, .int .i64 st, .slice A n k] ∧ Below w.heap.size w wr) (fun _ i _ => m - (intOf i).toNat)
  case atStart => exact ⟨0, _, 0, Nat.zero_le _, rfl, rfl, (by intro x hx; simp at hx), o0, c2, y2⟩
  case round =>
    obtain ⟨j, D, cd, hj, rfl, rfl, hok, ho, hB, hy⟩ := hrel
    have HOK := Lib.hid hok
    clear hok o0 c2 y2 c0 b0 z2 y1 z1 y0 hM
    have hfl := timesTo_len (timeF sy st rs N) (nums ts) j
    by_cases hlt : j < m
    · obtain ⟨t, bb, off, HT, htm, rfl, hbl, e0, hrow⟩ := (hx.below hy).pick hlt
      have hnt := HNS.out t htm
      have hct := HCS.out t htm
      have HSTOP := Lib.hid (times_stop (f := timeF sy st rs N) HT.out HOK.out)
      have HNEXT := Lib.hid (timesTo_next (f := timeF sy st rs N) HT.out)
      have HOKN := Lib.hid (okTo_next (f := timeF sy st rs N) HT.out HOK.out)
      go_wp2_with fail
      refine (l20Time_any _ sy st A n k rs _ _ _ t.xs N _ hB.machAt (hr.below hy) hrow hn hnt hct A1.out).mono ?_
      rintro e W6 ⟨rfl, z6⟩
      have y6 := hy.trans (z6.mono hy.size)
      have hB6 := hB.below' z6
      have ho6 := ho.below z6
      clear e0 hrow htm
      generalize timeF sy st rs N t.xs = tf at *
      obtain ⟨tv, tk⟩ := tf
      dsimp only at HSTOP HNEXT HOKN ⊢
      by_cases hk0 : tk = 0
      rotate_left
      · have HE2 := Lib.hid (HSTOP.out hk0)
        clear HSTOP HNEXT HOKN
        go_wp2_with fail
        exact bodyPost_ret (v := .tuple #[.slice none 0 0, .int .i64 tk]) (by simp [results, Try.results54, go_sem]) rfl (newI2_nil (HF.out.trans HE2.out) y6)
      subst hk0
      have HOK1 := Lib.hid (HOKN.out (by trivial))
      clear HSTOP HOKN
      go_wp2_with (at_builtin; refine wpList_append_Own rfl (.tmp 41) (.tmp 43) rfl elI (lo := w.heap.size) rfl (ho6.alloc _) rfl (Rd.new1 W6 (.int .i64 tv) _) (by simp [Value.oneCell']) (by omega) (by simp only [maxLen]; omega) (by have := y6.size; simp; omega) ?_; intro A2 c2 w2 ho7 hg7 hw7)
      have hy7 : Below w.heap.size w w2 := (ho6.alloc _).below_of (y6.alloc y6.size _) hg7 (by have := y6.size; simp; omega)
      have hB7 : Blk w2 w.heap.size 30 #[.int .i64 sy, .int .i64 st, .slice A n k] := (hg7.block w.heap.size (by have := hB6.lt; simp; omega) (fun e => (hB6.alloc (.cells #[.int .i64 tv] 2)).ne_own1 (ho6.alloc _) e.symm)).trans (hB6.alloc _)
      rw [ints_snoc, ← HNEXT.out] at ho7
      have HLEN : Hid ((timesTo (timeF sy st rs N) (nums ts) j).length + 1 = (timesTo (timeF sy st rs N) (nums ts) (j + 1)).length) := Lib.hid (by rw [HNEXT.out]; simp)
      go_wp2_with fail
      go_roundw
      case rel => exact ⟨j + 1, A2, c2, by omega, by go_num, by rw [← HLEN.out], HOK1.out, by rw [← HLEN.out]; exact ho7, hB7, hy7⟩
      case measure => simp [intOf]; omega
    · have HE := Lib.hid (times_end (f := timeF sy st rs N) (ts := ts) (k := j) (by rw [HM.out]; omega) HOK.out)
      go_wp2_with fail
      exact bodyPost_ret (v := .tuple #[.slice D (timesTo (timeF sy st rs N) (nums ts) j).length cd, .int .i64 0]) (by simp [results, Try.results54, go_sem]) rfl (newI2_of (HF.out.trans HE.out) ho hy)
end Go.Proofs.Ytbedghebckflmaa
