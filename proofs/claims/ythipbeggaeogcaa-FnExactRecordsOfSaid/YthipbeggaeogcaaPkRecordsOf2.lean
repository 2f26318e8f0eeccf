/-
  Contracts of impl.RunMachine and spec.RunMachine: both return what runMachF says.
-/
import Derived.Test.YthipbeggaeogcaaPkRecordsOf1
import Derived.Test.YthipbeggaeogcaaRunU
import Derived.Test.YthipbeggaeogcaaRunT
import Derived.Test.YthipbeggaeogcaaNodeS
namespace Go.Proofs.Ythipbeggaeogcaa
open Go.RowKit

/-- What RunMachine returns. -/
def runMachF (sy st : Int) (rs : List R3) (q : Int) (xs ys : List Int) (b : Int) : Conf × Int × Bool × Int :=
  if validConfB sy st rs q xs ys then
    if inB b 1 20000 then
      match runN sy rs b.toNat ⟨q, xs, ys⟩ with
      | some i => (itC sy rs ⟨q, xs, ys⟩ i, (i : Int), haltC sy rs (itC sy rs ⟨q, xs, ys⟩ i), 0)
      | none => (⟨0, [], []⟩, 0, false, 5)
    else (⟨0, [], []⟩, 0, false, 2)
  else (⟨0, [], []⟩, 0, false, 1)
theorem Alive.cons {sy : Int} {rs : List R3} {c : Conf} {i : Nat} (h1 : haltC sy rs c = false) (h2 : roomC (nextC sy rs c) = true) (h : Alive sy rs (nextC sy rs c) i) : Alive sy rs c (i + 1) := fun j hj => by
  cases j with
  | zero => exact ⟨h1, h2⟩
  | succ j =>
    have h3 := h j (by omega)
    rw [itC_shift, itC_shift] at h3
    exact h3
theorem runN_alive {sy : Int} {rs : List R3} : ∀ {N : Nat} {c : Conf} {i : Nat}, runN sy rs N c = some i → Alive sy rs c i := by
  intro N
  induction N with
  | zero => intro c i h; unfold runN at h; cases h; exact Alive.zero _ _ _
  | succ N ih =>
    intro c i h
    unfold runN at h
    split at h
    · cases h; exact Alive.zero _ _ _
    · rename_i h1
      split at h
      · rename_i h2
        cases h3 : runN sy rs N (nextC sy rs c) with
        | none => rw [h3] at h; cases h
        | some j =>
          rw [h3] at h
          obtain rfl : j + 1 = i := by simpa using h
          exact (ih h3).cons (by simpa using h1) h2
      · cases h
theorem runMachF_len (sy st : Int) (rs : List R3) (q : Int) (xs ys : List Int) (b : Int) : (runMachF sy st rs q xs ys b).1.xs.length ≤ 1048576 ∧ (runMachF sy st rs q xs ys b).1.ys.length ≤ 1048576 := by
  unfold runMachF
  split
  · rename_i h1
    split
    · split
      · rename_i i hi
        have hg : goodC sy st rs (itC sy rs ⟨q, xs, ys⟩ i) := (runN_alive hi).good h1
        have hp := conf_parts hg
        have h2 := hp.2.2.2.2.2.2.2.1
        have h3 := hp.2.2.2.2.2.2.2.2.1
        exact ⟨by show (itC sy rs ⟨q, xs, ys⟩ i).xs.length ≤ _; omega, by show (itC sy rs ⟨q, xs, ys⟩ i).ys.length ≤ _; omega⟩
      · simp
    · simp
  · simp
/-- A configuration in new memory, a number, a Bool and a code. -/
def NewConf4 (w : World) (r : Conf × Int × Bool × Int) (e : Ending) (w' : World) : Prop :=
  ∃ L c R d, e = .returned (.tuple #[.agg #[.int .i64 r.1.q, .slice L r.1.xs.length c, .slice R r.1.ys.length d], .int .i64 r.2.1, .bool r.2.2.1, .int .i64 r.2.2.2]) ∧ Own w' w.heap.size 2 1 L r.1.xs.length c (ints r.1.xs) ∧ Own w' w.heap.size 2 1 R r.1.ys.length d (ints r.1.ys) ∧ (∀ b, blk L = some b → blk R ≠ some b) ∧ Below w.heap.size w w'
theorem newConf4_zero {w wf : World} {k : Int} {r : Conf × Int × Bool × Int} (hr : r = (⟨0, [], []⟩, 0, false, k)) (hz : Below w.heap.size w wf) : NewConf4 w r (.returned (.tuple #[.agg #[.int .i64 0, .slice none 0 0, .slice none 0 0], .int .i64 0, .bool false, .int .i64 k])) wf := by
  subst hr
  exact ⟨none, 0, none, 0, rfl, Own.nil, Own.nil, fun b h => by simp [blk] at h, hz⟩
/-- A result of RunMachine in a box. -/
def ConfBox4 (lo : Nat) (W : World) (s6 s7 s8 s9 : Value) (r : Conf × Int × Bool × Int) (wx : World) : Prop :=
  ∃ g L c R d, s6 = .pointer (some ⟨g, 0, none⟩) ∧ s7 = .int .i64 r.2.1 ∧ s8 = .bool r.2.2.1 ∧ s9 = .int .i64 r.2.2.2 ∧ lo ≤ g ∧ Blk wx g 172 #[.int .i64 r.1.q, .slice L r.1.xs.length c, .slice R r.1.ys.length d] ∧ Own wx lo 2 1 L r.1.xs.length c (ints r.1.xs) ∧ Own wx lo 2 1 R r.1.ys.length d (ints r.1.ys) ∧ (∀ b, blk L = some b → blk R ≠ some b) ∧ Below W.heap.size W wx

set_option maxHeartbeats 4000000 in
theorem specRunMachine_any (sy st : Int) (A : Option Addr) (n k : Nat) (rs : List R3) (q : Int) (B : Option Addr) (m c : Nat) (xs : List Int) (C : Option Addr) (l d : Nat) (ys : List Int) (b : Int) (w : World) (hr : S3 w A n rs) (hx : SI w B m xs) (hy : SI w C l ys) (hn : n ≤ 1048576) (hm : m ≤ 1048576) (hl : l ≤ 1048576) :
    Calls Try.prog 161 #[.agg #[.int .i64 sy, .int .i64 st, .slice A n k], .agg #[.int .i64 q, .slice B m c, .slice C l d], .int .i64 b] w (NewConf4 w (runMachF sy st rs q xs ys b)) := by
  obtain ⟨W, hW_⟩ : ∃ W, W = ((w.alloc (.cells #[.int .i64 sy, .int .i64 st, .slice A n k] 82)).alloc (.cells #[.int .i64 q, .slice B m c, .slice C l d] 172)).alloc (.cells #[.int .i64 0, .slice none 0 0, .slice none 0 0] 172) := ⟨_, rfl⟩
  have s_1 : (w.alloc (.cells #[.int .i64 sy, .int .i64 st, .slice A n k] 82)).heap.size = w.heap.size + 1 := by simp
  have s_2 : ((w.alloc (.cells #[.int .i64 sy, .int .i64 st, .slice A n k] 82)).alloc (.cells #[.int .i64 q, .slice B m c, .slice C l d] 172)).heap.size = w.heap.size + 1 + 1 := by simp
  have b0 : Blk W w.heap.size 82 #[.int .i64 sy, .int .i64 st, .slice A n k] := by rw [hW_]; exact ((Blk.new w _ _).alloc _).alloc _
  have b1 : Blk W (w.heap.size + 1) 172 #[.int .i64 q, .slice B m c, .slice C l d] := by rw [hW_, ← s_1]; exact (Blk.new _ _ _).alloc _
  have b2 : Blk W (w.heap.size + 1 + 1) 172 #[.int .i64 0, .slice none 0 0, .slice none 0 0] := by rw [hW_, ← s_2]; exact Blk.new _ _ _
  have y0 : Below w.heap.size w W := by rw [hW_]; exact (((Below.refl _ _).alloc (Nat.le_refl _) _).alloc (by simp) _).alloc (by simp; omega) _
  have HW := Lib.hid hW_
  clear hW_ s_1 s_2
  have hM := b0.machAt
  have hC := b1.confAt
  obtain rfl : xs.length = m := hx.len
  obtain rfl : ys.length = l := hy.len
  go_enter Try.func161, Try.ntmps161
  go_wp2_with fail
  rw [← HW.out]
  refine (l05Is_any _ _ _ _ _ _ rs _ hM (hr.below y0) hn).mono ?_
  rintro e w2 ⟨rfl, z2⟩
  have y2 := y0.trans (z2.mono y0.size)
  have c2 := b2.below' z2
  have hg2 : w.heap.size + 1 + 1 < w2.heap.size := c2.lt
  have u0 : w2.cell? ⟨(w.heap.size + 1 + 1), 0, none⟩ = some (.int .i64 0) := c2.cell 0
  have u1 : w2.cell? ⟨(w.heap.size + 1 + 1), 1, none⟩ = some (.slice none 0 0) := c2.cell 1
  have u2 : w2.cell? ⟨(w.heap.size + 1 + 1), 2, none⟩ = some (.slice none 0 0) := c2.cell 2
  have f0 := c2.frozen 0
  have f1 := c2.frozen 1
  have f2 := c2.frozen 2
  have hM2 := hM.below z2
  have hC2 := hC.below z2
  cases a0 : machB sy st rs
  · have A0 := Lib.hid a0
    clear a0
    go_wp2_with fail
    have d1 := conf_set c2 (.int .i64 0) (.slice none 0 0) (.slice none 0 0)
    exact bodyPost_ret (v := .tuple #[.agg #[.int .i64 0, .slice none 0 0, .slice none 0 0], .int .i64 0, .bool false, .int .i64 1]) (by simp [results, Try.results161, go_sem, d1.cell 0, d1.cell 1, d1.cell 2]) rfl (newConf4_zero (by unfold runMachF validConfB; rw [A0.out]; rfl) (conf_below y2 (by omega) _ _ _))
  obtain ⟨k1, k2, k3, k4, _, _⟩ := machB_parts a0
  have A0 := Lib.hid a0
  clear a0
  go_wp2_with fail
  refine (l05Good_any _ _ _ _ _ _ _ _ _ _ _ xs _ _ _ ys _ hM2 hC2 (hx.below y2) (hy.below y2) hm hl k1 k2 k3 k4).mono ?_
  rintro e w3' ⟨rfl, nq, rfl⟩
  cases a1 : confB sy st q xs ys
  · have A1 := Lib.hid a1
    clear a1
    go_wp2_with fail
    have d1 := conf_set (c2.drewN nq) (.int .i64 0) (.slice none 0 0) (.slice none 0 0)
    exact bodyPost_ret (v := .tuple #[.agg #[.int .i64 0, .slice none 0 0, .slice none 0 0], .int .i64 0, .bool false, .int .i64 1]) (by simp [results, Try.results161, go_sem, d1.cell 0, d1.cell 1, d1.cell 2]) rfl (newConf4_zero (by unfold runMachF validConfB; rw [A0.out, A1.out]; rfl) (conf_below (below_drewN y2 nq) (by omega) _ _ _))
  have a2 : validConfB sy st rs q xs ys = true := by unfold validConfB; rw [A0.out, a1]; rfl
  have hgc : goodC sy st rs ⟨q, xs, ys⟩ := a2
  have A2 := Lib.hid a2
  clear a1 a2
  have z3 : Below w2.heap.size w2 (w2.drewN nq) := below_drewN (Below.refl _ _) nq
  have y3 : Below w.heap.size w (w2.drewN nq) := below_drewN y2 nq
  have hM3 := hM2.below z3
  have c3 := c2.below' z3
  have c1' := (b1.below' z2).below' z3
  generalize w2.drewN nq = w3 at *
  clear u0 u1 u2 f0 f1 f2
  have u0 : w3.cell? ⟨(w.heap.size + 1 + 1), 0, none⟩ = some (.int .i64 0) := c3.cell 0
  have u1 : w3.cell? ⟨(w.heap.size + 1 + 1), 1, none⟩ = some (.slice none 0 0) := c3.cell 1
  have u2 : w3.cell? ⟨(w.heap.size + 1 + 1), 2, none⟩ = some (.slice none 0 0) := c3.cell 2
  have r0 : w3.cell? ⟨(w.heap.size + 1), 0, none⟩ = some (.int .i64 q) := c1'.cell 0
  have r1 : w3.cell? ⟨(w.heap.size + 1), 1, none⟩ = some (.slice B xs.length c) := c1'.cell 1
  have r2 : w3.cell? ⟨(w.heap.size + 1), 2, none⟩ = some (.slice C ys.length d) := c1'.cell 2
  have f0 := c3.frozen 0
  have f1 := c3.frozen 1
  have f2 := c3.frozen 2
  cases a3 : inB b 1 20000
  · have A3 := Lib.hid a3
    clear a3
    go_wp2_with (go_at_call 73; refine (l05Budget_is A3.out _).mono ?_; rintro e w' ⟨rfl, rfl⟩)
    have d1 := conf_set c3 (.int .i64 0) (.slice none 0 0) (.slice none 0 0)
    exact bodyPost_ret (v := .tuple #[.agg #[.int .i64 0, .slice none 0 0, .slice none 0 0], .int .i64 0, .bool false, .int .i64 2]) (by simp [results, Try.results161, go_sem, d1.cell 0, d1.cell 1, d1.cell 2]) rfl (newConf4_zero (by unfold runMachF; rw [A2.out, A3.out]; rfl) (conf_below y3 (by omega) _ _ _))
  have A3 := Lib.hid a3
  have hb := (inB_iff _ _ _).1 a3
  obtain ⟨N, rfl⟩ : ∃ N : Nat, b = (N : Int) := ⟨b.toNat, by omega⟩
  clear a3
  go_wp2_with (go_at_call 73; refine (l05Budget_is A3.out _).mono ?_; rintro e w' ⟨rfl, rfl⟩)
  refine (l05Run_any _ sy st A n k rs ⟨q, xs, ys⟩ _ _ _ _ N w3 hM3 (hr.below y3) (hx.below y3) (hy.below y3) hgc hn (by omega)).mono ?_
  rintro e w4 ⟨hcase, z4⟩
  have y4 := y3.trans (z4.mono y3.size)
  clear u0 u1 u2 f0 f1 f2 r0 r1 r2
  rcases hcase with ⟨i, hi, L, a, R, d', rfl, oL, oR, hap⟩ | ⟨⟨i, hi⟩, rfl⟩
  · have HF : Hid (runMachF sy st rs q xs ys (N : Int) = (itC sy rs ⟨q, xs, ys⟩ i, (i : Int), haltC sy rs (itC sy rs ⟨q, xs, ys⟩ i), 0)) := Lib.hid (by
      unfold runMachF; rw [A2.out, A3.out, Int.toNat_natCast, runN_ended hi]; rfl)
    have HAP := Lib.hid hap
    clear hap hi
    generalize itC sy rs ⟨q, xs, ys⟩ i = cf at *
    obtain ⟨w5, hW_⟩ : ∃ W_, W_ = w4.alloc (.cells #[.int .i64 cf.q, .slice L cf.xs.length a, .slice R cf.ys.length d'] 172) := ⟨_, rfl⟩
    have b5 : Blk w5 w4.heap.size 172 #[.int .i64 cf.q, .slice L cf.xs.length a, .slice R cf.ys.length d'] := by rw [hW_]; exact Blk.new w4 _ _
    have z5 : Below w4.heap.size w4 w5 := by rw [hW_]; exact (Below.refl _ _).alloc (Nat.le_refl _) _
    have Hw5 := Lib.hid hW_
    clear hW_
    have e5 := (c3.below' z4).below' z5
    have y5 := y4.trans (z5.mono y4.size)
    have hz : w.heap.size + 1 + 1 < w3.heap.size := c3.lt
    have hz4 : w3.heap.size ≤ w4.heap.size := z4.size
    have u0 : w5.cell? ⟨(w.heap.size + 1 + 1), 0, none⟩ = some (.int .i64 0) := e5.cell 0
    have u1 : w5.cell? ⟨(w.heap.size + 1 + 1), 1, none⟩ = some (.slice none 0 0) := e5.cell 1
    have u2 : w5.cell? ⟨(w.heap.size + 1 + 1), 2, none⟩ = some (.slice none 0 0) := e5.cell 2
    have r0 : w5.cell? ⟨w4.heap.size, 0, none⟩ = some (.int .i64 cf.q) := b5.cell 0
    have r1 : w5.cell? ⟨w4.heap.size, 1, none⟩ = some (.slice L cf.xs.length a) := b5.cell 1
    have r2 : w5.cell? ⟨w4.heap.size, 2, none⟩ = some (.slice R cf.ys.length d') := b5.cell 2
    have f0 := e5.frozen 0
    have f1 := e5.frozen 1
    have f2 := e5.frozen 2
    go_upto_region 6 with fail
    rw [← Hw5.out]
    go_wp2_with fail
    have d1 := conf_set e5 (.int .i64 cf.q) (.slice L cf.xs.length a) (.slice R cf.ys.length d')
    refine bodyPost_ret (v := .tuple #[.agg #[.int .i64 cf.q, .slice L cf.xs.length a, .slice R cf.ys.length d'], .int .i64 (i : Int), .bool (haltC sy rs cf), .int .i64 0]) (by simp [results, Try.results161, go_sem, d1.cell 0, d1.cell 1, d1.cell 2]) rfl ?_
    rw [HF.out]
    exact ⟨L, a, R, d', rfl, (conf_far (oL.below z5) (by omega) _ _ _).mono (by omega), (conf_far (oR.below z5) (by omega) _ _ _).mono (by omega), HAP.out, conf_below y5 (by omega) _ _ _⟩
  · have HF : Hid (runMachF sy st rs q xs ys (N : Int) = (⟨0, [], []⟩, 0, false, 5)) := Lib.hid (by
      unfold runMachF; rw [A2.out, A3.out, Int.toNat_natCast, runN_full hi]; rfl)
    clear hi
    obtain ⟨w5, hW_⟩ : ∃ W_, W_ = w4.alloc (.cells #[.int .i64 0, .slice none 0 0, .slice none 0 0] 172) := ⟨_, rfl⟩
    have b5 : Blk w5 w4.heap.size 172 #[.int .i64 0, .slice none 0 0, .slice none 0 0] := by rw [hW_]; exact Blk.new w4 _ _
    have z5 : Below w4.heap.size w4 w5 := by rw [hW_]; exact (Below.refl _ _).alloc (Nat.le_refl _) _
    have Hw5 := Lib.hid hW_
    clear hW_
    have e5 := (c3.below' z4).below' z5
    have y5 := y4.trans (z5.mono y4.size)
    have u0 : w5.cell? ⟨(w.heap.size + 1 + 1), 0, none⟩ = some (.int .i64 0) := e5.cell 0
    have u1 : w5.cell? ⟨(w.heap.size + 1 + 1), 1, none⟩ = some (.slice none 0 0) := e5.cell 1
    have u2 : w5.cell? ⟨(w.heap.size + 1 + 1), 2, none⟩ = some (.slice none 0 0) := e5.cell 2
    have f0 := e5.frozen 0
    have f1 := e5.frozen 1
    have f2 := e5.frozen 2
    go_upto_region 6 with fail
    rw [← Hw5.out]
    go_wp2_with fail
    have d1 := conf_set e5 (.int .i64 0) (.slice none 0 0) (.slice none 0 0)
    exact bodyPost_ret (v := .tuple #[.agg #[.int .i64 0, .slice none 0 0, .slice none 0 0], .int .i64 0, .bool false, .int .i64 5]) (by simp [results, Try.results161, go_sem, d1.cell 0, d1.cell 1, d1.cell 2]) rfl (newConf4_zero HF.out (conf_below y5 (by omega) _ _ _))
end Go.Proofs.Ythipbeggaeogcaa

/-
  Contracts of impl's checks of words and proofs: isLetters, IsWord, areWords, ValidProof, proofOf, afterSteps, CheckHalt.
-/
namespace Go.Proofs.Ythipbeggaeogcaa
open Go.RowKit

/-- A word. -/
def isWordB (xs : List Int) : Bool := decide (xs.length ≤ 400) && allIn xs 0 9
def areWordsB (xss : List (List Int)) : Bool := xss.all isWordB
theorem areWordsB_not (xss : List (List Int)) : (!xss.any (fun xs => !isWordB xs)) = areWordsB xss := by
  unfold areWordsB; rw [List.not_any_eq_all_not]; simp

theorem isLetters_any (A : Option Addr) (n c : Nat) (xs : List Int) (w : World) (hx : SI w A n xs) (hn : n ≤ 9223372036854775807) :
    Calls Try.prog 221 #[.slice A n c] w fun e w' => e = .returned (.bool (allIn xs 0 9)) ∧ w = w' := by
  go_enter Try.func221, Try.ntmps221
  go_wp2_with (go_at_call 103; refine (allWithin_any _ _ _ _ _ _ _ hx hn).mono ?_; rintro e w' ⟨rfl, rfl⟩)
  go_ret
  exact ⟨rfl, rfl⟩
theorem isWord_any (A : Option Addr) (n c : Nat) (xs : List Int) (w : World) (hx : SI w A n xs) (hn : n ≤ 9223372036854775807) :
    Calls Try.prog 203 #[.slice A n c] w fun e w' => e = .returned (.bool (isWordB xs)) ∧ w = w' := by
  have hl := Lib.hid hx.len
  by_cases h3 : n ≤ 400
  · have h4 : (n : Int) ≤ 400 := by omega
    go_enter Try.func203, Try.ntmps203
    go_wp2_with (go_at_call 221; refine (isLetters_any _ _ _ _ _ hx hn).mono ?_; rintro e w' ⟨rfl, rfl⟩)
    go_ret
    exact ⟨ret_bool (by unfold isWordB; rw [hl.out]; simp [h3]), rfl⟩
  · have h4 : ¬ (n : Int) ≤ 400 := by omega
    go_enter Try.func203, Try.ntmps203
    go_wp2
    go_ret
    exact ⟨ret_bool (by unfold isWordB; rw [hl.out]; simp; omega), rfl⟩
set_option maxHeartbeats 400000 in
theorem indexFuncII0_any (A : Option Addr) (n c : Nat) (ts : List Sl) (f : FuncId) (p : List Int → Bool) (w : World) (hx : SII w A n ts) (hn : n ≤ 9223372036854775807) (hcall : ∀ (args : Array Value) (w : World), (callFunc f args).run Try.prog w = .ok (.enter f args) w)
    (hf : Hid (∀ t ∈ ts, Calls Try.prog f #[.slice t.A t.xs.length t.c] w fun e w' => e = .returned (.bool (p t.xs)) ∧ w = w')) :
    Calls Try.prog 217 #[.slice A n c, .func (.func f) #[] #[]] w fun e w' => e = .returned (.int .i64 (firstB p (nums ts))) ∧ w = w' := by
  go_enter Try.func217, Try.ntmps217
  go_wp2
  go_loop [8] (fun i => ∃ k : Nat, k ≤ n ∧ i = .int .i64 k ∧ Hid (((nums ts).take k).any p = false)) (fun i => n - (intOf i).toNat)
  case atStart => exact ⟨0, by omega, rfl, rfl⟩
  case round =>
    obtain ⟨k, hk, rfl, he⟩ := hrel
    by_cases hlt : k < n
    · obtain ⟨t, b, off, hT, htm, rfl, _, hc, hr⟩ := hx.pick hlt
      go_wp2_with fail
      refine (hf.out t htm).mono ?_
      rintro e w' ⟨rfl, rfl⟩
      cases hp : p t.xs
      · have HP := Lib.hid hp
        clear hp
        go_wp2
        exact ⟨⟨k + 1, by omega, by go_num, firstB_next hT.out HP.out he.out⟩, by simp [intOf]; omega⟩
      · have HP := Lib.hid hp
        clear hp
        go_wp2
        go_ret
        exact ⟨ret_int (firstB_at hT.out HP.out he.out), rfl⟩
    · go_wp2
      go_ret
      exact ⟨ret_int (firstB_none (by omega) hx.len he.out), rfl⟩
theorem containsFuncII0_any (A : Option Addr) (n c : Nat) (ts : List Sl) (f : FuncId) (p : List Int → Bool) (w : World) (hx : SII w A n ts) (hn : n ≤ 9223372036854775807) (hcall : ∀ (args : Array Value) (w : World), (callFunc f args).run Try.prog w = .ok (.enter f args) w)
    (hf : Hid (∀ t ∈ ts, Calls Try.prog f #[.slice t.A t.xs.length t.c] w fun e w' => e = .returned (.bool (p t.xs)) ∧ w = w')) :
    Calls Try.prog 194 #[.slice A n c, .func (.func f) #[] #[]] w fun e w' => e = .returned (.bool ((nums ts).any p)) ∧ w = w' := by
  go_enter Try.func194, Try.ntmps194
  go_wp2_with (go_at_call 217; refine (indexFuncII0_any _ _ _ ts _ p _ hx hn hcall hf).mono ?_; rintro e w' ⟨rfl, rfl⟩)
  go_ret
  exact ⟨ret_bool (firstB_ge p (nums ts)), rfl⟩
/-- A valid proof. -/
def validProofB (q : Int) (xs : List Int) (xss : List (List Int)) : Bool := inB q 1 8 && decide (xs.length ≤ 300) && decide (xss.length ≤ 300) && allIn xs (-1000000000000) 1000000000000 && areWordsB xss

/-- A machine and a proof of a kind, with so many numbers and no words. -/
def proofOfB (sy st : Int) (rs : List R3) (q : Int) (xs : List Int) (xss : List (List Int)) (kd : Int) (nn : Nat) : Bool :=
  machB sy st rs && validProofB q xs xss && decide (q = kd) && decide (xs.length = nn) && decide (xss.length = 0)

/-- A runner behind N steps from the blank tape, and whether they can be made. -/
def AfterP (w : World) (sy st : Int) (A : Option Addr) (n k : Nat) (rs : List R3) (N : Nat) (e : Ending) (w' : World) : Prop :=
  ∃ g v, e = .returned (.tuple #[.pointer (some ⟨g, 0, none⟩), .bool v]) ∧ w.heap.size ≤ g ∧ (v = true → Alive sy rs blankC N ∧ RunC (fun _ => False) w' w.heap.size g sy st A n k (itC sy rs blankC N)) ∧ (v = false → ¬ Alive sy rs blankC N) ∧ Below w.heap.size w w'

theorem RunC.lo_mono {X : Nat → Prop} {w : World} {lo lo' g : Nat} {sy st : Int} {A : Option Addr} {n k : Nat} {c : Conf} (h : RunC X w lo g sy st A n k c) (hl : lo' ≤ lo) : RunC X w lo' g sy st A n k c := by
  obtain ⟨L, a, R, d, h1, h2, h3, h4⟩ := h
  exact ⟨L, a, R, d, h1, h2.mono hl, h3.mono hl, h4⟩
theorem Alive.mono {sy : Int} {rs : List R3} {c : Conf} {i j : Nat} (h : Alive sy rs c j) (hij : i ≤ j) : Alive sy rs c i := fun k hk => h k (by omega)
theorem not_alive_ended {sy : Int} {rs : List R3} {c : Conf} {N i : Nat} (h : Ended sy rs c N i) (hne : ¬ i = N) : ¬ Alive sy rs c N := by
  intro ha
  obtain ⟨h1, h2, h3⟩ := h
  rcases h3 with h3 | h3
  · exact hne h3
  · have h4 := (ha i (by omega)).1
    rw [h3] at h4; cases h4
theorem not_alive_full {sy : Int} {rs : List R3} {c : Conf} {N i : Nat} (h : Full sy rs c N i) : ¬ Alive sy rs c N := by
  intro ha
  obtain ⟨h1, h2, h3, h4⟩ := h
  have h5 := (ha i h1).2
  rw [h4] at h5; cases h5

/-- Whether N steps can be made. -/
def aliveB (sy : Int) (rs : List R3) (c : Conf) (N : Nat) : Bool := decide (runN sy rs N c = some N)
theorem aliveB_true {sy : Int} {rs : List R3} {c : Conf} {N : Nat} (h : Alive sy rs c N) : aliveB sy rs c N = true := by
  unfold aliveB; rw [runN_ended ⟨Nat.le_refl _, h, .inl rfl⟩]; simp
theorem aliveB_false {sy : Int} {rs : List R3} {c : Conf} {N : Nat} (h : ¬ Alive sy rs c N) : aliveB sy rs c N = false := by
  unfold aliveB
  rw [decide_eq_false_iff_not]
  exact fun h1 => h (runN_alive h1)
/-- What CheckHalt returns. -/
def checkHaltF (sy st : Int) (rs : List R3) (q : Int) (xs : List Int) (xss : List (List Int)) : Bool :=
  proofOfB sy st rs q xs xss 1 1 && inB (xs.headD 0) 0 20000 && aliveB sy rs blankC (xs.headD 0).toNat && haltC sy rs (itC sy rs blankC (xs.headD 0).toNat)
theorem proofOf_parts {sy st : Int} {rs : List R3} {q : Int} {xs : List Int} {xss : List (List Int)} {kd : Int} {nn : Nat} (h : proofOfB sy st rs q xs xss kd nn = true) : goodC sy st rs blankC ∧ xs.length = nn := by
  unfold proofOfB at h
  simp only [Bool.and_eq_true, decide_eq_true_eq] at h
  exact ⟨by show validConfB sy st rs 0 [] [] = true; rw [blank_good]; exact h.1.1.1.1, h.1.2⟩

end Go.Proofs.Ythipbeggaeogcaa

/-
  Contracts of the reference's checks of words and proofs: l03Is, l03All, l25Is, l25Form, l25Blank, l25Side, l25After, CheckHalt.
-/
namespace Go.Proofs.Ythipbeggaeogcaa
open Go.RowKit

theorem isWord_out {xs : List Int} {k n : Nat} (hk : k < n) (hl : xs.length = n) (h : (!inB (xs[k]'(by omega)) 0 9) = true) : false = isWordB xs := by
  have := allIn_at hk hl h
  unfold isWordB; rw [← this]; simp
theorem isWord_end {xs : List Int} {k n : Nat} (hk : n ≤ k) (hl : xs.length = n) (he : allIn (xs.take k) 0 9 = true) : decide ((n : Int) ≤ 400) = isWordB xs := by
  have := allIn_end hk hl he
  unfold isWordB; rw [← this, hl]; simp; omega

set_option maxHeartbeats 400000 in
theorem l03Is_any (A : Option Addr) (n c : Nat) (xs : List Int) (w : World) (hx : SI w A n xs) (hn : n ≤ 9223372036854775807) :
    Calls Try.prog 196 #[.slice A n c] w fun e w' => e = .returned (.bool (isWordB xs)) ∧ w = w' := by
  go_enter Try.func196, Try.ntmps196
  go_wp2
  go_loop [3] (fun i => ∃ k : Nat, k ≤ n ∧ i = .int .i64 k ∧ Hid (allIn (xs.take k) 0 9 = true)) (fun i => n - (intOf i).toNat)
  case atStart => exact ⟨0, by omega, rfl, rfl⟩
  case round =>
    obtain ⟨k, hk, rfl, he⟩ := hrel
    by_cases hlt : k < n
    · obtain ⟨b, off, rfl, _, hc⟩ := hx.at_ hlt
      go_wp2_with (go_at_call 82; refine (l00In_any _ _ _ _).mono ?_; rintro e w' ⟨rfl, rfl⟩)
      · go_ret
        exact ⟨ret_bool (isWord_out hlt hx.len (by assumption)), rfl⟩
      · exact ⟨⟨k + 1, by omega, by go_num, allIn_next hlt hx.len (by assumption) he.out⟩, by simp [intOf]; omega⟩
    · go_wp2
      go_ret
      exact ⟨ret_bool (isWord_end (by omega) hx.len he.out), rfl⟩

theorem areWords_not {ts : List Sl} {t : Sl} {k : Nat} (hT : ts[k]? = some t) (h : (!isWordB t.xs) = true) : false = areWordsB (nums ts) := by
  symm
  unfold areWordsB; rw [List.all_eq_false]
  exact ⟨t.xs, by simp only [nums, List.mem_map]; exact ⟨t, List.mem_of_getElem? hT, rfl⟩, by simpa using h⟩
theorem areWords_next {ts : List Sl} {t : Sl} {k : Nat} (hT : ts[k]? = some t) (h : (!isWordB t.xs) = false) (he : areWordsB ((nums ts).take k) = true) : areWordsB ((nums ts).take (k + 1)) = true := by
  obtain ⟨hk, rfl⟩ := List.getElem?_eq_some_iff.1 hT
  unfold areWordsB at he ⊢
  rw [List.take_succ_eq_append_getElem (by simpa [nums] using hk), List.all_append, he]
  simpa [nums] using h
theorem areWords_end {ts : List Sl} {k n : Nat} (hk : n ≤ k) (hl : ts.length = n) (he : areWordsB ((nums ts).take k) = true) : true = areWordsB (nums ts) := by
  rw [List.take_of_length_le (by simp [nums]; omega)] at he; exact he.symm

/-- A proof behind a pointer. -/
def PrfAt (w : World) (g : Nat) (q : Int) (A : Option Addr) (n c : Nat) (B : Option Addr) (m d : Nat) : Prop :=
  w.cell? ⟨g, 0, none⟩ = some (.int .i64 q) ∧ w.cell? ⟨g, 1, none⟩ = some (.slice A n c) ∧ w.cell? ⟨g, 2, none⟩ = some (.slice B m d)
theorem PrfAt.below {w w' : World} {g : Nat} {q : Int} {A : Option Addr} {n c : Nat} {B : Option Addr} {m d : Nat} (h : PrfAt w g q A n c B m d) (hb : Below w.heap.size w w') : PrfAt w' g q A n c B m d := by
  have hlt : g < w.heap.size := World.block_lt_of_cell? w _ h.1
  exact ⟨(hb.cell (p := ⟨g, 0, none⟩) hlt).trans h.1, (hb.cell (p := ⟨g, 1, none⟩) hlt).trans h.2.1, (hb.cell (p := ⟨g, 2, none⟩) hlt).trans h.2.2⟩
theorem Blk.prfAt {w : World} {g : Nat} {t : TypeId} {q : Int} {A : Option Addr} {n c : Nat} {B : Option Addr} {m d : Nat} (h : Blk w g t #[.int .i64 q, .slice A n c, .slice B m d]) : PrfAt w g q A n c B m d := ⟨h.cell 0, h.cell 1, h.cell 2⟩

def formB (q : Int) (xs : List Int) (xss : List (List Int)) (kd : Int) (nn : Nat) : Bool := validProofB q xs xss && decide (q = kd) && decide (xs.length = nn) && decide (xss.length = 0)
theorem formB_eq (sy st : Int) (rs : List R3) (q : Int) (xs : List Int) (xss : List (List Int)) (kd : Int) (nn : Nat) : proofOfB sy st rs q xs xss kd nn = (machB sy st rs && formB q xs xss kd nn) := by
  unfold proofOfB formB; simp only [Bool.and_assoc]

set_option maxHeartbeats 1000000 in
theorem l25Blank_any (w : World) : Calls Try.prog 137 #[] w (NewConf w 0 [] []) := by
  obtain ⟨C, hC⟩ : ∃ C : Obj, C = .cells #[.int .i64 0, .slice (some ⟨w.heap.size + 1, 0, none⟩) 0 0, .slice (some ⟨w.heap.size + 1 + 1, 0, none⟩) 0 0] 172 := ⟨_, rfl⟩
  have s1 : (w.alloc C).heap.size = w.heap.size + 1 := by simp
  have s2 : ((w.alloc C).alloc (.cells #[] 2)).heap.size = w.heap.size + 1 + 1 := by simp
  have o1 := (Own.lit (w.alloc C) #[] 2 0 1 w.heap.size (by simp) (by simp [maxLen]) (by simp)).alloc (.cells #[] 2)
  have o2 := Own.lit ((w.alloc C).alloc (.cells #[] 2)) #[] 2 0 1 w.heap.size (by simp) (by simp [maxLen]) (by simp; omega)
  rw [s1] at o1
  rw [s2] at o2
  have d : Blk (((w.alloc C).alloc (.cells #[] 2)).alloc (.cells #[] 2)) w.heap.size 172 #[.int .i64 0, .slice (some ⟨w.heap.size + 1, 0, none⟩) 0 0, .slice (some ⟨w.heap.size + 1 + 1, 0, none⟩) 0 0] := by rw [hC]; exact ((Blk.new w _ _).alloc _).alloc _
  have y : Below w.heap.size w (((w.alloc C).alloc (.cells #[] 2)).alloc (.cells #[] 2)) := (((Below.refl _ _).alloc (Nat.le_refl _) _).alloc (by simp) _).alloc (by simp; omega) _
  have HC := Lib.hid hC
  clear hC s1 s2
  go_enter Try.func137, Try.ntmps137
  go_wp2_with fail
  rw [← HC.out]
  generalize ((w.alloc C).alloc (.cells #[] 2)).alloc (.cells #[] 2) = wf at *
  have q0 : wf.cell? ⟨w.heap.size, 0, none⟩ = some (.int .i64 0) := d.cell 0
  have q1 : wf.cell? ⟨w.heap.size, 1, none⟩ = some (.slice (some ⟨w.heap.size + 1, 0, none⟩) 0 0) := d.cell 1
  have q2 : wf.cell? ⟨w.heap.size, 2, none⟩ = some (.slice (some ⟨w.heap.size + 1 + 1, 0, none⟩) 0 0) := d.cell 2
  exact bodyPost_ret (v := .agg #[.int .i64 0, .slice (some ⟨w.heap.size + 1, 0, none⟩) 0 0, .slice (some ⟨w.heap.size + 1 + 1, 0, none⟩) 0 0]) (by simp [results, Try.results137, go_sem, q0, q1, q2]) rfl ⟨_, 0, _, 0, rfl, o1, o2, fun b h1 h2 => by simp [blk] at h1 h2; omega, y⟩

set_option maxHeartbeats 2000000 in
theorem l25Side_c {w : World} {g : Nat} {sy st : Int} {A : Option Addr} {n k : Nat} {rs : List R3} {f lo : Nat} {c : Conf} (hm : MachAt w g sy st A n k) (hrs : S3 w A n rs) (hc : ConfC w lo f c) (hg : goodC sy st rs c) (_hn : n ≤ 1048576) :
    Calls Try.prog 139 #[.pointer (some ⟨g, 0, none⟩), .pointer (some ⟨f, 0, none⟩)] w fun e w' => e = .returned (.int .i64 (ruleOf sy rs c.q c.ys).b) ∧ ∃ nq, w' = w.drewN nq := by
  obtain ⟨p1, p2, p3, p4, p5, p6, p7, p8, p9, p10, p11, p12⟩ := conf_parts hg
  have hys : ∀ y ∈ c.ys.reverse, 0 ≤ y ∧ y ≤ sy - 1 := fun y hy' => p11 y (List.mem_reverse.mp hy')
  have hrl : rs.length = n := hrs.len
  obtain ⟨i1, i2, i3, i4, idx, i5, i6⟩ := at_parts (n := n) p1 p2 p3 p4 (by rw [← hrl]; exact p5) p6 p7 hys
  have ir : rs[idx]? = some (ruleOf sy rs c.q c.ys) := ruleOf_get i5 (by rw [hrl]; exact i6)
  obtain ⟨q0, q1, q2⟩ := id hm
  obtain ⟨r', b, off, hr', _, rfl, hbl, c0, c1, c2⟩ := hrs.pick i6
  obtain rfl : ruleOf sy rs c.q c.ys = r' := by have e2 := hr'.out; rw [ir] at e2; simpa using e2
  have j1 : (0 : Int) ≤ (idx : Int) := by omega
  have j2 : (idx : Int) < (n : Int) := by omega
  have I5 := Lib.hid i5
  have HAT : Hid (∀ q, Calls Try.prog 175 #[.pointer (some ⟨g, 0, none⟩), .pointer (some ⟨f, 0, none⟩)] (w.drewN q) fun e w' => e = .returned (.int .i64 (idx : Int)) ∧ ∃ nq, w' = (w.drewN q).drewN nq) := fun q => by
    rw [← i5]; exact l05At_c (hm.drewN q) (hc.drewN q) hg
  clear p5 p10 p11 p12 hys i5 ir hrl
  go_enter Try.func139, Try.ntmps139
  go_wp2_with fail
  go_quiet ((go_at_call 175; exact quiet_1 (HAT.out _)))
  go_wp2_with fail
  go_ret
  exact ⟨rfl, _, rfl⟩
/-- The configuration behind N steps, and whether they can be made. -/
def AfterS (w : World) (sy : Int) (rs : List R3) (c : Conf) (N : Nat) (e : Ending) (w' : World) : Prop :=
  ∃ (v : Bool) (x : Int) (cf : Conf) (L : Option Addr) (a : Nat) (R : Option Addr) (d : Nat), e = .returned (.tuple #[.agg #[.int .i64 cf.q, .slice L cf.xs.length a, .slice R cf.ys.length d], .int .i64 x, .bool v]) ∧ (v = true → Alive sy rs c N ∧ cf = itC sy rs c N) ∧ (v = false → ¬ Alive sy rs c N) ∧
    Own w' w.heap.size 2 1 L cf.xs.length a (ints cf.xs) ∧ Own w' w.heap.size 2 1 R cf.ys.length d (ints cf.ys) ∧ (∀ b, blk L = some b → blk R ≠ some b) ∧ Below w.heap.size w w'
theorem not_alive_halt {sy : Int} {rs : List R3} {c : Conf} {N i : Nat} (h : i < N) (hh : haltC sy rs (itC sy rs c i) = true) : ¬ Alive sy rs c N := fun ha => by
  have := (ha i h).1; rw [hh] at this; cases this
theorem not_alive_room {sy : Int} {rs : List R3} {c : Conf} {N i : Nat} (h : i < N) (hh : roomC (nextC sy rs (itC sy rs c i)) = false) : ¬ Alive sy rs c N := fun ha => by
  have h1 : roomC (nextC sy rs (itC sy rs c i)) = true := (ha i h).2
  rw [hh] at h1; cases h1

/-- What l25After returned, in a box. -/
def AfterBox (W : World) (sy : Int) (rs : List R3) (N : Nat) (s5 s6 s7 : Value) (wx : World) : Prop :=
  ∃ g v x cf, s5 = .pointer (some ⟨g, 0, none⟩) ∧ s6 = .int .i64 x ∧ s7 = .bool v ∧ ConfC wx W.heap.size g cf ∧ (v = true → Alive sy rs blankC N ∧ cf = itC sy rs blankC N) ∧ (v = false → ¬ Alive sy rs blankC N) ∧ Below W.heap.size W wx
theorem MachAt.alloc {w : World} {g : Nat} {sy st : Int} {A : Option Addr} {n k : Nat} (h : MachAt w g sy st A n k) (o : Obj) : MachAt (w.alloc o) g sy st A n k := h.below ((Below.refl _ _).alloc (Nat.le_refl _) o)
theorem ConfC.new {W w : World} {q : Int} {xs ys : List Int} {L R : Option Addr} {a d : Nat} (oL : Own w W.heap.size 2 1 L xs.length a (ints xs)) (oR : Own w W.heap.size 2 1 R ys.length d (ints ys)) (hap : ∀ b, blk L = some b → blk R ≠ some b) :
    ConfC (w.alloc (.cells #[.int .i64 q, .slice L xs.length a, .slice R ys.length d] 172)) W.heap.size w.heap.size ⟨q, xs, ys⟩ := ⟨L, a, R, d, Blk.new w _ _, oL.alloc _, oR.alloc _, hap⟩

end Go.Proofs.Ythipbeggaeogcaa
