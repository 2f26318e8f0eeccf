/-
  Contracts of impl.RunMachine and spec.RunMachine: both return what runMachF says.
-/
import Derived.Test.YthipbeggaeogcaaRunU
import Derived.Test.YthipbeggaeogcaaRunT
import Derived.Test.YthipbeggaeogcaaNodeS
import Derived.Test.YthipbeggaeogcaaHelpCB
namespace Go.Proofs.Ythipbeggaeogcaa
open Go.RowKit

/-- What RunMachine returns. -/
def runMachF (sy st : Int) (rs : List R3) (q : Int) (xs ys : List Int) (b : Int) : Conf × Int × Bool × Int :=
  if validConfB sy st rs q xs ys then
    if inB b 1 20000 then
      match runN sy rs b.toNat ⟨q, xs, ys⟩ with
      | some i => (itC sy rs ⟨q, xs, ys⟩ i, (i : Int), haltC sy rs (itC sy rs ⟨q, xs, ys⟩ i), 0)
      | none => (⟨0, [], []⟩, 0, false, 5)
    else (⟨0, [], []⟩, 0, false, 2)
  else (⟨0, [], []⟩, 0, false, 1)
theorem Alive.cons {sy : Int} {rs : List R3} {c : Conf} {i : Nat} (h1 : haltC sy rs c = false) (h2 : roomC (nextC sy rs c) = true) (h : Alive sy rs (nextC sy rs c) i) : Alive sy rs c (i + 1) := fun j hj => by
  cases j with
  | zero => exact ⟨h1, h2⟩
  | succ j =>
    have h3 := h j (by omega)
    rw [itC_shift, itC_shift] at h3
    exact h3
theorem runN_alive {sy : Int} {rs : List R3} : ∀ {N : Nat} {c : Conf} {i : Nat}, runN sy rs N c = some i → Alive sy rs c i := by
  intro N
  induction N with
  | zero => intro c i h; unfold runN at h; cases h; exact Alive.zero _ _ _
  | succ N ih =>
    intro c i h
    unfold runN at h
    split at h
    · cases h; exact Alive.zero _ _ _
    · rename_i h1
      split at h
      · rename_i h2
        cases h3 : runN sy rs N (nextC sy rs c) with
        | none => rw [h3] at h; cases h
        | some j =>
          rw [h3] at h
          obtain rfl : j + 1 = i := by simpa using h
          exact (ih h3).cons (by simpa using h1) h2
      · cases h
theorem runMachF_len (sy st : Int) (rs : List R3) (q : Int) (xs ys : List Int) (b : Int) : (runMachF sy st rs q xs ys b).1.xs.length ≤ 1048576 ∧ (runMachF sy st rs q xs ys b).1.ys.length ≤ 1048576 := by
  unfold runMachF
  split
  · rename_i h1
    split
    · split
      · rename_i i hi
        have hg : goodC sy st rs (itC sy rs ⟨q, xs, ys⟩ i) := (runN_alive hi).good h1
        have hp := conf_parts hg
        have h2 := hp.2.2.2.2.2.2.2.1
        have h3 := hp.2.2.2.2.2.2.2.2.1
        exact ⟨by show (itC sy rs ⟨q, xs, ys⟩ i).xs.length ≤ _; omega, by show (itC sy rs ⟨q, xs, ys⟩ i).ys.length ≤ _; omega⟩
      · simp
    · simp
  · simp
/-- A configuration in new memory, a number, a Bool and a code. -/
def NewConf4 (w : World) (r : Conf × Int × Bool × Int) (e : Ending) (w' : World) : Prop :=
  ∃ L c R d, e = .returned (.tuple #[.agg #[.int .i64 r.1.q, .slice L r.1.xs.length c, .slice R r.1.ys.length d], .int .i64 r.2.1, .bool r.2.2.1, .int .i64 r.2.2.2]) ∧ Own w' w.heap.size 2 1 L r.1.xs.length c (ints r.1.xs) ∧ Own w' w.heap.size 2 1 R r.1.ys.length d (ints r.1.ys) ∧ (∀ b, blk L = some b → blk R ≠ some b) ∧ Below w.heap.size w w'
theorem newConf4_zero {w wf : World} {k : Int} {r : Conf × Int × Bool × Int} (hr : r = (⟨0, [], []⟩, 0, false, k)) (hz : Below w.heap.size w wf) : NewConf4 w r (.returned (.tuple #[.agg #[.int .i64 0, .slice none 0 0, .slice none 0 0], .int .i64 0, .bool false, .int .i64 k])) wf := by
  subst hr
  exact ⟨none, 0, none, 0, rfl, Own.nil, Own.nil, fun b h => by simp [blk] at h, hz⟩
/-- A result of RunMachine in a box. -/
def ConfBox4 (lo : Nat) (W : World) (s6 s7 s8 s9 : Value) (r : Conf × Int × Bool × Int) (wx : World) : Prop :=
  ∃ g L c R d, s6 = .pointer (some ⟨g, 0, none⟩) ∧ s7 = .int .i64 r.2.1 ∧ s8 = .bool r.2.2.1 ∧ s9 = .int .i64 r.2.2.2 ∧ lo ≤ g ∧ Blk wx g 172 #[.int .i64 r.1.q, .slice L r.1.xs.length c, .slice R r.1.ys.length d] ∧ Own wx lo 2 1 L r.1.xs.length c (ints r.1.xs) ∧ Own wx lo 2 1 R r.1.ys.length d (ints r.1.ys) ∧ (∀ b, blk L = some b → blk R ≠ some b) ∧ Below W.heap.size W wx

set_option maxHeartbeats 4000000 in
theorem specRunMachine_any (sy st : Int) (A : Option Addr) (n k : Nat) (rs : List R3) (q : Int) (B : Option Addr) (m c : Nat) (xs : List Int) (C : Option Addr) (l d : Nat) (ys : List Int) (b : Int) (w : World) (hr : S3 w A n rs) (hx : SI w B m xs) (hy : SI w C l ys) (hn : n ≤ 1048576) (hm : m ≤ 1048576) (hl : l ≤ 1048576) :
    Calls Try.prog 161 #[.agg #[.int .i64 sy, .int .i64 st, .slice A n k], .agg #[.int .i64 q, .slice B m c, .slice C l d], .int .i64 b] w (NewConf4 w (runMachF sy st rs q xs ys b)) := by
  obtain ⟨W, hW_⟩ : ∃ W, W = ((w.alloc (.cells #[.int .i64 sy, .int .i64 st, .slice A n k] 82)).alloc (.cells #[.int .i64 q, .slice B m c, .slice C l d] 172)).alloc (.cells #[.int .i64 0, .slice none 0 0, .slice none 0 0] 172) := ⟨_, rfl⟩
  have s_1 : (w.alloc (.cells #[.int .i64 sy, .int .i64 st, .slice A n k] 82)).heap.size = w.heap.size + 1 := by simp
  have s_2 : ((w.alloc (.cells #[.int .i64 sy, .int .i64 st, .slice A n k] 82)).alloc (.cells #[.int .i64 q, .slice B m c, .slice C l d] 172)).heap.size = w.heap.size + 1 + 1 := by simp
  have b0 : Blk W w.heap.size 82 #[.int .i64 sy, .int .i64 st, .slice A n k] := by rw [hW_]; exact ((Blk.new w _ _).alloc _).alloc _
  have b1 : Blk W (w.heap.size + 1) 172 #[.int .i64 q, .slice B m c, .slice C l d] := by rw [hW_, ← s_1]; exact (Blk.new _ _ _).alloc _
  have b2 : Blk W (w.heap.size + 1 + 1) 172 #[.int .i64 0, .slice none 0 0, .slice none 0 0] := by rw [hW_, ← s_2]; exact Blk.new _ _ _
  have y0 : Below w.heap.size w W := by rw [hW_]; exact (((Below.refl _ _).alloc (Nat.le_refl _) _).alloc (by simp) _).alloc (by simp; omega) _
  have HW := Lib.hid hW_
  clear hW_ s_1 s_2
  have hM := b0.machAt
  have hC := b1.confAt
  obtain rfl : xs.length = m := hx.len
  obtain rfl : ys.length = l := hy.len
  go_enter Try.func161, Try.ntmps161
  go_wp2_with fail
  rw [← HW.out]
  refine (l05Is_any _ _ _ _ _ _ rs _ hM (hr.below y0) hn).mono ?_
  rintro e w2 ⟨rfl, z2⟩
  have y2 := y0.trans (z2.mono y0.size)
  have c2 := b2.below' z2
  have hg2 : w.heap.size + 1 + 1 < w2.heap.size := c2.lt
  have u0 : w2.cell? ⟨(w.heap.size + 1 + 1), 0, none⟩ = some (.int .i64 0) := c2.cell 0
  have u1 : w2.cell? ⟨(w.heap.size + 1 + 1), 1, none⟩ = some (.slice none 0 0) := c2.cell 1
  have u2 : w2.cell? ⟨(w.heap.size + 1 + 1), 2, none⟩ = some (.slice none 0 0) := c2.cell 2
  have f0 := c2.frozen 0
  have f1 := c2.frozen 1
  have f2 := c2.frozen 2
  have hM2 := hM.below z2
  have hC2 := hC.below z2
  cases a0 : machB sy st rs
  · have A0 := Lib.hid a0
    clear a0
    go_wp2_with fail
    have d1 := conf_set c2 (.int .i64 0) (.slice none 0 0) (.slice none 0 0)
    exact bodyPost_ret (v := .tuple #[.agg #[.int .i64 0, .slice none 0 0, .slice none 0 0], .int .i64 0, .bool false, .int .i64 1]) (by simp [results, Try.results161, go_sem, d1.cell 0, d1.cell 1, d1.cell 2]) rfl (newConf4_zero (by unfold runMachF validConfB; rw [A0.out]; rfl) (conf_below y2 (by omega) _ _ _))
  obtain ⟨k1, k2, k3, k4, _, _⟩ := machB_parts a0
  have A0 := Lib.hid a0
  clear a0
  go_wp2_with fail
  refine (l05Good_any _ _ _ _ _ _ _ _ _ _ _ xs _ _ _ ys _ hM2 hC2 (hx.below y2) (hy.below y2) hm hl k1 k2 k3 k4).mono ?_
  rintro e w3' ⟨rfl, nq, rfl⟩
  cases a1 : confB sy st q xs ys
  · have A1 := Lib.hid a1
    clear a1
    go_wp2_with fail
    have d1 := conf_set (c2.drewN nq) (.int .i64 0) (.slice none 0 0) (.slice none 0 0)
    exact bodyPost_ret (v := .tuple #[.agg #[.int .i64 0, .slice none 0 0, .slice none 0 0], .int .i64 0, .bool false, .int .i64 1]) (by simp [results, Try.results161, go_sem, d1.cell 0, d1.cell 1, d1.cell 2]) rfl (newConf4_zero (by unfold runMachF validConfB; rw [A0.out, A1.out]; rfl) (conf_below (below_drewN y2 nq) (by omega) _ _ _))
  have a2 : validConfB sy st rs q xs ys = true := by unfold validConfB; rw [A0.out, a1]; rfl
  have hgc : goodC sy st rs ⟨q, xs, ys⟩ := a2
  have A2 := Lib.hid a2
  clear a1 a2
  have z3 : Below w2.heap.size w2 (w2.drewN nq) := below_drewN (Below.refl _ _) nq
  have y3 : Below w.heap.size w (w2.drewN nq) := below_drewN y2 nq
  have hM3 := hM2.below z3
  have c3 := c2.below' z3
  have c1' := (b1.below' z2).below' z3
  generalize w2.drewN nq = w3 at *
  clear u0 u1 u2 f0 f1 f2
  have u0 : w3.cell? ⟨(w.heap.size + 1 + 1), 0, none⟩ = some (.int .i64 0) := c3.cell 0
  have u1 : w3.cell? ⟨(w.heap.size + 1 + 1), 1, none⟩ = some (.slice none 0 0) := c3.cell 1
  have u2 : w3.cell? ⟨(w.heap.size + 1 + 1), 2, none⟩ = some (.slice none 0 0) := c3.cell 2
  have r0 : w3.cell? ⟨(w.heap.size + 1), 0, none⟩ = some (.int .i64 q) := c1'.cell 0
  have r1 : w3.cell? ⟨(w.heap.size + 1), 1, none⟩ = some (.slice B xs.length c) := c1'.cell 1
  have r2 : w3.cell? ⟨(w.heap.size + 1), 2, none⟩ = some (.slice C ys.length d) := c1'.cell 2
  have f0 := c3.frozen 0
  have f1 := c3.frozen 1
  have f2 := c3.frozen 2
  cases a3 : inB b 1 20000
  · have A3 := Lib.hid a3
    clear a3
    go_wp2_with (go_at_call 73; refine (l05Budget_is A3.out _).mono ?_; rintro e w' ⟨rfl, rfl⟩)
    have d1 := conf_set c3 (.int .i64 0) (.slice none 0 0) (.slice none 0 0)
    exact bodyPost_ret (v := .tuple #[.agg #[.int .i64 0, .slice none 0 0, .slice none 0 0], .int .i64 0, .bool false, .int .i64 2]) (by simp [results, Try.results161, go_sem, d1.cell 0, d1.cell 1, d1.cell 2]) rfl (newConf4_zero (by unfold runMachF; rw [A2.out, A3.out]; rfl) (conf_below y3 (by omega) _ _ _))
  have A3 := Lib.hid a3
  have hb := (inB_iff _ _ _).1 a3
  obtain ⟨N, rfl⟩ : ∃ N : Nat, b = (N : Int) := ⟨b.toNat, by omega⟩
  clear a3
  go_wp2_with (go_at_call 73; refine (l05Budget_is A3.out _).mono ?_; rintro e w' ⟨rfl, rfl⟩)
  refine (l05Run_any _ sy st A n k rs ⟨q, xs, ys⟩ _ _ _ _ N w3 hM3 (hr.below y3) (hx.below y3) (hy.below y3) hgc hn (by omega)).mono ?_
  rintro e w4 ⟨hcase, z4⟩
  have y4 := y3.trans (z4.mono y3.size)
  clear u0 u1 u2 f0 f1 f2 r0 r1 r2
  rcases hcase with ⟨i, hi, L, a, R, d', rfl, oL, oR, hap⟩ | ⟨⟨i, hi⟩, rfl⟩
  · have HF : Hid (runMachF sy st rs q xs ys (N : Int) = (itC sy rs ⟨q, xs, ys⟩ i, (i : Int), haltC sy rs (itC sy rs ⟨q, xs, ys⟩ i), 0)) := Lib.hid (by
      unfold runMachF; rw [A2.out, A3.out, Int.toNat_natCast, runN_ended hi]; rfl)
    have HAP := Lib.hid hap
    clear hap hi
    generalize itC sy rs ⟨q, xs, ys⟩ i = cf at *
    obtain ⟨w5, hW_⟩ : ∃ W_, W_ = w4.alloc (.cells #[.int .i64 cf.q, .slice L cf.xs.length a, .slice R cf.ys.length d'] 172) := ⟨_, rfl⟩
    have b5 : Blk w5 w4.heap.size 172 #[.int .i64 cf.q, .slice L cf.xs.length a, .slice R cf.ys.length d'] := by rw [hW_]; exact Blk.new w4 _ _
    have z5 : Below w4.heap.size w4 w5 := by rw [hW_]; exact (Below.refl _ _).alloc (Nat.le_refl _) _
    have Hw5 := Lib.hid hW_
    clear hW_
    have e5 := (c3.below' z4).below' z5
    have y5 := y4.trans (z5.mono y4.size)
    have hz : w.heap.size + 1 + 1 < w3.heap.size := c3.lt
    have hz4 : w3.heap.size ≤ w4.heap.size := z4.size
    have u0 : w5.cell? ⟨(w.heap.size + 1 + 1), 0, none⟩ = some (.int .i64 0) := e5.cell 0
    have u1 : w5.cell? ⟨(w.heap.size + 1 + 1), 1, none⟩ = some (.slice none 0 0) := e5.cell 1
    have u2 : w5.cell? ⟨(w.heap.size + 1 + 1), 2, none⟩ = some (.slice none 0 0) := e5.cell 2
    have r0 : w5.cell? ⟨w4.heap.size, 0, none⟩ = some (.int .i64 cf.q) := b5.cell 0
    have r1 : w5.cell? ⟨w4.heap.size, 1, none⟩ = some (.slice L cf.xs.length a) := b5.cell 1
    have r2 : w5.cell? ⟨w4.heap.size, 2, none⟩ = some (.slice R cf.ys.length d') := b5.cell 2
    have f0 := e5.frozen 0
    have f1 := e5.frozen 1
    have f2 := e5.frozen 2
    go_upto_region 6 with fail
    rw [← Hw5.out]
    go_wp2_with fail
    have d1 := conf_set e5 (.int .i64 cf.q) (.slice L cf.xs.length a) (.slice R cf.ys.length d')
    refine bodyPost_ret (v := .tuple #[.agg #[.int .i64 cf.q, .slice L cf.xs.length a, .slice R cf.ys.length d'], .int .i64 (i : Int), .bool (haltC sy rs cf), .int .i64 0]) (by simp [results, Try.results161, go_sem, d1.cell 0, d1.cell 1, d1.cell 2]) rfl ?_
    rw [HF.out]
    exact ⟨L, a, R, d', rfl, (conf_far (oL.below z5) (by omega) _ _ _).mono (by omega), (conf_far (oR.below z5) (by omega) _ _ _).mono (by omega), HAP.out, conf_below y5 (by omega) _ _ _⟩
  · have HF : Hid (runMachF sy st rs q xs ys (N : Int) = (⟨0, [], []⟩, 0, false, 5)) := Lib.hid (by
      unfold runMachF; rw [A2.out, A3.out, Int.toNat_natCast, runN_full hi]; rfl)
    clear hi
    obtain ⟨w5, hW_⟩ : ∃ W_, W_ = w4.alloc (.cells #[.int .i64 0, .slice none 0 0, .slice none 0 0] 172) := ⟨_, rfl⟩
    have b5 : Blk w5 w4.heap.size 172 #[.int .i64 0, .slice none 0 0, .slice none 0 0] := by rw [hW_]; exact Blk.new w4 _ _
    have z5 : Below w4.heap.size w4 w5 := by rw [hW_]; exact (Below.refl _ _).alloc (Nat.le_refl _) _
    have Hw5 := Lib.hid hW_
    clear hW_
    have e5 := (c3.below' z4).below' z5
    have y5 := y4.trans (z5.mono y4.size)
    have u0 : w5.cell? ⟨(w.heap.size + 1 + 1), 0, none⟩ = some (.int .i64 0) := e5.cell 0
    have u1 : w5.cell? ⟨(w.heap.size + 1 + 1), 1, none⟩ = some (.slice none 0 0) := e5.cell 1
    have u2 : w5.cell? ⟨(w.heap.size + 1 + 1), 2, none⟩ = some (.slice none 0 0) := e5.cell 2
    have f0 := e5.frozen 0
    have f1 := e5.frozen 1
    have f2 := e5.frozen 2
    go_upto_region 6 with fail
    rw [← Hw5.out]
    go_wp2_with fail
    have d1 := conf_set e5 (.int .i64 0) (.slice none 0 0) (.slice none 0 0)
    exact bodyPost_ret (v := .tuple #[.agg #[.int .i64 0, .slice none 0 0, .slice none 0 0], .int .i64 0, .bool false, .int .i64 5]) (by simp [results, Try.results161, go_sem, d1.cell 0, d1.cell 1, d1.cell 2]) rfl (newConf4_zero HF.out (conf_below y5 (by omega) _ _ _))
end Go.Proofs.Ythipbeggaeogcaa
