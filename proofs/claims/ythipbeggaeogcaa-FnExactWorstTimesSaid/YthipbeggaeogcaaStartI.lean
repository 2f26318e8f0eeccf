/-
  Contracts of impl.StartConfig and spec.StartConfig: both return what startF says.
-/
import Derived.Test.YthipbeggaeogcaaProofS
namespace Go.Proofs.Ythipbeggaeogcaa
open Go.RowKit

/-- What StartConfig returns. -/
def startF (sy st : Int) (rs : List R3) (xs : List Int) : Conf × Int :=
  if machB sy st rs && isWordB xs then
    if allIn xs 0 (sy - 1) then
      if (trimI xs).length ≤ 200 then (⟨0, [], trimI xs⟩, 0) else (⟨0, [], []⟩, 5)
    else (⟨0, [], []⟩, 2)
  else (⟨0, [], []⟩, 1)
theorem trim_take (xs : List Int) : ∃ k, k ≤ xs.length ∧ trimI xs = xs.take k := by
  unfold trimI
  have h : (xs.reverse.dropWhile (· == 0)) <:+ xs.reverse := List.dropWhile_suffix _
  obtain ⟨t, ht⟩ := h
  refine ⟨(xs.reverse.dropWhile (· == 0)).length, ?_, ?_⟩
  · have := congrArg List.length ht; simp at this; omega
  · have h2 : xs = (xs.reverse.dropWhile (· == 0)).reverse ++ t.reverse := by
      have := congrArg List.reverse ht
      simpa using this.symm
    conv => rhs; arg 2; rw [h2]
    rw [List.take_left' (by simp)]

set_option maxHeartbeats 1000000 in
theorem trimmed_any (A : Option Addr) (n c : Nat) (xs : List Int) (w : World) (hx : SI w A n xs) (hn : n ≤ 1048576) (hcap : n ≤ c) :
    Calls Try.prog 204 #[.slice A n c] w fun e w' => e = .returned (.slice A (trimI xs).length c) ∧ w = w' := by
  have HL := Lib.hid hx.len
  go_enter Try.func204, Try.ntmps204
  go_wp2
  go_loop [0] (fun s => ∃ k : Nat, k ≤ n ∧ s = .slice A k c ∧ Hid (trimI (xs.take k) = trimI xs)) (fun s => match s with | .slice _ k _ => k | _ => 0)
  case atStart => exact ⟨n, by omega, rfl, by show _ = _; rw [List.take_of_length_le (by rw [HL.out]; omega)]⟩
  case round =>
    obtain ⟨k, hk, rfl, he⟩ := hrel
    by_cases hk0 : 0 < k
    · obtain ⟨b, off, rfl, _, hc0⟩ := hx.at_ (k := k - 1) (by omega)
      have hnth : xs[k - 1]'(by rw [HL.out]; omega) = nth xs (k - 1) := (nth_eq xs (k - 1) (by rw [HL.out]; omega)).symm
      rw [hnth] at hc0
      clear hnth
      have i0 : decide ((0 : Int) < (k : Int)) = true := by simp; omega
      have i1 : (0 : Int) ≤ (k : Int) - 1 := by omega
      have i2 : ((k : Int) - 1).toNat = k - 1 := by omega
      have i3 : (k : Int) - 1 < (k : Int) := by omega
      have i4 : (k : Int) - 1 ≤ (c : Int) := by omega
      cases hz : (nth xs (k - 1) == 0)
      · have HZ := Lib.hid (trim_stop hk0 (by rw [HL.out]; omega) hz he.out)
        go_wp2
        go_ret
        exact ⟨ret_slice (by rw [← HZ.out, List.length_take, HL.out]; omega), rfl⟩
      · have HZ := Lib.hid (trim_next hk0 (by rw [HL.out]; omega) hz he.out)
        go_wp2
        go_round
        case rel => exact ⟨k - 1, by omega, by simp [i2], HZ.out⟩
        case measure => simp; omega
    · obtain rfl : k = 0 := by omega
      have HZ : Hid (trimI xs = []) := Lib.hid (by rw [← he.out]; simp [trimI])
      go_wp2
      go_ret
      exact ⟨ret_slice (by rw [HZ.out]; rfl), rfl⟩

theorem isWord_is {xs : List Int} {v : Bool} (h : isWordB xs = v) (A : Option Addr) (n c : Nat) (w : World) (hx : SI w A n xs) (hn : n ≤ 9223372036854775807) :
    Calls Try.prog 203 #[.slice A n c] w fun e w' => e = .returned (.bool v) ∧ w = w' := h ▸ isWord_any A n c xs w hx hn
theorem allWithin_is {xs : List Int} {lo hi : Int} {v : Bool} (h : allIn xs lo hi = v) (A : Option Addr) (n c : Nat) (w : World) (hx : SI w A n xs) (hn : n ≤ 9223372036854775807) :
    Calls Try.prog 103 #[.slice A n c, .int .i64 lo, .int .i64 hi] w fun e w' => e = .returned (.bool v) ∧ w = w' := h ▸ allWithin_any A n c xs lo hi w hx hn
theorem own_trim {w : World} {lo n c : Nat} {A : Option Addr} {xs : List Int} (h : Own w lo 2 1 A n c (ints xs)) : Own w lo 2 1 A (trimI xs).length c (ints (trimI xs)) := by
  obtain ⟨k, hk, e⟩ := trim_take xs
  have hl : xs.length = n := h.asI.len
  have h1 := h.upto (j := k) (by omega)
  rw [ints_take] at h1
  have h2 : (trimI xs).length = k := by rw [e, List.length_take]; omega
  rw [h2, e]
  exact h1
theorem startF_bad {sy st : Int} {rs : List R3} {xs : List Int} (h : (machB sy st rs && isWordB xs) = false) : startF sy st rs xs = (⟨0, [], []⟩, 1) := by unfold startF; rw [h]; rfl
theorem startF_out {sy st : Int} {rs : List R3} {xs : List Int} (h : machB sy st rs = true) (h1 : isWordB xs = true) (h2 : allIn xs 0 (sy - 1) = false) : startF sy st rs xs = (⟨0, [], []⟩, 2) := by unfold startF; rw [h, h1, h2]; rfl
theorem startF_full {sy st : Int} {rs : List R3} {xs : List Int} (h : machB sy st rs = true) (h1 : isWordB xs = true) (h2 : allIn xs 0 (sy - 1) = true) (h3 : ¬ (trimI xs).length ≤ 200) : startF sy st rs xs = (⟨0, [], []⟩, 5) := by unfold startF; rw [h, h1, h2]; simp [h3]
theorem startF_ok {sy st : Int} {rs : List R3} {xs : List Int} (h : machB sy st rs = true) (h1 : isWordB xs = true) (h2 : allIn xs 0 (sy - 1) = true) (h3 : (trimI xs).length ≤ 200) : startF sy st rs xs = (⟨0, [], trimI xs⟩, 0) := by unfold startF; rw [h, h1, h2]; simp [h3]
theorem trim_good2 (xs : List Int) : trimI xs = [] ∨ lastI (trimI xs) ≠ 0 := by
  unfold trimI lastI
  cases h : xs.reverse.dropWhile (· == 0) with
  | nil => left; rfl
  | cons a t =>
    right
    have h2 : (a == 0) = false := by
      have := List.head?_dropWhile_not (· == 0) xs.reverse
      rw [h] at this
      simpa using this
    simpa using h2
theorem startF_good {sy st : Int} {rs : List R3} {xs : List Int} (h : (startF sy st rs xs).2 = 0) : goodC sy st rs (startF sy st rs xs).1 := by
  unfold startF at h ⊢
  split at h
  · rename_i h0
    simp only [Bool.and_eq_true] at h0
    split at h
    · rename_i h1
      split at h
      · rename_i h2
        rw [if_pos (by simp [h0.1, h0.2]), if_pos h1, if_pos h2]
        obtain ⟨p1, p2, p3, p4, _, _⟩ := machB_parts h0.1
        have hin : ∀ y ∈ trimI xs, 0 ≤ y ∧ y ≤ sy - 1 := by
          obtain ⟨k, hk, e⟩ := trim_take xs
          rw [e]
          intro y hy
          have := List.mem_of_mem_take hy
          unfold allIn at h1
          rw [List.all_eq_true] at h1
          exact (inB_iff _ _ _).1 (h1 y this)
        have hs := side_of (sy := sy) h2 hin (trim_good2 xs)
        have hs0 := side_of (sy := sy) (xs := []) (by simp) (by simp) (.inl rfl)
        show validConfB sy st rs 0 [] (trimI xs) = true
        unfold validConfB confB
        rw [h0.1, hs, hs0]
        simp [inB]; omega
      · cases h
    · cases h
  · cases h

set_option maxHeartbeats 4000000 in
theorem startConfigI_any (sy st : Int) (A : Option Addr) (n k : Nat) (rs : List R3) (B : Option Addr) (m c : Nat) (xs : List Int) (w : World) (hr : S3 w A n rs) (hx : SI w B m xs) (hn : n ≤ 1048576) (hm : m ≤ 1048576) :
    Calls Try.prog 169 #[.agg #[.int .i64 sy, .int .i64 st, .slice A n k], .slice B m c] w (NewConf2 w (startF sy st rs xs)) := by
  obtain ⟨W, hW_⟩ : ∃ W, W = (w.alloc (.cells #[.int .i64 sy, .int .i64 st, .slice A n k] 82)).alloc (.cells #[.int .i64 0, .slice none 0 0, .slice none 0 0] 172) := ⟨_, rfl⟩
  have s_1 : (w.alloc (.cells #[.int .i64 sy, .int .i64 st, .slice A n k] 82)).heap.size = w.heap.size + 1 := by simp
  have b0 : Blk W w.heap.size 82 #[.int .i64 sy, .int .i64 st, .slice A n k] := by rw [hW_]; exact (Blk.new w _ _).alloc _
  have b1 : Blk W (w.heap.size + 1) 172 #[.int .i64 0, .slice none 0 0, .slice none 0 0] := by rw [hW_, ← s_1]; exact Blk.new _ _ _
  have y0 : Below w.heap.size w W := by rw [hW_]; exact ((Below.refl _ _).alloc (Nat.le_refl _) _).alloc (by simp) _
  have HW := Lib.hid hW_
  clear hW_ s_1
  have q0 : W.cell? ⟨w.heap.size, 0, none⟩ = some (.int .i64 sy) := b0.cell 0
  have q1 : W.cell? ⟨w.heap.size, 1, none⟩ = some (.int .i64 st) := b0.cell 1
  have q2 : W.cell? ⟨w.heap.size, 2, none⟩ = some (.slice A n k) := b0.cell 2
  go_enter Try.func169, Try.ntmps169
  go_wp2_with fail
  rw [← HW.out]
  refine (validMachine_any _ _ _ _ _ rs _ (hr.below y0) hn).mono ?_
  rintro e W1 ⟨rfl, z1⟩
  have y1 := y0.trans (z1.mono y0.size)
  have c0 := b0.below' z1
  have c1 := b1.below' z1
  clear q0 q1 q2
  have q0 : W1.cell? ⟨w.heap.size, 0, none⟩ = some (.int .i64 sy) := c0.cell 0
  have q1 : W1.cell? ⟨w.heap.size, 1, none⟩ = some (.int .i64 st) := c0.cell 1
  have q2 : W1.cell? ⟨w.heap.size, 2, none⟩ = some (.slice A n k) := c0.cell 2
  have u0 : W1.cell? ⟨(w.heap.size + 1), 0, none⟩ = some (.int .i64 0) := c1.cell 0
  have u1 : W1.cell? ⟨(w.heap.size + 1), 1, none⟩ = some (.slice none 0 0) := c1.cell 1
  have u2 : W1.cell? ⟨(w.heap.size + 1), 2, none⟩ = some (.slice none 0 0) := c1.cell 2
  have f0 := c1.frozen 0
  have f1 := c1.frozen 1
  have f2 := c1.frozen 2
  cases a0 : machB sy st rs
  · have HF := Lib.hid (startF_bad (sy := sy) (st := st) (rs := rs) (xs := xs) (by rw [a0]; rfl))
    clear a0
    go_wp2_with fail
    have d1 := conf_set c1 (.int .i64 0) (.slice none 0 0) (.slice none 0 0)
    exact bodyPost_ret (v := .tuple #[.agg #[.int .i64 0, .slice none 0 0, .slice none 0 0], .int .i64 1]) (by simp [results, Try.results169, go_sem, d1.cell 0, d1.cell 1, d1.cell 2]) rfl (newConf2_zero HF.out (conf_below y1 (by omega) _ _ _))
  obtain ⟨p1, p2, p3, p4, _, _⟩ := machB_parts a0
  have A0 := Lib.hid a0
  clear a0
  cases a1 : isWordB xs
  · have HF := Lib.hid (startF_bad (sy := sy) (st := st) (rs := rs) (xs := xs) (by rw [a1]; simp))
    have A1 := Lib.hid a1
    clear a1
    go_wp2_with (go_at_call 203; refine (isWord_is A1.out _ _ _ _ (hx.below y1) (by omega)).mono ?_; rintro e w' ⟨rfl, rfl⟩)
    have d1 := conf_set c1 (.int .i64 0) (.slice none 0 0) (.slice none 0 0)
    exact bodyPost_ret (v := .tuple #[.agg #[.int .i64 0, .slice none 0 0, .slice none 0 0], .int .i64 1]) (by simp [results, Try.results169, go_sem, d1.cell 0, d1.cell 1, d1.cell 2]) rfl (newConf2_zero HF.out (conf_below y1 (by omega) _ _ _))
  have A1 := Lib.hid a1
  clear a1
  cases a2 : allIn xs 0 (sy - 1)
  · have HF := Lib.hid (startF_out A0.out A1.out a2)
    have A2 := Lib.hid a2
    clear a2
    go_wp2_with (first
      | (go_at_call 203; refine (isWord_is A1.out _ _ _ _ (hx.below y1) (by omega)).mono ?_; rintro e w' ⟨rfl, rfl⟩)
      | (go_at_call 103; refine (allWithin_is A2.out _ _ _ _ (hx.below y1) (by omega)).mono ?_; rintro e w' ⟨rfl, rfl⟩))
    have d1 := conf_set c1 (.int .i64 0) (.slice none 0 0) (.slice none 0 0)
    exact bodyPost_ret (v := .tuple #[.agg #[.int .i64 0, .slice none 0 0, .slice none 0 0], .int .i64 2]) (by simp [results, Try.results169, go_sem, d1.cell 0, d1.cell 1, d1.cell 2]) rfl (newConf2_zero HF.out (conf_below y1 (by omega) _ _ _))
  have A2 := Lib.hid a2
  clear a2
  go_wp2_with (first
    | (go_at_call 203; refine (isWord_is A1.out _ _ _ _ (hx.below y1) (by omega)).mono ?_; rintro e w' ⟨rfl, rfl⟩)
    | (go_at_call 103; refine (allWithin_is A2.out _ _ _ _ (hx.below y1) (by omega)).mono ?_; rintro e w' ⟨rfl, rfl⟩))
  refine (cloneI_any _ _ _ xs _ (hx.below y1) hm).mono ?_
  rintro e W2 ⟨B2, c2, rfl, o2, z2⟩
  go_wp2_with fail
  refine (trimmed_any _ _ _ xs _ o2.asI (by have := hx.len; omega) o2.le).mono ?_
  rintro e w' ⟨rfl, rfl⟩
  have o3 := own_trim o2
  have y2 := y1.trans (z2.mono y1.size)
  have hlt : w.heap.size + 1 < W1.heap.size := c1.lt
  have HF1 := Lib.hid (startF_full (sy := sy) (st := st) (rs := rs) A0.out A1.out A2.out)
  have HF2 := Lib.hid (startF_ok (sy := sy) (st := st) (rs := rs) A0.out A1.out A2.out)
  have htl : (trimI xs).length ≤ 1048576 := by
    obtain ⟨j, hj, e⟩ := trim_take xs
    have := hx.len
    rw [e, List.length_take]; omega
  clear q0 q1 q2 u0 u1 u2 f0 f1 f2 o2
  generalize trimI xs = t at *
  obtain ⟨W3, hW_⟩ : ∃ W_, W_ = W2.alloc (.cells #[.int .i64 0, .slice none 0 0, .slice B2 t.length c2] 172) := ⟨_, rfl⟩
  have b3 : Blk W3 W2.heap.size 172 #[.int .i64 0, .slice none 0 0, .slice B2 t.length c2] := by rw [hW_]; exact Blk.new W2 _ _
  have z3 : Below W2.heap.size W2 W3 := by rw [hW_]; exact (Below.refl _ _).alloc (Nat.le_refl _) _
  have HW3 := Lib.hid hW_
  clear hW_
  have y3 := y2.trans (z3.mono y2.size)
  have c3 := (c1.below' z2).below' z3
  have hz2 : W1.heap.size ≤ W2.heap.size := z2.size
  have q0 : W3.cell? ⟨W2.heap.size, 0, none⟩ = some (.int .i64 0) := b3.cell 0
  have q1 : W3.cell? ⟨W2.heap.size, 1, none⟩ = some (.slice none 0 0) := b3.cell 1
  have q2 : W3.cell? ⟨W2.heap.size, 2, none⟩ = some (.slice B2 t.length c2) := b3.cell 2
  have u0 : W3.cell? ⟨(w.heap.size + 1), 0, none⟩ = some (.int .i64 0) := c3.cell 0
  have u1 : W3.cell? ⟨(w.heap.size + 1), 1, none⟩ = some (.slice none 0 0) := c3.cell 1
  have u2 : W3.cell? ⟨(w.heap.size + 1), 2, none⟩ = some (.slice none 0 0) := c3.cell 2
  have f0 := c3.frozen 0
  have f1 := c3.frozen 1
  have f2 := c3.frozen 2
  go_upto_region 6 with fail
  rw [← HW3.out]
  by_cases h3 : t.length ≤ 200
  · have HF := Lib.hid (HF2.out h3)
    have i1 : decide ((200 : Int) < (t.length : Int)) = false := by simp; omega
    clear HF1 HF2
    go_wp2_with fail
    have d1 := conf_set c3 (.int .i64 0) (.slice none 0 0) (.slice B2 t.length c2)
    refine bodyPost_ret (v := .tuple #[.agg #[.int .i64 0, .slice none 0 0, .slice B2 t.length c2], .int .i64 0]) (by simp [results, Try.results169, go_sem, d1.cell 0, d1.cell 1, d1.cell 2]) rfl ?_
    rw [HF.out]
    exact ⟨none, 0, B2, c2, rfl, Own.nil, (conf_far (o3.below z3) (by omega) _ _ _).mono (by omega), fun b h => by simp [blk] at h, conf_below y3 (by omega) _ _ _⟩
  · have HF := Lib.hid (HF1.out h3)
    have i1 : decide ((200 : Int) < (t.length : Int)) = true := by simp; omega
    clear HF1 HF2
    go_wp2_with fail
    have d1 := conf_set c3 (.int .i64 0) (.slice none 0 0) (.slice none 0 0)
    exact bodyPost_ret (v := .tuple #[.agg #[.int .i64 0, .slice none 0 0, .slice none 0 0], .int .i64 5]) (by simp [results, Try.results169, go_sem, d1.cell 0, d1.cell 1, d1.cell 2]) rfl (newConf2_zero HF.out (conf_below y3 (by omega) _ _ _))
end Go.Proofs.Ythipbeggaeogcaa
