/-
  The literals of the tag system of Collatz; the reference's l03Power and l03Over.
-/
import Derived.Test.YtldgfgjaabphnaaCollP
namespace Go.Proofs.Ytldgfgjaabphnaa
open Go.RowKit

/-- A tag system of Collatz in new memory. -/
def NewColl (w : World) (e : Ending) (w' : World) : Prop :=
  ∃ A B k ts, e = .returned (.agg #[.int .i64 2, .slice A 3 3, .slice B 0 k]) ∧ OII w' w.heap.size 23 2 A 3 3 ts ∧ nums ts = collWords ∧ Below w.heap.size w w'

theorem coll_own (w0 w1 : World) (z : Nat) (hz : w1.heap.size = z) (h0 : Below w0.heap.size w0 w1) : OII ((((w1.alloc (.cells #[.int .i64 1, .int .i64 2] 2)).alloc (.cells #[.int .i64 0] 2)).alloc (.cells #[.int .i64 0, .int .i64 0, .int .i64 0] 2)).alloc (.cells #[.slice (some ⟨z, 0, none⟩) 2 2, .slice (some ⟨z + 1, 0, none⟩) 1 1, .slice (some ⟨z + 1 + 1, 0, none⟩) 3 3] 23)) w0.heap.size 23 2 (some ⟨z + 1 + 1 + 1, 0, none⟩) 3 3 [⟨some ⟨z, 0, none⟩, 2, [1, 2]⟩, ⟨some ⟨z + 1, 0, none⟩, 1, [0]⟩, ⟨some ⟨z + 1 + 1, 0, none⟩, 3, [0, 0, 0]⟩] ∧
    Below w0.heap.size w0 ((((w1.alloc (.cells #[.int .i64 1, .int .i64 2] 2)).alloc (.cells #[.int .i64 0] 2)).alloc (.cells #[.int .i64 0, .int .i64 0, .int .i64 0] 2)).alloc (.cells #[.slice (some ⟨z, 0, none⟩) 2 2, .slice (some ⟨z + 1, 0, none⟩) 1 1, .slice (some ⟨z + 1 + 1, 0, none⟩) 3 3] 23)) := by
  subst hz
  have g0 := h0.size
  have b1 := h0.alloc g0 (.cells #[.int .i64 1, .int .i64 2] 2)
  have a1 := Own.lit w1 #[.int .i64 1, .int .i64 2] 2 2 1 w0.heap.size rfl (by simp [maxLen]) g0
  generalize hW1 : w1.alloc (.cells #[.int .i64 1, .int .i64 2] 2) = W1 at *
  have s1 : W1.heap.size = w1.heap.size + 1 := by rw [← hW1]; simp
  have a2 := Own.lit W1 #[.int .i64 0] 2 1 1 w0.heap.size rfl (by simp [maxLen]) b1.size
  have b2 := b1.alloc b1.size (.cells #[.int .i64 0] 2)
  replace a1 := a1.alloc (.cells #[.int .i64 0] 2)
  generalize hW2 : W1.alloc (.cells #[.int .i64 0] 2) = W2 at *
  have s2 : W2.heap.size = w1.heap.size + 1 + 1 := by rw [← hW2]; simp [s1]
  have a3 := Own.lit W2 #[.int .i64 0, .int .i64 0, .int .i64 0] 2 3 1 w0.heap.size rfl (by simp [maxLen]) b2.size
  have b3 := b2.alloc b2.size (.cells #[.int .i64 0, .int .i64 0, .int .i64 0] 2)
  replace a1 := a1.alloc (.cells #[.int .i64 0, .int .i64 0, .int .i64 0] 2)
  replace a2 := a2.alloc (.cells #[.int .i64 0, .int .i64 0, .int .i64 0] 2)
  generalize hW3 : W2.alloc (.cells #[.int .i64 0, .int .i64 0, .int .i64 0] 2) = W3 at *
  have s3 : W3.heap.size = w1.heap.size + 1 + 1 + 1 := by rw [← hW3]; simp [s2]
  rw [s1] at a2
  rw [s2] at a3
  have a4 := Own.lit W3 #[.slice (some ⟨w1.heap.size, 0, none⟩) 2 2, .slice (some ⟨w1.heap.size + 1, 0, none⟩) 1 1, .slice (some ⟨w1.heap.size + 1 + 1, 0, none⟩) 3 3] 23 3 1 w0.heap.size rfl (by simp [maxLen]) b3.size
  rw [s3] at a4
  refine ⟨⟨a4, fun t ht => ?_, ?_⟩, b3.alloc b3.size _⟩
  · simp only [List.mem_cons, List.not_mem_nil, or_false] at ht
    rcases ht with rfl | rfl | rfl
    · exact a1.alloc _
    · exact a2.alloc _
    · exact a3.alloc _
  · simp [Apt, blk]; omega

set_option maxHeartbeats 1000000 in
theorem collTagI_any (w : World) : Calls Try.prog 98 #[] w (NewColl w) := by
  obtain ⟨C, hC⟩ : ∃ C : Obj, C = .cells #[.int .i64 2, .slice (some ⟨w.heap.size + 1 + 1 + 1 + 1, 0, none⟩) 3 3, .slice none 0 0] 29 := ⟨_, rfl⟩
  obtain ⟨ho, hb⟩ := coll_own w (w.alloc C) (w.heap.size + 1) (by simp) ((Below.refl _ _).alloc (Nat.le_refl _) C)
  have d : Blk ((((w.alloc C).alloc (.cells #[.int .i64 1, .int .i64 2] 2)).alloc (.cells #[.int .i64 0] 2)).alloc (.cells #[.int .i64 0, .int .i64 0, .int .i64 0] 2)) w.heap.size 29 #[.int .i64 2, .slice (some ⟨w.heap.size + 1 + 1 + 1 + 1, 0, none⟩) 3 3, .slice none 0 0] := by rw [hC]; exact (((Blk.new w _ _).alloc _).alloc _).alloc _
  replace d := d.alloc (.cells #[.slice (some ⟨w.heap.size + 1, 0, none⟩) 2 2, .slice (some ⟨w.heap.size + 1 + 1, 0, none⟩) 1 1, .slice (some ⟨w.heap.size + 1 + 1 + 1, 0, none⟩) 3 3] 23)
  have HC := Lib.hid hC
  clear hC
  go_enter Try.func98, Try.ntmps98
  go_wp2_with fail
  rw [← HC.out]
  generalize (World.alloc _ (.cells #[.slice (some ⟨w.heap.size + 1, 0, none⟩) 2 2, .slice (some ⟨w.heap.size + 1 + 1, 0, none⟩) 1 1, .slice (some ⟨w.heap.size + 1 + 1 + 1, 0, none⟩) 3 3] 23)) = wf at *
  have q0 : wf.cell? ⟨w.heap.size, 0, none⟩ = some (.int .i64 2) := d.cell 0
  have q1 : wf.cell? ⟨w.heap.size, 1, none⟩ = some (.slice (some ⟨w.heap.size + 1 + 1 + 1 + 1, 0, none⟩) 3 3) := d.cell 1
  have q2 : wf.cell? ⟨w.heap.size, 2, none⟩ = some (.slice none 0 0) := d.cell 2
  exact bodyPost_ret (v := .agg #[.int .i64 2, .slice (some ⟨w.heap.size + 1 + 1 + 1 + 1, 0, none⟩) 3 3, .slice none 0 0]) (by simp [results, Try.results98, go_sem, q0, q1, q2]) rfl ⟨_, none, 0, _, rfl, ho, rfl, hb⟩

set_option maxHeartbeats 1000000 in
theorem collTagS_any (w : World) : Calls Try.prog 95 #[] w (NewColl w) := by
  obtain ⟨C, hC⟩ : ∃ C : Obj, C = .cells #[.int .i64 2, .slice (some ⟨w.heap.size + 1 + 1 + 1 + 1, 0, none⟩) 3 3, .slice (some ⟨w.heap.size + 1 + 1 + 1 + 1 + 1, 0, none⟩) 0 0] 29 := ⟨_, rfl⟩
  obtain ⟨ho, hb⟩ := coll_own w (w.alloc C) (w.heap.size + 1) (by simp) ((Below.refl _ _).alloc (Nat.le_refl _) C)
  have d : Blk ((((w.alloc C).alloc (.cells #[.int .i64 1, .int .i64 2] 2)).alloc (.cells #[.int .i64 0] 2)).alloc (.cells #[.int .i64 0, .int .i64 0, .int .i64 0] 2)) w.heap.size 29 #[.int .i64 2, .slice (some ⟨w.heap.size + 1 + 1 + 1 + 1, 0, none⟩) 3 3, .slice (some ⟨w.heap.size + 1 + 1 + 1 + 1 + 1, 0, none⟩) 0 0] := by rw [hC]; exact (((Blk.new w _ _).alloc _).alloc _).alloc _
  replace d := (d.alloc (.cells #[.slice (some ⟨w.heap.size + 1, 0, none⟩) 2 2, .slice (some ⟨w.heap.size + 1 + 1, 0, none⟩) 1 1, .slice (some ⟨w.heap.size + 1 + 1 + 1, 0, none⟩) 3 3] 23)).alloc (.cells #[] 2)
  replace ho := ho.alloc (.cells #[] 2)
  replace hb := hb.alloc hb.size (.cells #[] 2)
  have HC := Lib.hid hC
  clear hC
  go_enter Try.func95, Try.ntmps95
  go_wp2_with fail
  rw [← HC.out]
  generalize (World.alloc _ (.cells #[] 2)) = wf at *
  have q0 : wf.cell? ⟨w.heap.size, 0, none⟩ = some (.int .i64 2) := d.cell 0
  have q1 : wf.cell? ⟨w.heap.size, 1, none⟩ = some (.slice (some ⟨w.heap.size + 1 + 1 + 1 + 1, 0, none⟩) 3 3) := d.cell 1
  have q2 : wf.cell? ⟨w.heap.size, 2, none⟩ = some (.slice (some ⟨w.heap.size + 1 + 1 + 1 + 1 + 1, 0, none⟩) 0 0) := d.cell 2
  exact bodyPost_ret (v := .agg #[.int .i64 2, .slice (some ⟨w.heap.size + 1 + 1 + 1 + 1, 0, none⟩) 3 3, .slice (some ⟨w.heap.size + 1 + 1 + 1 + 1 + 1, 0, none⟩) 0 0]) (by simp [results, Try.results95, go_sem, q0, q1, q2]) rfl ⟨_, _, 0, _, rfl, ho, rfl, hb⟩

theorem over_next {xs : List Int} {k : Nat} {lt : Int} (hk : k < xs.length) (h : decide (lt ≤ xs[k]) = false) (he : (xs.take k).all (fun x => decide (x < lt)) = true) : (xs.take (k + 1)).all (fun x => decide (x < lt)) = true := by
  rw [List.take_succ_eq_append_getElem hk, List.all_append, he]
  simp at h ⊢; omega
theorem over_no {xs : List Int} {k : Nat} {lt : Int} (hk : k < xs.length) (h : decide (lt ≤ xs[k]) = true) : false = xs.all (fun x => decide (x < lt)) := by
  symm; rw [List.all_eq_false]
  exact ⟨_, List.getElem_mem hk, by simp at h ⊢; omega⟩
set_option maxHeartbeats 400000 in
theorem l03Over_any (A : Option Addr) (n c : Nat) (xs : List Int) (lt : Int) (w : World) (hx : SI w A n xs) (hn : n ≤ 1048576) :
    Calls Try.prog 97 #[.slice A n c, .int .i64 lt] w fun e w' => e = .returned (.bool (xs.all (fun x => decide (x < lt)))) ∧ w = w' := by
  obtain rfl : xs.length = n := hx.len
  go_enter Try.func97, Try.ntmps97
  go_wp2
  go_loop [5] (fun i => ∃ k : Nat, k ≤ xs.length ∧ i = .int .i64 k ∧ Hid ((xs.take k).all (fun x => decide (x < lt)) = true)) (fun i => xs.length - (intOf i).toNat)
  case atStart => exact ⟨0, by omega, rfl, rfl⟩
  case round =>
    obtain ⟨k, hk, rfl, he⟩ := hrel
    by_cases hlt : k < xs.length
    · obtain ⟨b, off, rfl, _, hc⟩ := hx.at_ hlt
      cases hd : decide (lt ≤ xs[k]) with
      | true =>
        have HD := Lib.hid (over_no hlt hd)
        go_wp2
        go_ret
        exact ⟨ret_bool HD.out, rfl⟩
      | false =>
        have HD := Lib.hid (over_next hlt hd he.out)
        go_wp2
        exact ⟨⟨k + 1, by omega, by go_num, HD.out⟩, by simp [intOf]; omega⟩
    · have HD : Hid (true = xs.all (fun x => decide (x < lt))) := Lib.hid (by have := he.out; rw [List.take_of_length_le (by omega)] at this; exact this.symm)
      go_wp2
      go_ret
      exact ⟨ret_bool HD.out, rfl⟩

theorem zeros_next (j : Nat) : zeros j ++ [0] = zeros (j + 1) := by unfold zeros; rw [← List.replicate_append_replicate]; rfl
set_option maxHeartbeats 1000000 in
theorem l03Power_any (A : Option Addr) (c n : Nat) (w : World) (hx : SI w A 1 [0]) (hn : n ≤ 1000) :
    Calls Try.prog 96 #[.slice A 1 c, .int .i64 (n : Int)] w (NewI w (zeros n)) := by
  have o0 := Own.lit0 w 2 1
  have z0 : Below w.heap.size w (w.alloc (.cells #[] 2)) := (Below.refl _ _).alloc (Nat.le_refl _) _
  go_enter Try.func96, Try.ntmps96
  go_wp2_with fail
  generalize w.alloc (.cells #[] 2) = W1 at *
  go_loopw [1, 5] (fun m s wr => ∃ (j : Nat) (D : Option Addr) (cd : Nat), m = .int .i64 ((n : Int) - (j : Int)) ∧ s = .slice D j cd ∧ j ≤ n ∧ Own wr w.heap.size 2 1 D j cd (ints (zeros j)) ∧ Below w.heap.size w wr) (fun m _ _ => (intOf m).toNat)
  case atStart => exact ⟨0, _, 0, by simp, rfl, Nat.zero_le _, o0, z0⟩
  case round =>
    obtain ⟨j, D, cd, rfl, rfl, hj, ho, hz⟩ := hrel
    clear o0 z0
    by_cases hlt : j < n
    · have hd : decide ((0 : Int) < (n : Int) - (j : Int)) = true := by simp; omega
      go_wp2_with (at_builtin; refine wpList_append_Own rfl (.tmp 11) (.tmp 12) rfl elI (lo := w.heap.size) rfl ho rfl (hx.below hz) (ints_one [0]) (by omega) (by simp only [maxLen]; omega) hz.size ?_; intro A3 c3 w3 ho3 hg3 hw3)
      have ho4 : Own w3 w.heap.size 2 1 A3 (j + 1) c3 (ints (zeros (j + 1))) := by rw [← zeros_next, ← ints_append]; exact ho3
      have hz3 : Below w.heap.size w w3 := Own.below_of ho hz hg3 hz.size
      clear ho3 hg3 hw3
      go_wp2_with fail
      go_roundw
      case rel => exact ⟨j + 1, A3, c3, by go_num, rfl, by omega, ho4, hz3⟩
      case measure => simp [intOf]; omega
    · have hd : decide ((0 : Int) < (n : Int) - (j : Int)) = false := by simp; omega
      obtain rfl : j = n := by omega
      go_wp2_with fail
      go_ret
      exact ⟨D, cd, by rw [zeros_len]; rfl, by rw [zeros_len]; exact ho, hz⟩
end Go.Proofs.Ytldgfgjaabphnaa
