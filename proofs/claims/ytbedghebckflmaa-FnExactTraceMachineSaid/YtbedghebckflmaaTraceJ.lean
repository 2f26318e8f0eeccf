/-
  Contract of impl.TraceMachine.
-/
import Derived.Test.YtbedghebckflmaaTraceI
namespace Go.Proofs.Ytbedghebckflmaa
open Go.RowKit

theorem traceMachF_bad {sy st : Int} {rs : List R3} {q : Int} {xs ys : List Int} {b : Int} (h1 : validConfB sy st rs q xs ys = false) : traceMachF sy st rs q xs ys b = ([], 1) := by unfold traceMachF; rw [if_neg (by simp [h1])]
theorem traceMachF_range {sy st : Int} {rs : List R3} {q : Int} {xs ys : List Int} {b : Int} (h1 : validConfB sy st rs q xs ys = true) (h2 : inB b 0 60 = false) : traceMachF sy st rs q xs ys b = ([], 2) := by unfold traceMachF; rw [if_pos h1, if_neg (by simp [h2])]
theorem traceMachF_ok {sy st : Int} {rs : List R3} {q : Int} {xs ys : List Int} {N : Nat} (h1 : validConfB sy st rs q xs ys = true) (h2 : inB (N : Int) 0 60 = true) : traceMachF sy st rs q xs ys (N : Int) = traceF sy rs ⟨q, xs, ys⟩ N := by unfold traceMachF; rw [if_pos h1, if_pos h2, Int.toNat_natCast]

set_option maxHeartbeats 4000000 in
theorem traceMachineI_any (sy st : Int) (A : Option Addr) (n k : Nat) (rs : List R3) (q : Int) (B : Option Addr) (m c : Nat) (xs : List Int) (C : Option Addr) (l d : Nat) (ys : List Int) (b : Int) (w : World) (hr : S3 w A n rs) (hx : SI w B m xs) (hy : SI w C l ys) (hn : n ≤ 1048576) (hm : m ≤ 1048576) (hl : l ≤ 1048576) :
    Calls Try.prog 47 #[.agg #[.int .i64 sy, .int .i64 st, .slice A n k], .agg #[.int .i64 q, .slice B m c, .slice C l d], .int .i64 b] w (NewCs w (traceMachF sy st rs q xs ys b)) := by
  obtain ⟨W, hW_⟩ : ∃ W, W = (w.alloc (.cells #[.int .i64 sy, .int .i64 st, .slice A n k] 30)).alloc (.cells #[.int .i64 q, .slice B m c, .slice C l d] 38) := ⟨_, rfl⟩
  have s_1 : (w.alloc (.cells #[.int .i64 sy, .int .i64 st, .slice A n k] 30)).heap.size = w.heap.size + 1 := by simp
  have b0 : Blk W w.heap.size 30 #[.int .i64 sy, .int .i64 st, .slice A n k] := by rw [hW_]; exact (Blk.new w _ _).alloc _
  have b1 : Blk W (w.heap.size + 1) 38 #[.int .i64 q, .slice B m c, .slice C l d] := by rw [hW_, ← s_1]; exact Blk.new _ _ _
  have y0 : Below w.heap.size w W := by rw [hW_]; exact ((Below.refl _ _).alloc (Nat.le_refl _) _).alloc (by simp) _
  have HW := Lib.hid hW_
  clear hW_ s_1
  have q0 : W.cell? ⟨w.heap.size, 0, none⟩ = some (.int .i64 sy) := b0.cell 0
  have q1 : W.cell? ⟨w.heap.size, 1, none⟩ = some (.int .i64 st) := b0.cell 1
  have q2 : W.cell? ⟨w.heap.size, 2, none⟩ = some (.slice A n k) := b0.cell 2
  have r0 : W.cell? ⟨(w.heap.size + 1), 0, none⟩ = some (.int .i64 q) := b1.cell 0
  have r1 : W.cell? ⟨(w.heap.size + 1), 1, none⟩ = some (.slice B m c) := b1.cell 1
  have r2 : W.cell? ⟨(w.heap.size + 1), 2, none⟩ = some (.slice C l d) := b1.cell 2
  go_enter Try.func47, Try.ntmps47
  go_wp2_with fail
  rw [← HW.out]
  refine (validConfig_any _ _ _ _ _ rs _ _ _ _ xs _ _ _ ys _ (hr.below y0) (hx.below y0) (hy.below y0) hn hm hl).mono ?_
  rintro e w2 ⟨rfl, z2⟩
  have y2 := y0.trans (z2.mono y0.size)
  have c0 := b0.below' z2
  have c1 := b1.below' z2
  clear q0 q1 q2 r0 r1 r2
  have q0 : w2.cell? ⟨w.heap.size, 0, none⟩ = some (.int .i64 sy) := c0.cell 0
  have q1 : w2.cell? ⟨w.heap.size, 1, none⟩ = some (.int .i64 st) := c0.cell 1
  have q2 : w2.cell? ⟨w.heap.size, 2, none⟩ = some (.slice A n k) := c0.cell 2
  have r0 : w2.cell? ⟨(w.heap.size + 1), 0, none⟩ = some (.int .i64 q) := c1.cell 0
  have r1 : w2.cell? ⟨(w.heap.size + 1), 1, none⟩ = some (.slice B m c) := c1.cell 1
  have r2 : w2.cell? ⟨(w.heap.size + 1), 2, none⟩ = some (.slice C l d) := c1.cell 2
  cases a1 : validConfB sy st rs q xs ys
  · have HF := Lib.hid (traceMachF_bad (b := b) a1)
    clear a1
    go_wp2_with fail
    exact bodyPost_ret (v := .tuple #[.slice none 0 0, .int .i64 1]) (by simp [results, Try.results47, go_sem]) rfl (newCs_nil HF.out y2)
  have A1 := Lib.hid a1
  clear a1
  cases a2 : inB b 0 60
  · have HF := Lib.hid (traceMachF_range A1.out a2)
    have A2 := Lib.hid a2
    clear a2
    go_wp2_with (go_at_call 96; refine (within_is A2.out _).mono ?_; rintro e w' ⟨rfl, rfl⟩)
    exact bodyPost_ret (v := .tuple #[.slice none 0 0, .int .i64 2]) (by simp [results, Try.results47, go_sem]) rfl (newCs_nil HF.out y2)
  have hb := (inB_iff _ _ _).1 a2
  obtain ⟨N, rfl⟩ : ∃ N : Nat, b = (N : Int) := ⟨b.toNat, by omega⟩
  have HF := Lib.hid (traceMachF_ok A1.out a2)
  have A2 := Lib.hid a2
  clear a2
  go_wp2_with (go_at_call 96; refine (within_is A2.out _).mono ?_; rintro e w' ⟨rfl, rfl⟩)
  refine (traceOf_any sy st _ _ _ rs q _ _ _ xs _ _ _ ys N _ (hr.below y2) (hx.below y2) (hy.below y2) hn hm hl A1.out (by omega)).mono ?_
  rintro e w3 ⟨A3, c3, ts, rfl, ho, hc, z3⟩
  rw [← HF.out] at ho hc ⊢
  have HC := Lib.hid hc
  clear hc HF
  generalize traceMachF sy st rs q xs ys (N : Int) = res at *
  obtain ⟨cs, kc⟩ := res
  dsimp only at HC ho ⊢
  go_wp2_with fail
  exact bodyPost_ret (v := .tuple #[.slice A3 cs.length c3, .int .i64 kc]) (by simp [results, Try.results47, go_sem]) rfl ⟨A3, c3, ts, rfl, ho.mono y2.size, HC.out, y2.trans (z3.mono y2.size)⟩
end Go.Proofs.Ytbedghebckflmaa
