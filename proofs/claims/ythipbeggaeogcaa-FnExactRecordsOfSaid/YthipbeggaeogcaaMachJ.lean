/-
  Contracts of impl's functions on configurations: configOf, ValidConfig.
-/
import Derived.Test.YthipbeggaeogcaaMachI
namespace Go.Proofs.Ythipbeggaeogcaa
open Go.RowKit

def confB (sy st q : Int) (xs ys : List Int) : Bool := inB q 0 (st - 1) && sideB xs sy 200 && sideB ys sy 200

set_option maxHeartbeats 1000000 in
theorem configOf_any (sy st : Int) (A : Option Addr) (n k : Nat) (q : Int) (B : Option Addr) (m c : Nat) (xs : List Int) (C : Option Addr) (l d : Nat) (ys : List Int) (w : World) (hx : SI w B m xs) (hy : SI w C l ys) (hm : m ≤ 1048576) (hl : l ≤ 1048576) (h1 : 2 ≤ sy) (h2 : sy ≤ 6) (h3 : 1 ≤ st) (h4 : st ≤ 1000) :
    Calls Try.prog 224 #[.agg #[.int .i64 sy, .int .i64 st, .slice A n k], .agg #[.int .i64 q, .slice B m c, .slice C l d]] w fun e w' => e = .returned (.bool (confB sy st q xs ys)) ∧ Below w.heap.size w w' := by
  obtain ⟨W, hW⟩ : ∃ W, W = (w.alloc (.cells #[.int .i64 sy, .int .i64 st, .slice A n k] 82)).alloc (.cells #[.int .i64 q, .slice B m c, .slice C l d] 172) := ⟨_, rfl⟩
  have y0 : Below w.heap.size w W := by rw [hW]; exact ((Below.refl _ _).alloc (Nat.le_refl _) _).alloc (by simp) _
  have hxW := hx.below y0
  have hyW := hy.below y0
  rw [hW] at hxW hyW y0
  clear hW
  go_enter Try.func224, Try.ntmps224
  go_wp2_with (go_at_call 85; refine (within_any _ _ _ _).mono ?_; rintro e w' ⟨rfl, rfl⟩)
  · have a1 : inB q 0 (st - 1) = true := by assumption
    have A1 := Lib.hid a1
    clear a1
    refine (validSide_any _ _ _ xs _ _ _ hxW hm (by omega) (by omega)).mono ?_
    rintro e w' ⟨rfl, rfl⟩
    cases a2 : sideB xs sy 200
    · have A2 := Lib.hid a2
      clear a2
      go_wp2_with fail
      go_ret
      exact ⟨ret_bool (by unfold confB; rw [A2.out]; simp), y0⟩
    · have A2 := Lib.hid a2
      clear a2
      go_wp2_with fail
      refine (validSide_any _ _ _ ys _ _ _ hyW hl (by omega) (by omega)).mono ?_
      rintro e w' ⟨rfl, rfl⟩
      go_wp2_with fail
      go_ret
      exact ⟨ret_bool (by unfold confB; rw [A1.out, A2.out]; simp), y0⟩
  · go_ret
    exact ⟨ret_bool (by unfold confB; simp [*]), y0⟩

def validConfB (sy st : Int) (rs : List R3) (q : Int) (xs ys : List Int) : Bool := machB sy st rs && confB sy st q xs ys
theorem machB_parts {sy st : Int} {rs : List R3} (h : machB sy st rs = true) : 2 ≤ sy ∧ sy ≤ 6 ∧ 1 ≤ st ∧ st ≤ 1000 ∧ (rs.length : Int) = st * sy ∧ ∀ r ∈ rs, validRuleB sy st r = true := by
  unfold machB at h
  simp only [Bool.and_eq_true, inB_iff, decide_eq_true_eq, List.all_eq_true] at h
  exact ⟨h.1.1.1.1, h.1.1.1.2, h.1.1.2.1, h.1.1.2.2, h.1.2, h.2⟩

set_option maxHeartbeats 1000000 in
theorem validConfig_any (sy st : Int) (A : Option Addr) (n k : Nat) (rs : List R3) (q : Int) (B : Option Addr) (m c : Nat) (xs : List Int) (C : Option Addr) (l d : Nat) (ys : List Int) (w : World) (hr : S3 w A n rs) (hx : SI w B m xs) (hy : SI w C l ys) (hn : n ≤ 1048576) (hm : m ≤ 1048576) (hl : l ≤ 1048576) :
    Calls Try.prog 209 #[.agg #[.int .i64 sy, .int .i64 st, .slice A n k], .agg #[.int .i64 q, .slice B m c, .slice C l d]] w fun e w' => e = .returned (.bool (validConfB sy st rs q xs ys)) ∧ Below w.heap.size w w' := by
  obtain ⟨W, hW⟩ : ∃ W, W = (w.alloc (.cells #[.int .i64 sy, .int .i64 st, .slice A n k] 82)).alloc (.cells #[.int .i64 q, .slice B m c, .slice C l d] 172) := ⟨_, rfl⟩
  have s1 : (w.alloc (.cells #[.int .i64 sy, .int .i64 st, .slice A n k] 82)).heap.size = w.heap.size + 1 := by simp
  have b0 : Blk W w.heap.size 82 #[.int .i64 sy, .int .i64 st, .slice A n k] := by rw [hW]; exact (Blk.new w _ _).alloc _
  have b1 : Blk W (w.heap.size + 1) 172 #[.int .i64 q, .slice B m c, .slice C l d] := by rw [hW, ← s1]; exact Blk.new _ _ _
  have y0 : Below w.heap.size w W := by rw [hW]; exact ((Below.refl _ _).alloc (Nat.le_refl _) _).alloc (by simp) _
  have HW := Lib.hid hW
  clear hW s1
  go_enter Try.func209, Try.ntmps209
  go_wp2_with fail
  rw [← HW.out]
  refine (validMachine_any _ _ _ _ _ rs _ (hr.below y0) hn).mono ?_
  rintro e w2 ⟨rfl, z2⟩
  have y2 : Below w.heap.size w w2 := y0.trans (z2.mono y0.size)
  cases a1 : machB sy st rs
  · have A1 := Lib.hid a1
    clear a1
    go_wp2_with fail
    go_ret
    exact ⟨ret_bool (by unfold validConfB; rw [A1.out]; simp), y2⟩
  · obtain ⟨p1, p2, p3, p4, _, _⟩ := machB_parts a1
    have A1 := Lib.hid a1
    clear a1
    have c0 := b0.below' z2
    have c1 := b1.below' z2
    have q0 : w2.cell? ⟨w.heap.size, 0, none⟩ = some (.int .i64 sy) := c0.cell 0
    have q1 : w2.cell? ⟨w.heap.size, 1, none⟩ = some (.int .i64 st) := c0.cell 1
    have q2 : w2.cell? ⟨w.heap.size, 2, none⟩ = some (.slice A n k) := c0.cell 2
    have q3 : w2.cell? ⟨w.heap.size + 1, 0, none⟩ = some (.int .i64 q) := c1.cell 0
    have q4 : w2.cell? ⟨w.heap.size + 1, 1, none⟩ = some (.slice B m c) := c1.cell 1
    have q5 : w2.cell? ⟨w.heap.size + 1, 2, none⟩ = some (.slice C l d) := c1.cell 2
    go_wp2_with fail
    refine (configOf_any _ _ _ _ _ _ _ _ _ xs _ _ _ ys _ (hx.below y2) (hy.below y2) hm hl p1 p2 p3 p4).mono ?_
    rintro e w3 ⟨rfl, z3⟩
    go_wp2_with fail
    go_ret
    exact ⟨ret_bool (by unfold validConfB; rw [A1.out]; simp), y2.trans (z3.mono y2.size)⟩
end Go.Proofs.Ythipbeggaeogcaa
