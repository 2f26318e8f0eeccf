/-
  Contracts of the reference's functions on machines: l05None, l05Rule, l05Is.
-/
import Derived.Test.YthipbeggaeogcaaMachJ
import Derived.Test.YthipbeggaeogcaaL00A
import Derived.Deep.RegionHeld3
namespace Go.Proofs.Ythipbeggaeogcaa
open Go.RowKit

theorem l05None_any (w : World) : Calls Try.prog 184 #[] w fun e w' => e = .returned (.agg #[.int .i64 0, .int .i64 0, .int .i64 (-1)]) ∧ Below w.heap.size w w' := by
  go_enter Try.func184, Try.ntmps184
  go_wp2
  exact bodyPost_ret (v := .agg #[.int .i64 0, .int .i64 0, .int .i64 (-1)]) (by simp [results, Try.results184, go_sem]) rfl ⟨rfl, (Below.refl _ _).alloc (Nat.le_refl _) _⟩

theorem validRuleB_no {sy st : Int} {r : R3} (h : isRuleB r = false) : true = validRuleB sy st r := by unfold validRuleB; rw [h]; rfl
theorem validRuleB_eq {sy st a b c : Int} (h : isRuleB ⟨a, b, c⟩ = true) : validRuleB sy st ⟨a, b, c⟩ = (inB a 0 (sy - 1) && ((b == -1) || (b == 1)) && inB c 0 (st - 1)) := by unfold validRuleB; rw [h]; rfl

set_option maxHeartbeats 2000000 in
theorem l05Rule_any (sy st : Int) (a b c : Int) (w : World) (h1 : 1 ≤ sy) (h2 : sy ≤ 100000) (h3 : 1 ≤ st) (h4 : st ≤ 100000) :
    Calls Try.prog 159 #[.agg #[.int .i64 a, .int .i64 b, .int .i64 c], .int .i64 sy, .int .i64 st] w fun e w' => e = .returned (.bool (validRuleB sy st ⟨a, b, c⟩)) ∧ Below w.heap.size w w' := by
  obtain ⟨W, hW⟩ : ∃ W, W = w.alloc (.cells #[.int .i64 a, .int .i64 b, .int .i64 c] 169) := ⟨_, rfl⟩
  have b0 : Blk W w.heap.size 169 #[.int .i64 a, .int .i64 b, .int .i64 c] := by rw [hW]; exact Blk.new w _ _
  have y0 : Below w.heap.size w W := by rw [hW]; exact (Below.refl _ _).alloc (Nat.le_refl _) _
  have HW := Lib.hid hW
  clear hW
  have q0 : W.cell? ⟨w.heap.size, 0, none⟩ = some (.int .i64 a) := b0.cell 0
  have q1 : W.cell? ⟨w.heap.size, 1, none⟩ = some (.int .i64 b) := b0.cell 1
  have q2 : W.cell? ⟨w.heap.size, 2, none⟩ = some (.int .i64 c) := b0.cell 2
  cases g0 : (a == 0) <;> cases g1 : (b == 0) <;> cases g2 : (c == -1)
  all_goals
    have HE := Lib.hid (isRuleB_eq a b c)
    have H0 := Lib.hid g0
    have H1 := Lib.hid g1
    have H2 := Lib.hid g2
    go_enter Try.func159, Try.ntmps159
    go_wp2_with fail
    rw [← HW.out]
    go_region_held3 (fun w' => w'.cell? ⟨w.heap.size, 0, none⟩ = some (.int .i64 a) ∧ w'.cell? ⟨w.heap.size, 1, none⟩ = some (.int .i64 b) ∧ w'.cell? ⟨w.heap.size, 2, none⟩ = some (.int .i64 c))
      (first
        | (go_keep; done)
        | (exact ⟨(b0.below' hb2).cell 0, (b0.below' hb2).cell 1, (b0.below' hb2).cell 2⟩))
      (first
        | (go_at_call 184; refine (l05None_any _).mono ?_; rintro e w2 ⟨rfl, hb2'⟩; have hb2 : Below W.heap.size W w2 := below_undrew hb2'))
    clear g0 g1 g2
  rotate_right
  · go_wp2_with fail
    go_ret
    exact ⟨ret_bool (validRuleB_no (by rw [HE.out, H0.out, H1.out, H2.out]; rfl)), y0.trans (hb2.mono y0.size)⟩
  all_goals
    have HV := Lib.hid (validRuleB_eq (sy := sy) (st := st) (by rw [HE.out, H0.out, H1.out, H2.out]; rfl : isRuleB ⟨a, b, c⟩ = true))
    have c0 := b0.below' hb2
    have q0 : w2.cell? ⟨w.heap.size, 0, none⟩ = some (.int .i64 a) := c0.cell 0
    have q1 : w2.cell? ⟨w.heap.size, 1, none⟩ = some (.int .i64 b) := c0.cell 1
    have q2 : w2.cell? ⟨w.heap.size, 2, none⟩ = some (.int .i64 c) := c0.cell 2
    go_wp2_with (go_at_call 82; refine (l00In_any _ _ _ _).mono ?_; rintro e w' ⟨rfl, rfl⟩)
    all_goals go_ret
    all_goals exact ⟨ret_bool (by rw [HV.out]; simp [*]), y0.trans (hb2.mono y0.size)⟩
end Go.Proofs.Ythipbeggaeogcaa
