/-
  Contracts of impl's nodeStatus and NodeStatus.
-/
import Derived.Test.YthipbeggaeogcaaRunU
namespace Go.Proofs.Ythipbeggaeogcaa
open Go.RowKit

theorem at_c {X : Nat → Prop} {w : World} {lo g : Nat} {sy st : Int} {A : Option Addr} {n k : Nat} {rs : List R3} {c : Conf} (hs : RunC X w lo g sy st A n k c) (hg : goodC sy st rs c) :
    Calls Try.prog 181 #[.pointer (some ⟨g, 0, none⟩)] w fun e w' => e = .returned (.int .i64 (atI sy c.q c.ys.reverse)) ∧ ∃ nq, w' = w.drewN nq := by
  obtain ⟨L, cl, R, d, hr, ol, or_, _⟩ := hs
  obtain ⟨h1, h2, h3, h4, hnl, h5, h6, hx2, hy2, hxm, hym, hrsv⟩ := conf_parts hg
  obtain ⟨a1, a2, a3, a4, idx, hidx, hlt⟩ := at_parts (ys := c.ys.reverse) h1 h2 h3 h4 hnl h5 h6 (fun y hy => hym y (List.mem_reverse.1 hy))
  exact at_any g sy st A n k c.q L _ cl R _ d c.ys.reverse w hr or_.rd (by rw [List.length_reverse]; omega) a1 (by omega) a3 (by omega)

/-- The status of a machine, the index at which it halts, and the number of steps. -/
def nodeF (sy : Int) (rs : List R3) (N : Nat) : Int × Int × Int :=
  match runN sy rs N blankC with
  | none => (3, 0, 0)
  | some i => if haltC sy rs (itC sy rs blankC i) then ((if (freeF rs).length = 1 then 1 else 0), atI sy (itC sy rs blankC i).q (itC sy rs blankC i).ys.reverse, (i : Int)) else (2, 0, (i : Int))
theorem nodeF_full {sy : Int} {rs : List R3} {N i : Nat} (h : Full sy rs blankC N i) : nodeF sy rs N = (3, 0, 0) := by unfold nodeF; rw [runN_full h]
theorem nodeF_runs {sy : Int} {rs : List R3} {N i : Nat} (h : Ended sy rs blankC N i) (hh : haltC sy rs (itC sy rs blankC i) = false) : nodeF sy rs N = (2, 0, (i : Int)) := by unfold nodeF; rw [runN_ended h]; simp [hh]
theorem nodeF_last {sy : Int} {rs : List R3} {N i : Nat} (h : Ended sy rs blankC N i) (hh : haltC sy rs (itC sy rs blankC i) = true) (hf : (freeF rs).length = 1) : nodeF sy rs N = (1, atI sy (itC sy rs blankC i).q (itC sy rs blankC i).ys.reverse, (i : Int)) := by unfold nodeF; rw [runN_ended h]; simp [hh, hf]
theorem nodeF_open {sy : Int} {rs : List R3} {N i : Nat} (h : Ended sy rs blankC N i) (hh : haltC sy rs (itC sy rs blankC i) = true) (hf : ¬ (freeF rs).length = 1) : nodeF sy rs N = (0, atI sy (itC sy rs blankC i).q (itC sy rs blankC i).ys.reverse, (i : Int)) := by unfold nodeF; rw [runN_ended h]; simp [hh, hf]

def NodeP (w : World) (v : Int × Int × Int) (e : Ending) (w' : World) : Prop := e = .returned (.tuple #[.int .i64 v.1, .int .i64 v.2.1, .int .i64 v.2.2]) ∧ Below w.heap.size w w'
theorem nodeP {w w' : World} {v : Int × Int × Int} {a b c : Int} (h : v = (a, b, c)) (z : Below w.heap.size w w') : NodeP w v (.returned (.tuple #[.int .i64 a, .int .i64 b, .int .i64 c])) w' := by subst h; exact ⟨rfl, z⟩

set_option maxHeartbeats 2000000 in
theorem nodeStatus_any (sy st : Int) (A : Option Addr) (n k : Nat) (rs : List R3) (N : Nat) (w : World) (hr : S3 w A n rs) (hn : n ≤ 1048576) (hg : goodC sy st rs blankC) (hN : N ≤ 1000000) :
    Calls Try.prog 133 #[.agg #[.int .i64 sy, .int .i64 st, .slice A n k], .int .i64 (N : Int)] w (NodeP w (nodeF sy rs N)) := by
  obtain ⟨W, hW⟩ : ∃ W, W = w.alloc (.cells #[.int .i64 sy, .int .i64 st, .slice A n k] 82) := ⟨_, rfl⟩
  have b0 : Blk W w.heap.size 82 #[.int .i64 sy, .int .i64 st, .slice A n k] := by rw [hW]; exact Blk.new w _ _
  have y0 : Below w.heap.size w W := by rw [hW]; exact (Below.refl _ _).alloc (Nat.le_refl _) _
  have HW := Lib.hid hW
  clear hW
  have q0 : W.cell? ⟨w.heap.size, 0, none⟩ = some (.int .i64 sy) := b0.cell 0
  have q1 : W.cell? ⟨w.heap.size, 1, none⟩ = some (.int .i64 st) := b0.cell 1
  have q2 : W.cell? ⟨w.heap.size, 2, none⟩ = some (.slice A n k) := b0.cell 2
  go_enter Try.func133, Try.ntmps133
  go_wp2_with fail
  rw [← HW.out]
  refine (blankRun_any _ _ _ _ _ _).mono ?_
  rintro e W1 ⟨g, L, c, R, d, rfl, hg0, hrun, ol, or_, hap, z1⟩
  have hrc := NewRunner.runC hrun ol or_ hap
  have y1 : Below w.heap.size w W1 := y0.trans (z1.mono y0.size)
  clear hrun ol or_ hap q0 q1 q2
  go_wp2_with fail
  refine (run_any W W1 g _ _ _ _ _ rs blankC N hrc (hr.below y0) z1 hg0 hg hn hN).mono ?_
  rintro e W2 ⟨hcase, z2⟩
  have y2 : Below w.heap.size w W2 := y0.trans (z2.mono y0.size)
  have b2 := b0.below' z2
  have q0 : W2.cell? ⟨w.heap.size, 0, none⟩ = some (.int .i64 sy) := b2.cell 0
  have q1 : W2.cell? ⟨w.heap.size, 1, none⟩ = some (.int .i64 st) := b2.cell 1
  have q2 : W2.cell? ⟨w.heap.size, 2, none⟩ = some (.slice A n k) := b2.cell 2
  rcases hcase with ⟨i, hi, rfl, hrc2⟩ | ⟨⟨i, hi⟩, rfl⟩
  · have hg2 := hi.2.1.good hg
    cases hh : haltC sy rs (itC sy rs blankC i) with
    | false =>
      have HF := Lib.hid (nodeF_runs hi hh)
      clear hh
      go_wp2_with fail
      exact bodyPost_ret (v := .tuple #[.int .i64 2, .int .i64 0, .int .i64 (i : Int)]) (by simp [results, Try.results133, go_sem]) rfl (nodeP HF.out y2)
    | true =>
      have HI := Lib.hid hi
      have HH := Lib.hid hh
      clear hh hi
      go_wp2_with fail
      refine (freeRules_any _ _ _ _ _ rs _ (hr.below y2) hn).mono ?_
      rintro e W3 ⟨B, cB, rfl, oB, z3⟩
      have y3 : Below w.heap.size w W3 := y2.trans (z3.mono y2.size)
      have hrc3 := hrc2.below z3
      have hfl := freeTo_len rs rs.length
      have hrl : rs.length = n := hr.len
      have HLEN : Hid ((freeF rs).length ≤ 1048576) := by show (freeTo rs rs.length).length ≤ _; omega
      clear q0 q1 q2 hfl hrl
      by_cases h1 : (freeF rs).length = 1
      · have HF := Lib.hid (nodeF_last HI.out HH.out h1)
        rw [h1]
        go_wp2_with (go_at_call 181; refine (at_c hrc3 hg2).mono ?_; rintro e W4 ⟨rfl, q4, rfl⟩)
        exact bodyPost_ret (v := .tuple #[.int .i64 1, .int .i64 (atI sy (itC sy rs blankC i).q (itC sy rs blankC i).ys.reverse), .int .i64 (i : Int)]) (by simp [results, Try.results133, go_sem]) rfl (nodeP HF.out (below_drewN y3 q4))
      · have HF := Lib.hid (nodeF_open HI.out HH.out h1)
        have h1' : ¬ (((freeF rs).length : Int) = 1) := by omega
        have hl := HLEN.out
        go_wp2_with (go_at_call 181; refine (at_c hrc3 hg2).mono ?_; rintro e W4 ⟨rfl, q4, rfl⟩)
        exact bodyPost_ret (v := .tuple #[.int .i64 0, .int .i64 (atI sy (itC sy rs blankC i).q (itC sy rs blankC i).ys.reverse), .int .i64 (i : Int)]) (by simp [results, Try.results133, go_sem]) rfl (nodeP HF.out (below_drewN y3 q4))
  · have HF := Lib.hid (nodeF_full hi)
    go_wp2_with fail
    exact bodyPost_ret (v := .tuple #[.int .i64 3, .int .i64 0, .int .i64 0]) (by simp [results, Try.results133, go_sem]) rfl (nodeP HF.out y2)

/-- The four numbers that NodeStatus returns. -/
def nodeStatusF (sy st : Int) (rs : List R3) (b : Int) : Int × Int × Int × Int :=
  if codeF sy st rs blankC b = 0 then ((nodeF sy rs b.toNat).1, (nodeF sy rs b.toNat).2.1, (nodeF sy rs b.toNat).2.2, 0) else (0, 0, 0, codeF sy st rs blankC b)
def Node4 (w : World) (v : Int × Int × Int × Int) (e : Ending) (w' : World) : Prop := e = .returned (.tuple #[.int .i64 v.1, .int .i64 v.2.1, .int .i64 v.2.2.1, .int .i64 v.2.2.2]) ∧ Below w.heap.size w w'
theorem node4 {w w' : World} {v : Int × Int × Int × Int} {a b c d : Int} (h : v = (a, b, c, d)) (z : Below w.heap.size w w') : Node4 w v (.returned (.tuple #[.int .i64 a, .int .i64 b, .int .i64 c, .int .i64 d])) w' := by subst h; exact ⟨rfl, z⟩
theorem codeF_zero {sy st : Int} {rs : List R3} {c : Conf} {b : Int} (h : codeF sy st rs c b = 0) : goodC sy st rs c ∧ 1 ≤ b ∧ b ≤ 20000 := by
  unfold codeF at h
  split at h
  · rename_i h1
    split at h
    · rename_i h2
      unfold inB at h2
      simp at h2
      exact ⟨h1, h2.1, h2.2⟩
    · cases h
  · cases h

end Go.Proofs.Ythipbeggaeogcaa
