/-
  Contracts of impl.FindHalt and spec.FindHalt: both return what findHaltF says.
-/
import Derived.Test.YthipbeggaeogcaaPkCellsVisited0
import Derived.Test.YthipbeggaeogcaaPkCellsVisited2
import Derived.Test.YthipbeggaeogcaaPkCellsVisited4
import Derived.BigGuardPart
import Derived.Test.YthipbeggaeogcaaHelpR
import Derived.Test.YthipbeggaeogcaaRows
import Derived.Test.YthipbeggaeogcaaOpen3
namespace Go.Proofs.Ythipbeggaeogcaa
open Go.RowKit

/-- What FindHalt returns: kind and numbers of a proof without words, and a code. -/
def findHaltF (sy st : Int) (rs : List R3) (b : Int) : (Int × List Int) × Int :=
  if codeF sy st rs blankC b = 0 then
    match runN sy rs b.toNat blankC with
    | some i => if haltC sy rs (itC sy rs blankC i) then ((1, [(i : Int)]), 0) else ((0, []), 3)
    | none => ((0, []), 5)
  else ((0, []), codeF sy st rs blankC b)
theorem findHaltF_len (sy st : Int) (rs : List R3) (b : Int) : (findHaltF sy st rs b).1.2.length ≤ 1048576 := by
  unfold findHaltF
  split
  · split
    · split <;> simp
    · simp
  · simp
theorem findHaltF_halt {sy st : Int} {rs : List R3} {N i : Nat} (hc : codeF sy st rs blankC (N : Int) = 0) (h : Ended sy rs blankC N i) (hh : haltC sy rs (itC sy rs blankC i) = true) : findHaltF sy st rs (N : Int) = ((1, [(i : Int)]), 0) := by
  unfold findHaltF; rw [if_pos hc, Int.toNat_natCast, runN_ended h]; simp [hh]
theorem findHaltF_runs {sy st : Int} {rs : List R3} {N i : Nat} (hc : codeF sy st rs blankC (N : Int) = 0) (h : Ended sy rs blankC N i) (hh : haltC sy rs (itC sy rs blankC i) = false) : findHaltF sy st rs (N : Int) = ((0, []), 3) := by
  unfold findHaltF; rw [if_pos hc, Int.toNat_natCast, runN_ended h]; simp [hh]
theorem findHaltF_full {sy st : Int} {rs : List R3} {N i : Nat} (hc : codeF sy st rs blankC (N : Int) = 0) (h : Full sy rs blankC N i) : findHaltF sy st rs (N : Int) = ((0, []), 5) := by
  unfold findHaltF; rw [if_pos hc, Int.toNat_natCast, runN_full h]
theorem findHaltF_code {sy st : Int} {rs : List R3} {b : Int} (hc : ¬ codeF sy st rs blankC b = 0) : findHaltF sy st rs b = ((0, []), codeF sy st rs blankC b) := by
  unfold findHaltF; rw [if_neg hc]
/-- A proof without words in new memory, and a code. -/
def NewPrf2 (w : World) (r : (Int × List Int) × Int) (e : Ending) (w' : World) : Prop :=
  ∃ L c R d, e = .returned (.tuple #[.agg #[.int .i64 r.1.1, .slice L r.1.2.length c, .slice R 0 d], .int .i64 r.2]) ∧ Own w' w.heap.size 2 1 L r.1.2.length c (ints r.1.2) ∧ Below w.heap.size w w'
theorem newPrf2_zero {w wf : World} {k : Int} {r : (Int × List Int) × Int} (hr : r = ((0, []), k)) (hz : Below w.heap.size w wf) : NewPrf2 w r (.returned (.tuple #[.agg #[.int .i64 0, .slice none 0 0, .slice none 0 0], .int .i64 k])) wf := by
  subst hr
  exact ⟨none, 0, none, 0, rfl, Own.nil, hz⟩
theorem newPrf2_one {w wf : World} {a k x : Int} {r : (Int × List Int) × Int} {L R : Option Addr} {c d : Nat} (hr : r = ((a, [x]), k)) (ho : Own wf w.heap.size 2 1 L 1 c [.int .i64 x]) (hz : Below w.heap.size w wf) : NewPrf2 w r (.returned (.tuple #[.agg #[.int .i64 a, .slice L 1 c, .slice R 0 d], .int .i64 k])) wf := by
  subst hr
  exact ⟨L, c, R, d, rfl, ho, hz⟩

-- the reference
theorem codeF_blank (sy st : Int) (rs : List R3) (b : Int) : codeF sy st rs blankC b = if machB sy st rs then (if inB b 1 20000 then 0 else 2) else 1 := by
  unfold codeF; rw [show validConfB sy st rs blankC.q blankC.xs blankC.ys = machB sy st rs from blank_good sy st rs]

set_option maxHeartbeats 1000000 in
theorem l25Ask_any (g : Nat) (sy st : Int) (A : Option Addr) (n k : Nat) (rs : List R3) (b : Int) (w : World) (hm : MachAt w g sy st A n k) (hrs : S3 w A n rs) (hn : n ≤ 1048576) :
    Calls Try.prog 142 #[.pointer (some ⟨g, 0, none⟩), .int .i64 b] w fun e w' => e = .returned (.int .i64 (codeF sy st rs blankC b)) ∧ Below w.heap.size w w' := by
  go_enter Try.func142, Try.ntmps142
  go_wp2_with fail
  refine (l05Is_any _ _ _ _ _ _ rs _ hm hrs hn).mono ?_
  rintro e W1 ⟨rfl, z1⟩
  cases a0 : machB sy st rs
  · have A0 := Lib.hid a0
    clear a0
    go_wp2_with fail
    go_ret
    exact ⟨ret_int (by rw [codeF_blank, A0.out]; rfl), z1⟩
  have A0 := Lib.hid a0
  clear a0
  cases a1 : inB b 1 20000
  · have A1 := Lib.hid a1
    clear a1
    go_wp2_with (go_at_call 73; refine (l05Budget_is A1.out _).mono ?_; rintro e w' ⟨rfl, rfl⟩)
    go_ret
    exact ⟨ret_int (by rw [codeF_blank, A0.out, A1.out]; rfl), z1⟩
  · have A1 := Lib.hid a1
    clear a1
    go_wp2_with (go_at_call 73; refine (l05Budget_is A1.out _).mono ?_; rintro e w' ⟨rfl, rfl⟩)
    go_ret
    exact ⟨ret_int (by rw [codeF_blank, A0.out, A1.out]; rfl), z1⟩

theorem l05Run_blank (g : Nat) (sy st : Int) (A : Option Addr) (n k : Nat) (rs : List R3) (L : Option Addr) (a : Nat) (R : Option Addr) (d : Nat) (N : Nat) (w : World) (hm : MachAt w g sy st A n k) (hrs : S3 w A n rs) (hgc : goodC sy st rs blankC) (hn : n ≤ 1048576) (hN : N ≤ 1000000) :
    Calls Try.prog 173 #[.pointer (some ⟨g, 0, none⟩), .agg #[.int .i64 0, .slice L 0 a, .slice R 0 d], .int .i64 (N : Int)] w (SpecRun w sy rs blankC N) :=
  l05Run_any g sy st A n k rs blankC L a R d N w hm hrs SI.nil SI.nil hgc hn hN

end Go.Proofs.Ythipbeggaeogcaa

/-
  Contracts of CellsVisited on both sides.
-/
namespace Go.Proofs.Ythipbeggaeogcaa
open Go.RowKit

theorem exF_count {sy st : Int} {rs : List R3} {c : Conf} (hg : goodC sy st rs c) : ∀ i, Alive sy rs c i → ((exF sy rs c (i + 1)).2.2.length : Int) = (exF sy rs c (i + 1)).2.1 - (exF sy rs c (i + 1)).1 ∧ (exF sy rs c (i + 1)).1 ≤ posF sy rs c i ∧ posF sy rs c i ≤ (exF sy rs c (i + 1)).2.1 := by
  intro i
  induction i with
  | zero => intro _; rw [exF_one]; simp [posF]
  | succ i ih =>
    intro h
    have hi : Alive sy rs c i := fun j hj => h j (by omega)
    obtain ⟨h1, h2, h3⟩ := ih hi
    have hm := rule_move (hi.good hg) (h i (by omega)).1
    have hp : posF sy rs c (i + 1) = posF sy rs c i + (ruleOf sy rs (itC sy rs c i).q (itC sy rs c i).ys).b := rfl
    have he : exF sy rs c (i + 1 + 1) = if (exF sy rs c (i + 1)).2.1 < posF sy rs c (i + 1) then ((exF sy rs c (i + 1)).1, posF sy rs c (i + 1), (exF sy rs c (i + 1)).2.2 ++ [(((i + 1 : Nat) : Int), 1, (itC sy rs c (i + 1)).q)])
      else if posF sy rs c (i + 1) < (exF sy rs c (i + 1)).1 then (posF sy rs c (i + 1), (exF sy rs c (i + 1)).2.1, (exF sy rs c (i + 1)).2.2 ++ [(((i + 1 : Nat) : Int), -1, (itC sy rs c (i + 1)).q)])
      else exF sy rs c (i + 1) := rfl
    rw [he]
    generalize (ruleOf sy rs (itC sy rs c i).q (itC sy rs c i).ys).b = rb at *
    by_cases c1 : (exF sy rs c (i + 1)).2.1 < posF sy rs c (i + 1)
    · rw [if_pos c1]
      dsimp only
      rw [List.length_append, List.length_singleton]
      omega
    · rw [if_neg c1]
      by_cases c2 : posF sy rs c (i + 1) < (exF sy rs c (i + 1)).1
      · rw [if_pos c2]
        dsimp only
        rw [List.length_append, List.length_singleton]
        omega
      · rw [if_neg c2]
        omega
/-- What CellsVisited returns. -/
def cellsF (sy st : Int) (rs : List R3) (b : Int) : Int × Int :=
  if codeF sy st rs blankC b = 0 then
    match runN sy rs b.toNat blankC with
    | some i => ((exF sy rs blankC (i + 1)).2.1 - (exF sy rs blankC (i + 1)).1 + 1, 0)
    | none => (0, 5)
  else (0, codeF sy st rs blankC b)
theorem cellsF_ended {sy st : Int} {rs : List R3} {N i : Nat} (h : codeF sy st rs blankC (N : Int) = 0) (h2 : Ended sy rs blankC N i) : cellsF sy st rs (N : Int) = ((exF sy rs blankC (i + 1)).2.1 - (exF sy rs blankC (i + 1)).1 + 1, 0) := by unfold cellsF; rw [if_pos h, Int.toNat_natCast, runN_ended h2]
theorem cellsF_full {sy st : Int} {rs : List R3} {N i : Nat} (h : codeF sy st rs blankC (N : Int) = 0) (h2 : Full sy rs blankC N i) : cellsF sy st rs (N : Int) = (0, 5) := by unfold cellsF; rw [if_pos h, Int.toNat_natCast, runN_full h2]
theorem cellsF_code {sy st : Int} {rs : List R3} {b : Int} (h : ¬ codeF sy st rs blankC b = 0) : cellsF sy st rs b = (0, codeF sy st rs blankC b) := by unfold cellsF; rw [if_neg h]
def TwoI (w : World) (v : Int × Int) (e : Ending) (w' : World) : Prop := e = .returned (.tuple #[.int .i64 v.1, .int .i64 v.2]) ∧ Below w.heap.size w w'
theorem twoI {w w' : World} {v : Int × Int} {a b : Int} (h : v = (a, b)) (z : Below w.heap.size w w') : TwoI w v (.returned (.tuple #[.int .i64 a, .int .i64 b])) w' := by subst h; exact ⟨rfl, z⟩

set_option maxHeartbeats 4000000 in
theorem cellsI_any (sy st : Int) (A : Option Addr) (n k : Nat) (rs : List R3) (b : Int) (w : World) (hr : S3 w A n rs) (hn : n ≤ 1048576) :
    Calls Try.prog 64 #[.agg #[.int .i64 sy, .int .i64 st, .slice A n k], .int .i64 b] w (TwoI w (cellsF sy st rs b)) := by
  obtain ⟨W, hW_⟩ : ∃ W, W = w.alloc (.cells #[.int .i64 sy, .int .i64 st, .slice A n k] 82) := ⟨_, rfl⟩
  have b0 : Blk W w.heap.size 82 #[.int .i64 sy, .int .i64 st, .slice A n k] := by rw [hW_]; exact Blk.new w _ _
  have y0 : Below w.heap.size w W := by rw [hW_]; exact (Below.refl _ _).alloc (Nat.le_refl _) _
  have HW := Lib.hid hW_
  clear hW_
  have q0 : W.cell? ⟨w.heap.size, 0, none⟩ = some (.int .i64 sy) := b0.cell 0
  have q1 : W.cell? ⟨w.heap.size, 1, none⟩ = some (.int .i64 st) := b0.cell 1
  have q2 : W.cell? ⟨w.heap.size, 2, none⟩ = some (.slice A n k) := b0.cell 2
  go_enter Try.func64, Try.ntmps64
  go_wp2_with fail
  rw [← HW.out]
  refine (budgeted_any _ _ _ _ _ rs _ _ (hr.below y0) hn).mono ?_
  rintro e W1 ⟨rfl, z1⟩
  have y1 : Below w.heap.size w W1 := y0.trans (z1.mono y0.size)
  have b1 := b0.below' z1
  clear q0 q1 q2
  have q0 : W1.cell? ⟨w.heap.size, 0, none⟩ = some (.int .i64 sy) := b1.cell 0
  have q1 : W1.cell? ⟨w.heap.size, 1, none⟩ = some (.int .i64 st) := b1.cell 1
  have q2 : W1.cell? ⟨w.heap.size, 2, none⟩ = some (.slice A n k) := b1.cell 2
  by_cases hc : codeF sy st rs blankC b = 0
  rotate_left
  · have HF := Lib.hid (cellsF_code hc)
    go_wp2_with fail
    exact bodyPost_ret (v := .tuple #[.int .i64 0, .int .i64 (codeF sy st rs blankC b)]) (by simp [results, Try.results64, go_sem]) rfl (twoI HF.out y1)
  obtain ⟨hg, hb1, hb2⟩ := codeF_zero hc
  obtain ⟨N, rfl⟩ : ∃ N : Nat, b = (N : Int) := ⟨b.toNat, by omega⟩
  have HC := Lib.hid hc
  have HTR := Lib.hid (tracked_any sy st A n k rs N W1 (hr.below y1) hn hg (by omega))
  have HCNT := Lib.hid (fun i h => exF_count (i := i) hg h)
  rw [hc]
  clear hc hg
  go_wp2_with fail
  refine HTR.out.mono ?_
  rintro e W2 (⟨i, b, P, pc, R, rc, rq, hE, rfl, hbx, hps, hrs, hv, z2⟩ | ⟨i, b, hE, rfl, z2⟩)
  · have HF := Lib.hid (cellsF_ended HC.out hE)
    have y2 := y1.trans (z2.mono y1.size)
    have hi := hE.1
    have hex := HCNT.out i hE.2.1
    have hlen := exF_len sy rs blankC (i + 1)
    have hsg := exF_signs sy rs blankC (i + 1)
    clear hE hv q0 q1 q2 hps hrs
    generalize exF sy rs blankC (i + 1) = ex at *
    obtain ⟨l, u, rcs⟩ := ex
    dsimp only at hex hlen hsg HF hbx
    obtain ⟨hex1, _, _⟩ := hex
    obtain ⟨hsg1, hsg2⟩ := hsg
    have x2 : W2.cell? ⟨b, 2, none⟩ = some (.int .i64 l) := hbx.cell 2
    have x3 : W2.cell? ⟨b, 3, none⟩ = some (.int .i64 u) := hbx.cell 3
    have hb2' : u - l ≤ 20001 := by omega
    clear hex1
    go_wp2_with fail
    go_quiet (fail)
    go_wp2_with fail
    exact bodyPost_ret (v := .tuple #[.int .i64 (u - l + 1), .int .i64 0]) (by simp [results, Try.results64, go_sem]) rfl (twoI HF.out (below_drewN y2 _))
  · have HF := Lib.hid (cellsF_full HC.out hE)
    have y2 := y1.trans (z2.mono y1.size)
    clear hE q0 q1 q2
    go_wp2_with fail
    exact bodyPost_ret (v := .tuple #[.int .i64 0, .int .i64 5]) (by simp [results, Try.results64, go_sem]) rfl (twoI HF.out y2)

set_option maxHeartbeats 4000000 in
theorem cellsS_any (sy st : Int) (A : Option Addr) (n k : Nat) (rs : List R3) (b : Int) (w : World) (hr : S3 w A n rs) (hn : n ≤ 1048576) :
    Calls Try.prog 63 #[.agg #[.int .i64 sy, .int .i64 st, .slice A n k], .int .i64 b] w (TwoI w (cellsF sy st rs b)) := by
  obtain ⟨W, hW_⟩ : ∃ W, W = w.alloc (.cells #[.int .i64 sy, .int .i64 st, .slice A n k] 82) := ⟨_, rfl⟩
  have b0 : Blk W w.heap.size 82 #[.int .i64 sy, .int .i64 st, .slice A n k] := by rw [hW_]; exact Blk.new w _ _
  have y0 : Below w.heap.size w W := by rw [hW_]; exact (Below.refl _ _).alloc (Nat.le_refl _) _
  have HW := Lib.hid hW_
  clear hW_
  have hM := b0.machAt
  go_enter Try.func63, Try.ntmps63
  go_wp2_with fail
  rw [← HW.out]
  refine (l25Ask_any _ _ _ _ _ _ rs _ _ hM (hr.below y0) hn).mono ?_
  rintro e W1 ⟨rfl, z1⟩
  have y1 := y0.trans (z1.mono y0.size)
  have hM1 := hM.below z1
  by_cases hc : codeF sy st rs blankC b = 0
  rotate_left
  · have HF := Lib.hid (cellsF_code hc)
    go_wp2_with fail
    exact bodyPost_ret (v := .tuple #[.int .i64 0, .int .i64 (codeF sy st rs blankC b)]) (by simp [results, Try.results63, go_sem]) rfl (twoI HF.out y1)
  obtain ⟨hg, hb1, hb2⟩ := codeF_zero hc
  obtain ⟨N, rfl⟩ : ∃ N : Nat, b = (N : Int) := ⟨b.toNat, by omega⟩
  have HC := Lib.hid hc
  have HPL := Lib.hid (l25Play_any _ sy st A n k rs N W1 hM1 (hr.below y1) hn hg (by omega))
  have HCNT := Lib.hid (fun i h => exF_count (i := i) hg h)
  rw [hc]
  clear hc hg
  go_wp2_with fail
  refine HPL.out.mono ?_
  rintro e W2 (⟨i, b, P, pc, R, rc, C, nc, cc, us, h, hE, rfl, hbx, hO, hnu, z2⟩ | ⟨i, b, v0, v1, v2, v3, hE, rfl, hbx, z2⟩)
  · have hul : (us.length : Int) = (exF sy rs blankC (i + 1)).2.1 - (exF sy rs blankC (i + 1)).1 := by
      have h1 := congrArg List.length hnu
      simp only [nums, List.length_map] at h1
      rw [h1]; exact (HCNT.out i hE.2.1).1
    have hlen := exF_len sy rs blankC (i + 1)
    have hul2 : us.length ≤ i + 1 := by
      have h1 := congrArg List.length hnu
      simp only [nums, List.length_map] at h1
      omega
    have hi := hE.1
    have HF : Hid (cellsF sy st rs (N : Int) = ((us.length : Int) + 1, 0)) := Lib.hid (by rw [cellsF_ended HC.out hE, hul])
    have y2 := y1.trans (z2.mono y1.size)
    have x1 := hbx.cell 1
    have x4 := hbx.cell 4
    clear hE hO hnu hul hlen
    go_wp2_with fail
    exact bodyPost_ret (v := .tuple #[.int .i64 ((us.length : Int) + 1), .int .i64 0]) (by simp [results, Try.results63, go_sem]) rfl (twoI HF.out y2)
  · have HF := Lib.hid (cellsF_full HC.out hE)
    have y2 := y1.trans (z2.mono y1.size)
    have x4 := hbx.cell 4
    clear hE
    go_wp2_with fail
    exact bodyPost_ret (v := .tuple #[.int .i64 0, .int .i64 5]) (by simp [results, Try.results63, go_sem]) rfl (twoI HF.out y2)
end Go.Proofs.Ythipbeggaeogcaa

/-
  Contracts of the laws' helpers over Machine: szMachine, toMachine, eqMachine, markMachine.
-/
namespace Go.Proofs.Ythipbeggaeogcaa
open Go.RowKit

set_option maxHeartbeats 400000 in
theorem szMachine_any (d0 : Int) (d1 : Int) (A0 : Option Addr) (n0 c0 : Nat) (left : Int) (w : World) (h0 : n0 ≤ 9223372036854775807) (g0 : 0 ≤ left) (g1 : left ≤ 1048576) :
    Calls Try.prog 50 #[.agg #[.int .i64 d0, .int .i64 d1, .slice A0 n0 c0], .int .i64 left] w (SzP w left ((n0 : Int))) := by
  obtain ⟨W, hW⟩ : ∃ W, W = w.alloc (.cells #[.int .i64 d0, .int .i64 d1, .slice A0 n0 c0] 77) := ⟨_, rfl⟩
  have b0 : Blk W w.heap.size 77 #[.int .i64 d0, .int .i64 d1, .slice A0 n0 c0] := by rw [hW]; exact Blk.new w _ _
  have z0 : Below w.heap.size w W := by rw [hW]; exact (Below.refl _ _).alloc (Nat.le_refl _) _
  have HW := Lib.hid hW
  clear hW
  go_enter Try.func50, Try.ntmps50
  go_wp2_with fail
  rw [← HW.out]
  refine (szR_p A0 n0 c0 left W h0 (by omega) (by omega)).mono ?_
  rintro e w1 ⟨z1, rfl, l1, u1, e1, b1⟩
  have E1 := Lib.hid e1
  clear e1
  have y1 : Below w.heap.size w w1 := z0.trans (b1.mono z0.size)
  by_cases hneg1 : z1 < 0
  · go_wp2_with fail
    go_ret
    exact ⟨-1, rfl, by omega, by omega, by omega, y1⟩
  go_wp2_with fail
  go_ret
  exact ⟨z1, rfl, by omega, by omega, fun _ => by have t1 := E1.out (by omega); omega, y1⟩

def ToMachine (w : World) (d0 : Int) (d1 : Int) (n0 : Nat) (x0 : List R3) (e : Ending) (w' : World) : Prop :=
  ∃ B0, e = .returned (.agg #[.int .i64 d0, .int .i64 d1, .slice B0 n0 n0]) ∧ Own w' w.heap.size 169 3 B0 n0 n0 (cells3 x0) ∧ Below w.heap.size w w'

set_option maxHeartbeats 1000000 in
theorem toMachine_any (d0 : Int) (d1 : Int) (A0 : Option Addr) (n0 c0 : Nat) (x0 : List R3) (w : World) (r0 : S3 w A0 n0 x0) (h0 : n0 ≤ 1048576) :
    Calls Try.prog 52 #[.agg #[.int .i64 d0, .int .i64 d1, .slice A0 n0 c0]] w (ToMachine w d0 d1 n0 x0) := by
  obtain ⟨W, hW⟩ : ∃ W, W = ((w.alloc (.cells #[.int .i64 d0, .int .i64 d1, .slice A0 n0 c0] 77)).alloc (.cells #[.int .i64 0, .int .i64 0, .slice none 0 0] 82)).alloc (.cells #[.int .i64 d0, .int .i64 d1, .slice none 0 0] 82) := ⟨_, rfl⟩
  have s1 : (w.alloc (.cells #[.int .i64 d0, .int .i64 d1, .slice A0 n0 c0] 77)).heap.size = w.heap.size + 1 := by simp
  have s2 : ((w.alloc (.cells #[.int .i64 d0, .int .i64 d1, .slice A0 n0 c0] 77)).alloc (.cells #[.int .i64 0, .int .i64 0, .slice none 0 0] 82)).heap.size = w.heap.size + 1 + 1 := by simp
  have b0 : Blk W w.heap.size 77 #[.int .i64 d0, .int .i64 d1, .slice A0 n0 c0] := by rw [hW]; exact ((Blk.new w _ _).alloc _).alloc _
  have b1 : Blk W (w.heap.size + 1) 82 #[.int .i64 0, .int .i64 0, .slice none 0 0] := by rw [hW, ← s1]; exact (Blk.new _ _ _).alloc _
  have b2 : Blk W (w.heap.size + 1 + 1) 82 #[.int .i64 d0, .int .i64 d1, .slice none 0 0] := by rw [hW, ← s2]; exact Blk.new _ _ _
  have y0 : Below w.heap.size w W := by rw [hW]; exact (((Below.refl _ _).alloc (Nat.le_refl _) _).alloc (by simp) _).alloc (by simp; omega) _
  have hz : w.heap.size + 1 + 1 < W.heap.size := b2.lt
  have HW := Lib.hid hW
  clear hW s1 s2
  go_enter Try.func52, Try.ntmps52
  go_wp2_with fail
  rw [← HW.out]
  clear HW
  refine (toR _ _ _ x0 _ (r0.below y0) h0).mono ?_
  rintro e w0 ⟨B0, rfl, o0, bz0⟩
  have b0 := b0.below' bz0
  have b1 := b1.below' bz0
  have b2 := b2.below' bz0
  have yc0 : Below w.heap.size w w0 := y0.trans (bz0.mono y0.size)
  have hw0 : W.heap.size ≤ w0.heap.size := by have := bz0.size; omega
  have p0 : w0.cell? ⟨w.heap.size + 1 + 1, 2, none⟩ = some (.slice none 0 0) := b2.cell 2
  have pf0 := b2.frozen 2
  have a0 : w0.cell? ⟨w.heap.size + 1 + 1, 0, none⟩ = some (.int .i64 d0) := b2.cell 0
  have a1 : w0.cell? ⟨w.heap.size + 1 + 1, 1, none⟩ = some (.int .i64 d1) := b2.cell 1
  have c0_ : w0.cell? ⟨w.heap.size + 1, 0, none⟩ = some (.int .i64 0) := b1.cell 0
  have f0_ := b1.frozen 0
  have c1_ : w0.cell? ⟨w.heap.size + 1, 1, none⟩ = some (.int .i64 0) := b1.cell 1
  have f1_ := b1.frozen 1
  have c2_ : w0.cell? ⟨w.heap.size + 1, 2, none⟩ = some (.slice none 0 0) := b1.cell 2
  have f2_ := b1.frozen 2
  go_wp2_with fail
  have dB : Blk ((((w0.setCell ⟨w.heap.size + 1 + 1, 2, none⟩ (.slice B0 n0 n0)).setCell ⟨w.heap.size + 1, 0, none⟩ (.int .i64 d0)).setCell ⟨w.heap.size + 1, 1, none⟩ (.int .i64 d1)).setCell ⟨w.heap.size + 1, 2, none⟩ (.slice B0 n0 n0)) (w.heap.size + 1) 82 #[.int .i64 d0, .int .i64 d1, .slice B0 n0 n0] := (((b1.far (p := ⟨w.heap.size + 1 + 1, 2, none⟩) (by simp) _).set_ 0 _).set_ 1 _).set_ 2 _
  have m0 : Own ((((w0.setCell ⟨w.heap.size + 1 + 1, 2, none⟩ (.slice B0 n0 n0)).setCell ⟨w.heap.size + 1, 0, none⟩ (.int .i64 d0)).setCell ⟨w.heap.size + 1, 1, none⟩ (.int .i64 d1)).setCell ⟨w.heap.size + 1, 2, none⟩ (.slice B0 n0 n0)) W.heap.size 169 3 B0 n0 n0 (cells3 x0) := (((o0.far (fun e => by have := o0.blk_ge _ e; simp at this; omega) _).far (fun e => by have := o0.blk_ge _ e; simp at this; omega) _).far (fun e => by have := o0.blk_ge _ e; simp at this; omega) _).far (fun e => by have := o0.blk_ge _ e; simp at this; omega) _
  have yf : Below w.heap.size w ((((w0.setCell ⟨w.heap.size + 1 + 1, 2, none⟩ (.slice B0 n0 n0)).setCell ⟨w.heap.size + 1, 0, none⟩ (.int .i64 d0)).setCell ⟨w.heap.size + 1, 1, none⟩ (.int .i64 d1)).setCell ⟨w.heap.size + 1, 2, none⟩ (.slice B0 n0 n0)) := (((yc0.setCell (by simp; omega) _).setCell (by simp) _).setCell (by simp) _).setCell (by simp) _
  generalize (((w0.setCell ⟨w.heap.size + 1 + 1, 2, none⟩ (.slice B0 n0 n0)).setCell ⟨w.heap.size + 1, 0, none⟩ (.int .i64 d0)).setCell ⟨w.heap.size + 1, 1, none⟩ (.int .i64 d1)).setCell ⟨w.heap.size + 1, 2, none⟩ (.slice B0 n0 n0) = wf at *
  have g0_ : wf.cell? ⟨w.heap.size + 1, 0, none⟩ = some (.int .i64 d0) := dB.cell 0
  have g1_ : wf.cell? ⟨w.heap.size + 1, 1, none⟩ = some (.int .i64 d1) := dB.cell 1
  have g2_ : wf.cell? ⟨w.heap.size + 1, 2, none⟩ = some (.slice B0 n0 n0) := dB.cell 2
  have hres : ToMachine w d0 d1 n0 x0 (.returned (.agg #[.int .i64 d0, .int .i64 d1, .slice B0 n0 n0])) wf := ⟨B0, rfl, m0.mono (by omega), yf⟩
  exact bodyPost_ret (v := .agg #[.int .i64 d0, .int .i64 d1, .slice B0 n0 n0]) (by simp [results, Try.results52, go_sem, g0_, g1_, g2_]) rfl hres

def sameMachineB (d0 d0' : Int) (d1 d1' : Int) (x0 x0' : List R3) : Bool :=
  decide (d0 = d0') && decide (d1 = d1') && same3 x0 x0'
theorem sameMachineB_self (d0 : Int) (d1 : Int) (x0 : List R3) : sameMachineB d0 d0 d1 d1 x0 x0 = true := by simp [sameMachineB, same3]

set_option maxHeartbeats 1000000 in
theorem eqMachine_any (d0 : Int) (d1 : Int) (A0 : Option Addr) (n0 c0 : Nat) (x0 : List R3) (d0' : Int) (d1' : Int) (A0' : Option Addr) (n0' c0' : Nat) (x0' : List R3) (w : World) (r0 : S3 w A0 n0 x0) (r0' : S3 w A0' n0' x0') (h0 : n0 ≤ 1048576) :
    Calls Try.prog 54 #[.agg #[.int .i64 d0, .int .i64 d1, .slice A0 n0 c0], .agg #[.int .i64 d0', .int .i64 d1', .slice A0' n0' c0']] w fun e w' => e = .returned (.bool (sameMachineB d0 d0' d1 d1' x0 x0')) ∧ Below w.heap.size w w' := by
  obtain ⟨W, hW⟩ : ∃ W, W = (w.alloc (.cells #[.int .i64 d0, .int .i64 d1, .slice A0 n0 c0] 82)).alloc (.cells #[.int .i64 d0', .int .i64 d1', .slice A0' n0' c0'] 82) := ⟨_, rfl⟩
  have s1 : (w.alloc (.cells #[.int .i64 d0, .int .i64 d1, .slice A0 n0 c0] 82)).heap.size = w.heap.size + 1 := by simp
  have b0 : Blk W w.heap.size 82 #[.int .i64 d0, .int .i64 d1, .slice A0 n0 c0] := by rw [hW]; exact (Blk.new w _ _).alloc _
  have b1 : Blk W (w.heap.size + 1) 82 #[.int .i64 d0', .int .i64 d1', .slice A0' n0' c0'] := by rw [hW, ← s1]; exact Blk.new _ _ _
  have y0 : Below w.heap.size w W := by rw [hW]; exact ((Below.refl _ _).alloc (Nat.le_refl _) _).alloc (by simp) _
  have HW := Lib.hid hW
  clear hW s1
  cases hd_d0 : (d0 != d0')
  · skip
    have HD_d0 := Lib.hid (show d0 = d0' by simpa using hd_d0)
    cases hd_d1 : (d1 != d1')
    · skip
      have HD_d1 := Lib.hid (show d1 = d1' by simpa using hd_d1)
      go_enter Try.func54, Try.ntmps54
      go_wp2_with fail
      rw [← HW.out]
      clear hd_d0 hd_d1
      refine (eqR _ _ _ _ _ _ x0 x0' _ (r0.below y0) (r0'.below y0) (by omega)).mono ?_
      rintro e w0 ⟨rfl, bz0⟩
      have yy0 : Below w.heap.size w w0 := y0.trans (bz0.mono y0.size)
      have b0 := b0.below' bz0
      have b1 := b1.below' bz0
      cases hs0 : same3 x0 x0'
      · have HS := Lib.hid hs0
        clear hs0
        go_wp2_with fail
        go_ret
        exact ⟨ret_bool (by unfold sameMachineB; rw [HS.out]; simp), yy0⟩
      · skip
        have HS0 := Lib.hid hs0
        clear hs0
        go_wp2_with fail
        go_ret
        exact ⟨ret_bool (by unfold sameMachineB; rw [HS0.out]; simp [HD_d0.out, HD_d1.out]), yy0⟩
    · have HD := Lib.hid (show ¬ d1 = d1' by simpa using hd_d1)
      go_enter Try.func54, Try.ntmps54
      go_wp2_with fail
      rw [← HW.out]
      go_ret
      exact ⟨ret_bool (by unfold sameMachineB; simp [HD.out]), y0⟩
  · have HD := Lib.hid (show ¬ d0 = d0' by simpa using hd_d0)
    go_enter Try.func54, Try.ntmps54
    go_wp2_with fail
    rw [← HW.out]
    go_ret
    exact ⟨ret_bool (by unfold sameMachineB; simp [HD.out]), y0⟩

set_option maxHeartbeats 400000 in
theorem markMachine_m (T : List TypeId) (d0 : Int) (d1 : Int) (A0 : Option Addr) (n0 c0 : Nat) (p : Int) (w : World) (lo hi : Nat) (m0 : Mk w lo hi 169 3 A0 n0) (h0 : n0 ≤ 1048576) (tR : 169 ∈ T) (tX : 82 ∉ T) (g0 : 0 ≤ p) (g1 : p ≤ 9223372036800000000) :
    Calls Try.prog 55 #[.agg #[.int .i64 d0, .int .i64 d1, .slice A0 n0 c0], .int .i64 p] w (MarkP T w lo hi (n0 * 3) p) := by
  obtain ⟨W, hW⟩ : ∃ W, W = w.alloc (.cells #[.int .i64 d0, .int .i64 d1, .slice A0 n0 c0] 82) := ⟨_, rfl⟩
  have b0 : Blk W w.heap.size 82 #[.int .i64 d0, .int .i64 d1, .slice A0 n0 c0] := by rw [hW]; exact Blk.new w _ _
  have z0 : Below w.heap.size w W := by rw [hW]; exact (Below.refl _ _).alloc (Nat.le_refl _) _
  have HW := Lib.hid hW
  clear hW
  have TR := Lib.hid tR
  have TX := Lib.hid tX
  clear tR tX
  go_enter Try.func55, Try.ntmps55
  have f0 : MkF T lo hi w W := MkF.of_below z0
  go_wp2_with fail
  rw [← HW.out]
  refine (markR_m T _ _ _ _ _ lo hi (m0.mkf f0) TR.out (by omega) (by omega)).mono ?_
  rintro e w0 ⟨rfl, ff0⟩
  have f1 := f0.trans ff0
  have b0 := b0.mkf ff0 TX.out
  go_wp2_with fail
  go_ret
  exact ⟨ret_int (by omega), f1⟩
end Go.Proofs.Ythipbeggaeogcaa

/-
  The walk of the law FnExactCellsVisited: it returns true, and nothing that was there before has turned.
-/
namespace Go.Proofs.Ythipbeggaeogcaa
open Go.RowKit

set_option maxRecDepth 100000 in
set_option maxHeartbeats 4000000 in
theorem lawCellsVisited (sy st : Int) (A : Option Addr) (n c : Nat) (rs : List R3) (b : Int) (w : World) (hr : S3 w A n rs) (hn : n ≤ 9223372036854775807) :
    Calls Try.prog 12 #[.agg #[.int .i64 sy, .int .i64 st, .slice A n c], .int .i64 b] w fun e w' => e = .returned (.bool true) ∧ Below w.heap.size w w' := by
  obtain ⟨W0, hW0⟩ : ∃ W, W = w.alloc (.cells #[.int .i64 sy, .int .i64 st, .slice A n c] 77) := ⟨_, rfl⟩
  have b0 : Blk W0 w.heap.size 77 #[.int .i64 sy, .int .i64 st, .slice A n c] := by rw [hW0]; exact Blk.new w _ _
  have z0 : Below w.heap.size w W0 := by rw [hW0]; exact (Below.refl _ _).alloc (Nat.le_refl _) _
  have HW0 := Lib.hid hW0
  clear hW0
  have u0 : W0.cell? ⟨w.heap.size, 0, none⟩ = some (.int .i64 sy) := b0.cell 0
  have u1 : W0.cell? ⟨w.heap.size, 1, none⟩ = some (.int .i64 st) := b0.cell 1
  have u2 : W0.cell? ⟨w.heap.size, 2, none⟩ = some (.slice A n c) := b0.cell 2
  go_enter Try.func12, Try.ntmps12
  go_wp2_with fail
  rw [← HW0.out]
  refine (szMachine_any _ _ _ _ _ _ _ hn (by omega) (by omega)).mono ?_
  rintro e W1 ⟨z, rfl, hz1, hz2, hz3, z1⟩
  have HZ3 := Lib.hid hz3
  clear hz3
  have b1 := b0.below' z1
  have y1 : Below w.heap.size w W1 := z0.trans (z1.mono z0.size)
  clear u0 u1 u2
  have u0 : W1.cell? ⟨w.heap.size, 0, none⟩ = some (.int .i64 sy) := b1.cell 0
  have u1 : W1.cell? ⟨w.heap.size, 1, none⟩ = some (.int .i64 st) := b1.cell 1
  have u2 : W1.cell? ⟨w.heap.size, 2, none⟩ = some (.slice A n c) := b1.cell 2
  by_cases hneg : z < 0
  · go_wp2_with fail
    go_ret
    exact ⟨rfl, y1⟩
  have hn' : n ≤ 1048576 := by have := HZ3.out (by omega); omega
  -- the reference
  go_wp2_with fail
  refine (toMachine_any _ _ _ _ _ rs _ (hr.below y1) hn').mono ?_
  rintro e W2 ⟨A2, rfl, o2, z2⟩
  have y2 : Below w.heap.size w W2 := y1.trans (z2.mono y1.size)
  clear u0 u1 u2
  go_wp2_with fail
  refine (cellsS_any _ _ _ _ _ rs _ _ o2.rd hn').mono ?_
  obtain ⟨res, hres⟩ : ∃ res, res = cellsF sy st rs b := ⟨_, rfl⟩
  rw [← hres]
  have HRES := Lib.hid hres
  clear hres
  rintro e W4 ⟨rfl, z4⟩
  have y4 : Below w.heap.size w W4 := y2.trans (z4.mono y2.size)
  have b4 := (b1.below' z2).below' z4
  have u0 : W4.cell? ⟨w.heap.size, 0, none⟩ = some (.int .i64 sy) := b4.cell 0
  have u1 : W4.cell? ⟨w.heap.size, 1, none⟩ = some (.int .i64 st) := b4.cell 1
  have u2 : W4.cell? ⟨w.heap.size, 2, none⟩ = some (.slice A n c) := b4.cell 2
  -- the copy
  go_wp2_with fail
  refine (toMachine_any _ _ _ _ _ rs _ (hr.below y4) hn').mono ?_
  rintro e W5 ⟨A5, rfl, o5, z5⟩
  clear u0 u1 u2
  obtain ⟨W6, hW6⟩ : ∃ W, W = W5.alloc (.cells #[.int .i64 sy, .int .i64 st, .slice A5 n n] 82) := ⟨_, rfl⟩
  have b6 : Blk W6 W5.heap.size 82 #[.int .i64 sy, .int .i64 st, .slice A5 n n] := by rw [hW6]; exact Blk.new W5 _ _
  have z6 : Below W5.heap.size W5 W6 := by rw [hW6]; exact (Below.refl _ _).alloc (Nat.le_refl _) _
  have HW6 := Lib.hid hW6
  clear hW6
  have y5 : Below w.heap.size w W5 := y4.trans (z5.mono y4.size)
  have y6 : Below w.heap.size w W6 := y5.trans (z6.mono y5.size)
  have u0 : W6.cell? ⟨W5.heap.size, 0, none⟩ = some (.int .i64 sy) := b6.cell 0
  have u1 : W6.cell? ⟨W5.heap.size, 1, none⟩ = some (.int .i64 st) := b6.cell 1
  have u2 : W6.cell? ⟨W5.heap.size, 2, none⟩ = some (.slice A5 n n) := b6.cell 2
  have o6 := o5.below z6
  -- the program
  go_wp2_with fail
  rw [← HW6.out]
  try go_wp2_with fail
  refine (cellsI_any _ _ _ _ _ rs _ _ o6.rd hn').mono ?_
  rw [← HRES.out]
  rintro e W8 ⟨rfl, z8⟩
  have y8 : Below w.heap.size w W8 := y6.trans (z8.mono y6.size)
  have z48 : Below W4.heap.size W4 W8 := (z5.trans (z6.mono z5.size)).trans (z8.mono (by have := z5.size; have := z6.size; omega))
  clear u0 u1 u2
  have b8 := b6.below' z8
  have c8 := b4.below' z48
  have o8 := o6.below z8
  have u0 : W8.cell? ⟨W5.heap.size, 0, none⟩ = some (.int .i64 sy) := b8.cell 0
  have u1 : W8.cell? ⟨W5.heap.size, 1, none⟩ = some (.int .i64 st) := b8.cell 1
  have u2 : W8.cell? ⟨W5.heap.size, 2, none⟩ = some (.slice A5 n n) := b8.cell 2
  have v0 : W8.cell? ⟨w.heap.size, 0, none⟩ = some (.int .i64 sy) := c8.cell 0
  have v1 : W8.cell? ⟨w.heap.size, 1, none⟩ = some (.int .i64 st) := c8.cell 1
  have v2 : W8.cell? ⟨w.heap.size, 2, none⟩ = some (.slice A n c) := c8.cell 2
  obtain ⟨r0, r1⟩ := res
  dsimp only
  go_wp2_with fail
  go_region_held3 (fun w' => w'.cell? ⟨W5.heap.size, 0, none⟩ = some (.int .i64 sy) ∧ w'.cell? ⟨W5.heap.size, 1, none⟩ = some (.int .i64 st) ∧ w'.cell? ⟨W5.heap.size, 2, none⟩ = some (.slice A5 n n) ∧
      w'.cell? ⟨w.heap.size, 0, none⟩ = some (.int .i64 sy) ∧ w'.cell? ⟨w.heap.size, 1, none⟩ = some (.int .i64 st) ∧ w'.cell? ⟨w.heap.size, 2, none⟩ = some (.slice A n c))
    (first
      | (go_keep; done)
      | (exact ⟨(b8.below' z11).cell 0, (b8.below' z11).cell 1, (b8.below' z11).cell 2, (c8.below' z11).cell 0, (c8.below' z11).cell 1, (c8.below' z11).cell 2⟩)
      | (exact ⟨(b8.below' z10).cell 0, (b8.below' z10).cell 1, (b8.below' z10).cell 2, (c8.below' z10).cell 0, (c8.below' z10).cell 1, (c8.below' z10).cell 2⟩))
    (first
      | (go_at_call 52; refine (toMachine_any _ _ _ _ _ rs _ ((hr.below y8).drewN 1) hn').mono ?_; rintro e W10 ⟨A10, rfl, o10, z10'⟩; have z10 : Below W8.heap.size W8 W10 := below_undrew z10')
      | (go_at_call 54; refine (eqMachine_any _ _ _ _ _ rs _ _ _ _ _ rs _ (o8.below z10).rd o10.rd hn').mono ?_; rintro e W11 ⟨rfl, z11'⟩; have z11 : Below W8.heap.size W8 W11 := z10.trans (z11'.mono z10.size)))
  rw [sameMachineB_self]
  go_wp2_with fail
  go_ret
  exact ⟨rfl, y8.trans (z11.mono y8.size)⟩
end Go.Proofs.Ythipbeggaeogcaa

/-
  For every input, FnExactCellsVisited returns true, and each argument reads afterwards as it read before. No conditions.
-/
namespace Go.Proofs.Ythipbeggaeogcaa.lawCellsVisitedRow
open Go.ChangeShapes Go.WideShapes Go.ChangeAt Go.RowKit Go.Joins Go.Proofs.Ythipbeggaeogcaa

theorem own : ownKnob Try.prog.godebug = none := by kernel_rfl
theorem laidOut : laidOutB Try.prog = true := by kernel_rfl
theorem readable : ∀ t ∈ Try.f12.params.toList, Try.prog.readableRec t = true ∧ t < Try.prog.types.size := by
  have h : (Try.f12.params.toList.all fun t => Try.prog.readableRec t && decide (t < Try.prog.types.size)) = true := by kernel_rfl
  intro t ht
  have := List.all_eq_true.1 h t ht
  simpa using this

set_option maxRecDepth 100000 in
theorem lifted (os : Os) (started : os.Started) (H : Type) (enc : TypeId × Value → H) :
    ReturnsInHanded {} Try.checked os 12 .any (Rows.fnExactCellsVisitedSpec.pre6 enc Try.prog Try.f12 Rows.fnExactCellsVisitedRow.domain false) (Rows.fnExactCellsVisitedSpec.post enc Try.prog Try.f12 false true false false) := by
  refine returnsInHanded_of_change (C := Try.checked) own started (by kernel_rfl) Try.func12
    (ChangeSpec.witness6 (enc := enc) (C := Try.checked) false ⟨#[], #[.agg #[.int .i64 0, .int .i64 0, .slice none 0 0], .int .i64 0], []⟩ 8 (by kernel_rfl) (by kernel_rfl) (by kernel_rfl) (by kernel_rfl)) ?_
  intro W base args ds gs before hval0 hW hcnd _
  have hval : ∀ (j : Nat) t v, Try.f12.params[j]? = some t → args[j]? = some v → Value.okWide Try.prog W .any base t v := hval0
  have hW' := hW
  obtain ⟨p, q, hA0, hV, hbef, hfz, hnd⟩ := hW
  have hA : DataW.TrodAll enc Try.prog W 0 (fun _ => true) true Try.f12.params.toList args.toList ds p := hA0
  rw [Try.params12] at hA hval
  obtain ⟨v0, vs0, d0, ds0, p0, q0, hargs, rfl, rfl, h0, r0⟩ := trodAll_cons hA
  obtain ⟨v1, vs1, d1, ds1, p1, q1, rfl, rfl, rfl, h1, r1⟩ := trodAll_cons r0
  obtain ⟨rfl, rfl, rfl⟩ := trodAll_nil r1
  obtain rfl : args = #[v0, v1] := by cases args; simp_all
  obtain ⟨rfl, rfl⟩ := trodVars_none hV
  obtain ⟨c00, c01, c02, y00, y01, y02, nn0, rfl, _, _, e00, e01, e02⟩ := open_agg3 Try.underlying77 (by kernel_rfl) (by kernel_rfl) (hval 0 77 v0 rfl rfl) h0
  obtain ⟨z00, ez, _, _⟩ := DataW.trod_int Try.underlying2 e00
  simp only [List.cons.injEq, and_true] at ez
  subst ez
  obtain ⟨z01, ez, _, _⟩ := DataW.trod_int Try.underlying2 e01
  simp only [List.cons.injEq, and_true] at ez
  subst ez
  obtain ⟨A02, n02, k02, x02, rfl, S02, l02, m02⟩ := s3_of_trod Try.underlying75 Try.underlying221 rfl rfl rfl rfl rfl rfl Try.underlying2 (by kernel_rfl) (by kernel_rfl) e02
  obtain ⟨b1, rfl⟩ := okWide_int Try.underlying2 (hval 1 2 v1 rfl rfl)
  refine (lawCellsVisited z00 z01 A02 n02 k02 x02 b1 W S02 (by omega)).mono fun e W' ⟨he, hb⟩ => ?_
  subst he
  exact ⟨_, rfl, law_post laidOut readable rfl (by kernel_rfl) Try.underlying4 rfl rfl rfl hW' hb⟩

theorem proved : Rows.FnExactCellsVisitedSaid :=
  OpenClaim.holds_of_wide 12 Try.f12 rfl rfl rfl rfl rfl rfl rfl ⟨rfl, rfl, rfl, rfl, rfl⟩ rfl rfl rfl rfl rfl (by kernel_rfl) Try.func12 (by kernel_rfl)
    (of_decide_eq_true (by kernel_rfl)) (by unfold Func.isWrapper; first | (rw [if_pos (by decide +kernel)]; kernel_rfl) | (rw [if_neg (by decide +kernel)]; exact ⟨rfl, rfl⟩))
    (fun os started H enc _ => lifted os started H enc)
end Go.Proofs.Ythipbeggaeogcaa.lawCellsVisitedRow
