/-
  Contracts of impl.FindHalt and spec.FindHalt: both return what findHaltF says.
-/
import Derived.Test.YthipbeggaeogcaaPkRecordsOf2
import Derived.Test.YthipbeggaeogcaaPkRecordsOf4
namespace Go.Proofs.Ythipbeggaeogcaa
open Go.RowKit

/-- What FindHalt returns: kind and numbers of a proof without words, and a code. -/
def findHaltF (sy st : Int) (rs : List R3) (b : Int) : (Int × List Int) × Int :=
  if codeF sy st rs blankC b = 0 then
    match runN sy rs b.toNat blankC with
    | some i => if haltC sy rs (itC sy rs blankC i) then ((1, [(i : Int)]), 0) else ((0, []), 3)
    | none => ((0, []), 5)
  else ((0, []), codeF sy st rs blankC b)
theorem findHaltF_len (sy st : Int) (rs : List R3) (b : Int) : (findHaltF sy st rs b).1.2.length ≤ 1048576 := by
  unfold findHaltF
  split
  · split
    · split <;> simp
    · simp
  · simp
theorem findHaltF_halt {sy st : Int} {rs : List R3} {N i : Nat} (hc : codeF sy st rs blankC (N : Int) = 0) (h : Ended sy rs blankC N i) (hh : haltC sy rs (itC sy rs blankC i) = true) : findHaltF sy st rs (N : Int) = ((1, [(i : Int)]), 0) := by
  unfold findHaltF; rw [if_pos hc, Int.toNat_natCast, runN_ended h]; simp [hh]
theorem findHaltF_runs {sy st : Int} {rs : List R3} {N i : Nat} (hc : codeF sy st rs blankC (N : Int) = 0) (h : Ended sy rs blankC N i) (hh : haltC sy rs (itC sy rs blankC i) = false) : findHaltF sy st rs (N : Int) = ((0, []), 3) := by
  unfold findHaltF; rw [if_pos hc, Int.toNat_natCast, runN_ended h]; simp [hh]
theorem findHaltF_full {sy st : Int} {rs : List R3} {N i : Nat} (hc : codeF sy st rs blankC (N : Int) = 0) (h : Full sy rs blankC N i) : findHaltF sy st rs (N : Int) = ((0, []), 5) := by
  unfold findHaltF; rw [if_pos hc, Int.toNat_natCast, runN_full h]
theorem findHaltF_code {sy st : Int} {rs : List R3} {b : Int} (hc : ¬ codeF sy st rs blankC b = 0) : findHaltF sy st rs b = ((0, []), codeF sy st rs blankC b) := by
  unfold findHaltF; rw [if_neg hc]
/-- A proof without words in new memory, and a code. -/
def NewPrf2 (w : World) (r : (Int × List Int) × Int) (e : Ending) (w' : World) : Prop :=
  ∃ L c R d, e = .returned (.tuple #[.agg #[.int .i64 r.1.1, .slice L r.1.2.length c, .slice R 0 d], .int .i64 r.2]) ∧ Own w' w.heap.size 2 1 L r.1.2.length c (ints r.1.2) ∧ Below w.heap.size w w'
theorem newPrf2_zero {w wf : World} {k : Int} {r : (Int × List Int) × Int} (hr : r = ((0, []), k)) (hz : Below w.heap.size w wf) : NewPrf2 w r (.returned (.tuple #[.agg #[.int .i64 0, .slice none 0 0, .slice none 0 0], .int .i64 k])) wf := by
  subst hr
  exact ⟨none, 0, none, 0, rfl, Own.nil, hz⟩
theorem newPrf2_one {w wf : World} {a k x : Int} {r : (Int × List Int) × Int} {L R : Option Addr} {c d : Nat} (hr : r = ((a, [x]), k)) (ho : Own wf w.heap.size 2 1 L 1 c [.int .i64 x]) (hz : Below w.heap.size w wf) : NewPrf2 w r (.returned (.tuple #[.agg #[.int .i64 a, .slice L 1 c, .slice R 0 d], .int .i64 k])) wf := by
  subst hr
  exact ⟨L, c, R, d, rfl, ho, hz⟩

-- the reference
theorem codeF_blank (sy st : Int) (rs : List R3) (b : Int) : codeF sy st rs blankC b = if machB sy st rs then (if inB b 1 20000 then 0 else 2) else 1 := by
  unfold codeF; rw [show validConfB sy st rs blankC.q blankC.xs blankC.ys = machB sy st rs from blank_good sy st rs]

set_option maxHeartbeats 1000000 in
theorem l25Ask_any (g : Nat) (sy st : Int) (A : Option Addr) (n k : Nat) (rs : List R3) (b : Int) (w : World) (hm : MachAt w g sy st A n k) (hrs : S3 w A n rs) (hn : n ≤ 1048576) :
    Calls Try.prog 142 #[.pointer (some ⟨g, 0, none⟩), .int .i64 b] w fun e w' => e = .returned (.int .i64 (codeF sy st rs blankC b)) ∧ Below w.heap.size w w' := by
  go_enter Try.func142, Try.ntmps142
  go_wp2_with fail
  refine (l05Is_any _ _ _ _ _ _ rs _ hm hrs hn).mono ?_
  rintro e W1 ⟨rfl, z1⟩
  cases a0 : machB sy st rs
  · have A0 := Lib.hid a0
    clear a0
    go_wp2_with fail
    go_ret
    exact ⟨ret_int (by rw [codeF_blank, A0.out]; rfl), z1⟩
  have A0 := Lib.hid a0
  clear a0
  cases a1 : inB b 1 20000
  · have A1 := Lib.hid a1
    clear a1
    go_wp2_with (go_at_call 73; refine (l05Budget_is A1.out _).mono ?_; rintro e w' ⟨rfl, rfl⟩)
    go_ret
    exact ⟨ret_int (by rw [codeF_blank, A0.out, A1.out]; rfl), z1⟩
  · have A1 := Lib.hid a1
    clear a1
    go_wp2_with (go_at_call 73; refine (l05Budget_is A1.out _).mono ?_; rintro e w' ⟨rfl, rfl⟩)
    go_ret
    exact ⟨ret_int (by rw [codeF_blank, A0.out, A1.out]; rfl), z1⟩

theorem l05Run_blank (g : Nat) (sy st : Int) (A : Option Addr) (n k : Nat) (rs : List R3) (L : Option Addr) (a : Nat) (R : Option Addr) (d : Nat) (N : Nat) (w : World) (hm : MachAt w g sy st A n k) (hrs : S3 w A n rs) (hgc : goodC sy st rs blankC) (hn : n ≤ 1048576) (hN : N ≤ 1000000) :
    Calls Try.prog 173 #[.pointer (some ⟨g, 0, none⟩), .agg #[.int .i64 0, .slice L 0 a, .slice R 0 d], .int .i64 (N : Int)] w (SpecRun w sy rs blankC N) :=
  l05Run_any g sy st A n k rs blankC L a R d N w hm hrs SI.nil SI.nil hgc hn hN

end Go.Proofs.Ythipbeggaeogcaa

/-
  Contracts of CellsVisited on both sides.
-/
namespace Go.Proofs.Ythipbeggaeogcaa
open Go.RowKit

theorem exF_count {sy st : Int} {rs : List R3} {c : Conf} (hg : goodC sy st rs c) : ∀ i, Alive sy rs c i → ((exF sy rs c (i + 1)).2.2.length : Int) = (exF sy rs c (i + 1)).2.1 - (exF sy rs c (i + 1)).1 ∧ (exF sy rs c (i + 1)).1 ≤ posF sy rs c i ∧ posF sy rs c i ≤ (exF sy rs c (i + 1)).2.1 := by
  intro i
  induction i with
  | zero => intro _; rw [exF_one]; simp [posF]
  | succ i ih =>
    intro h
    have hi : Alive sy rs c i := fun j hj => h j (by omega)
    obtain ⟨h1, h2, h3⟩ := ih hi
    have hm := rule_move (hi.good hg) (h i (by omega)).1
    have hp : posF sy rs c (i + 1) = posF sy rs c i + (ruleOf sy rs (itC sy rs c i).q (itC sy rs c i).ys).b := rfl
    have he : exF sy rs c (i + 1 + 1) = if (exF sy rs c (i + 1)).2.1 < posF sy rs c (i + 1) then ((exF sy rs c (i + 1)).1, posF sy rs c (i + 1), (exF sy rs c (i + 1)).2.2 ++ [(((i + 1 : Nat) : Int), 1, (itC sy rs c (i + 1)).q)])
      else if posF sy rs c (i + 1) < (exF sy rs c (i + 1)).1 then (posF sy rs c (i + 1), (exF sy rs c (i + 1)).2.1, (exF sy rs c (i + 1)).2.2 ++ [(((i + 1 : Nat) : Int), -1, (itC sy rs c (i + 1)).q)])
      else exF sy rs c (i + 1) := rfl
    rw [he]
    generalize (ruleOf sy rs (itC sy rs c i).q (itC sy rs c i).ys).b = rb at *
    by_cases c1 : (exF sy rs c (i + 1)).2.1 < posF sy rs c (i + 1)
    · rw [if_pos c1]
      dsimp only
      rw [List.length_append, List.length_singleton]
      omega
    · rw [if_neg c1]
      by_cases c2 : posF sy rs c (i + 1) < (exF sy rs c (i + 1)).1
      · rw [if_pos c2]
        dsimp only
        rw [List.length_append, List.length_singleton]
        omega
      · rw [if_neg c2]
        omega
/-- What CellsVisited returns. -/
def cellsF (sy st : Int) (rs : List R3) (b : Int) : Int × Int :=
  if codeF sy st rs blankC b = 0 then
    match runN sy rs b.toNat blankC with
    | some i => ((exF sy rs blankC (i + 1)).2.1 - (exF sy rs blankC (i + 1)).1 + 1, 0)
    | none => (0, 5)
  else (0, codeF sy st rs blankC b)
theorem cellsF_ended {sy st : Int} {rs : List R3} {N i : Nat} (h : codeF sy st rs blankC (N : Int) = 0) (h2 : Ended sy rs blankC N i) : cellsF sy st rs (N : Int) = ((exF sy rs blankC (i + 1)).2.1 - (exF sy rs blankC (i + 1)).1 + 1, 0) := by unfold cellsF; rw [if_pos h, Int.toNat_natCast, runN_ended h2]
theorem cellsF_full {sy st : Int} {rs : List R3} {N i : Nat} (h : codeF sy st rs blankC (N : Int) = 0) (h2 : Full sy rs blankC N i) : cellsF sy st rs (N : Int) = (0, 5) := by unfold cellsF; rw [if_pos h, Int.toNat_natCast, runN_full h2]
theorem cellsF_code {sy st : Int} {rs : List R3} {b : Int} (h : ¬ codeF sy st rs blankC b = 0) : cellsF sy st rs b = (0, codeF sy st rs blankC b) := by unfold cellsF; rw [if_neg h]
def TwoI (w : World) (v : Int × Int) (e : Ending) (w' : World) : Prop := e = .returned (.tuple #[.int .i64 v.1, .int .i64 v.2]) ∧ Below w.heap.size w w'
theorem twoI {w w' : World} {v : Int × Int} {a b : Int} (h : v = (a, b)) (z : Below w.heap.size w w') : TwoI w v (.returned (.tuple #[.int .i64 a, .int .i64 b])) w' := by subst h; exact ⟨rfl, z⟩

set_option maxHeartbeats 4000000 in
theorem cellsI_any (sy st : Int) (A : Option Addr) (n k : Nat) (rs : List R3) (b : Int) (w : World) (hr : S3 w A n rs) (hn : n ≤ 1048576) :
    Calls Try.prog 64 #[.agg #[.int .i64 sy, .int .i64 st, .slice A n k], .int .i64 b] w (TwoI w (cellsF sy st rs b)) := by
  obtain ⟨W, hW_⟩ : ∃ W, W = w.alloc (.cells #[.int .i64 sy, .int .i64 st, .slice A n k] 82) := ⟨_, rfl⟩
  have b0 : Blk W w.heap.size 82 #[.int .i64 sy, .int .i64 st, .slice A n k] := by rw [hW_]; exact Blk.new w _ _
  have y0 : Below w.heap.size w W := by rw [hW_]; exact (Below.refl _ _).alloc (Nat.le_refl _) _
  have HW := Lib.hid hW_
  clear hW_
  have q0 : W.cell? ⟨w.heap.size, 0, none⟩ = some (.int .i64 sy) := b0.cell 0
  have q1 : W.cell? ⟨w.heap.size, 1, none⟩ = some (.int .i64 st) := b0.cell 1
  have q2 : W.cell? ⟨w.heap.size, 2, none⟩ = some (.slice A n k) := b0.cell 2
  go_enter Try.func64, Try.ntmps64
  go_wp2_with fail
  rw [← HW.out]
  refine (budgeted_any _ _ _ _ _ rs _ _ (hr.below y0) hn).mono ?_
  rintro e W1 ⟨rfl, z1⟩
  have y1 : Below w.heap.size w W1 := y0.trans (z1.mono y0.size)
  have b1 := b0.below' z1
  clear q0 q1 q2
  have q0 : W1.cell? ⟨w.heap.size, 0, none⟩ = some (.int .i64 sy) := b1.cell 0
  have q1 : W1.cell? ⟨w.heap.size, 1, none⟩ = some (.int .i64 st) := b1.cell 1
  have q2 : W1.cell? ⟨w.heap.size, 2, none⟩ = some (.slice A n k) := b1.cell 2
  by_cases hc : codeF sy st rs blankC b = 0
  rotate_left
  · have HF := Lib.hid (cellsF_code hc)
    go_wp2_with fail
    exact bodyPost_ret (v := .tuple #[.int .i64 0, .int .i64 (codeF sy st rs blankC b)]) (by simp [results, Try.results64, go_sem]) rfl (twoI HF.out y1)
  obtain ⟨hg, hb1, hb2⟩ := codeF_zero hc
  obtain ⟨N, rfl⟩ : ∃ N : Nat, b = (N : Int) := ⟨b.toNat, by omega⟩
  have HC := Lib.hid hc
  have HTR := Lib.hid (tracked_any sy st A n k rs N W1 (hr.below y1) hn hg (by omega))
  have HCNT := Lib.hid (fun i h => exF_count (i := i) hg h)
  rw [hc]
  clear hc hg
  go_wp2_with fail
  refine HTR.out.mono ?_
  rintro e W2 (⟨i, b, P, pc, R, rc, rq, hE, rfl, hbx, hps, hrs, hv, z2⟩ | ⟨i, b, hE, rfl, z2⟩)
  · have HF := Lib.hid (cellsF_ended HC.out hE)
    have y2 := y1.trans (z2.mono y1.size)
    have hi := hE.1
    have hex := HCNT.out i hE.2.1
    have hlen := exF_len sy rs blankC (i + 1)
    have hsg := exF_signs sy rs blankC (i + 1)
    clear hE hv q0 q1 q2 hps hrs
    generalize exF sy rs blankC (i + 1) = ex at *
    obtain ⟨l, u, rcs⟩ := ex
    dsimp only at hex hlen hsg HF hbx
    obtain ⟨hex1, _, _⟩ := hex
    obtain ⟨hsg1, hsg2⟩ := hsg
    have x2 : W2.cell? ⟨b, 2, none⟩ = some (.int .i64 l) := hbx.cell 2
    have x3 : W2.cell? ⟨b, 3, none⟩ = some (.int .i64 u) := hbx.cell 3
    have hb2' : u - l ≤ 20001 := by omega
    clear hex1
    go_wp2_with fail
    go_quiet (fail)
    go_wp2_with fail
    exact bodyPost_ret (v := .tuple #[.int .i64 (u - l + 1), .int .i64 0]) (by simp [results, Try.results64, go_sem]) rfl (twoI HF.out (below_drewN y2 _))
  · have HF := Lib.hid (cellsF_full HC.out hE)
    have y2 := y1.trans (z2.mono y1.size)
    clear hE q0 q1 q2
    go_wp2_with fail
    exact bodyPost_ret (v := .tuple #[.int .i64 0, .int .i64 5]) (by simp [results, Try.results64, go_sem]) rfl (twoI HF.out y2)

set_option maxHeartbeats 4000000 in
theorem cellsS_any (sy st : Int) (A : Option Addr) (n k : Nat) (rs : List R3) (b : Int) (w : World) (hr : S3 w A n rs) (hn : n ≤ 1048576) :
    Calls Try.prog 63 #[.agg #[.int .i64 sy, .int .i64 st, .slice A n k], .int .i64 b] w (TwoI w (cellsF sy st rs b)) := by
  obtain ⟨W, hW_⟩ : ∃ W, W = w.alloc (.cells #[.int .i64 sy, .int .i64 st, .slice A n k] 82) := ⟨_, rfl⟩
  have b0 : Blk W w.heap.size 82 #[.int .i64 sy, .int .i64 st, .slice A n k] := by rw [hW_]; exact Blk.new w _ _
  have y0 : Below w.heap.size w W := by rw [hW_]; exact (Below.refl _ _).alloc (Nat.le_refl _) _
  have HW := Lib.hid hW_
  clear hW_
  have hM := b0.machAt
  go_enter Try.func63, Try.ntmps63
  go_wp2_with fail
  rw [← HW.out]
  refine (l25Ask_any _ _ _ _ _ _ rs _ _ hM (hr.below y0) hn).mono ?_
  rintro e W1 ⟨rfl, z1⟩
  have y1 := y0.trans (z1.mono y0.size)
  have hM1 := hM.below z1
  by_cases hc : codeF sy st rs blankC b = 0
  rotate_left
  · have HF := Lib.hid (cellsF_code hc)
    go_wp2_with fail
    exact bodyPost_ret (v := .tuple #[.int .i64 0, .int .i64 (codeF sy st rs blankC b)]) (by simp [results, Try.results63, go_sem]) rfl (twoI HF.out y1)
  obtain ⟨hg, hb1, hb2⟩ := codeF_zero hc
  obtain ⟨N, rfl⟩ : ∃ N : Nat, b = (N : Int) := ⟨b.toNat, by omega⟩
  have HC := Lib.hid hc
  have HPL := Lib.hid (l25Play_any _ sy st A n k rs N W1 hM1 (hr.below y1) hn hg (by omega))
  have HCNT := Lib.hid (fun i h => exF_count (i := i) hg h)
  rw [hc]
  clear hc hg
  go_wp2_with fail
  refine HPL.out.mono ?_
  rintro e W2 (⟨i, b, P, pc, R, rc, C, nc, cc, us, h, hE, rfl, hbx, hO, hnu, z2⟩ | ⟨i, b, v0, v1, v2, v3, hE, rfl, hbx, z2⟩)
  · have hul : (us.length : Int) = (exF sy rs blankC (i + 1)).2.1 - (exF sy rs blankC (i + 1)).1 := by
      have h1 := congrArg List.length hnu
      simp only [nums, List.length_map] at h1
      rw [h1]; exact (HCNT.out i hE.2.1).1
    have hlen := exF_len sy rs blankC (i + 1)
    have hul2 : us.length ≤ i + 1 := by
      have h1 := congrArg List.length hnu
      simp only [nums, List.length_map] at h1
      omega
    have hi := hE.1
    have HF : Hid (cellsF sy st rs (N : Int) = ((us.length : Int) + 1, 0)) := Lib.hid (by rw [cellsF_ended HC.out hE, hul])
    have y2 := y1.trans (z2.mono y1.size)
    have x1 := hbx.cell 1
    have x4 := hbx.cell 4
    clear hE hO hnu hul hlen
    go_wp2_with fail
    exact bodyPost_ret (v := .tuple #[.int .i64 ((us.length : Int) + 1), .int .i64 0]) (by simp [results, Try.results63, go_sem]) rfl (twoI HF.out y2)
  · have HF := Lib.hid (cellsF_full HC.out hE)
    have y2 := y1.trans (z2.mono y1.size)
    have x4 := hbx.cell 4
    clear hE
    go_wp2_with fail
    exact bodyPost_ret (v := .tuple #[.int .i64 0, .int .i64 5]) (by simp [results, Try.results63, go_sem]) rfl (twoI HF.out y2)
end Go.Proofs.Ythipbeggaeogcaa

/-
  Contracts of RecordsOf on both sides.
-/
namespace Go.Proofs.Ythipbeggaeogcaa
open Go.RowKit

/-- What RecordsOf returns. -/
def recordsF (sy st : Int) (rs : List R3) (b : Int) : List (List Int) × Int :=
  if codeF sy st rs blankC b = 0 then
    match runN sy rs b.toNat blankC with
    | some i => ((exF sy rs blankC (i + 1)).2.2.map r3I, 0)
    | none => ([], 5)
  else ([], codeF sy st rs blankC b)
theorem recordsF_ended {sy st : Int} {rs : List R3} {N i : Nat} (h : codeF sy st rs blankC (N : Int) = 0) (h2 : Ended sy rs blankC N i) : recordsF sy st rs (N : Int) = ((exF sy rs blankC (i + 1)).2.2.map r3I, 0) := by unfold recordsF; rw [if_pos h, Int.toNat_natCast, runN_ended h2]
theorem recordsF_full {sy st : Int} {rs : List R3} {N i : Nat} (h : codeF sy st rs blankC (N : Int) = 0) (h2 : Full sy rs blankC N i) : recordsF sy st rs (N : Int) = ([], 5) := by unfold recordsF; rw [if_pos h, Int.toNat_natCast, runN_full h2]
theorem recordsF_code {sy st : Int} {rs : List R3} {b : Int} (h : ¬ codeF sy st rs blankC b = 0) : recordsF sy st rs b = ([], codeF sy st rs blankC b) := by unfold recordsF; rw [if_neg h]
theorem recordsF_len (sy st : Int) (rs : List R3) (b : Int) : (recordsF sy st rs b).1.length ≤ 1048576 ∧ ((recordsF sy st rs b).1.map List.length).sum ≤ 1048576 := by
  unfold recordsF
  split
  · rename_i h
    obtain ⟨_, hb1, hb2⟩ := codeF_zero h
    rcases run_cases sy rs b.toNat blankC with ⟨i, hi⟩ | ⟨i, hi⟩
    · rw [runN_ended hi]
      have h1 := exF_len sy rs blankC (i + 1)
      have h2 := hi.1
      have key : ∀ l : List (Int × Int × Int), ((l.map r3I).map List.length).sum = l.length * 3 := by
        intro l
        induction l with
        | nil => rfl
        | cons x r ih =>
          simp only [List.map_cons, List.sum_cons, List.length_cons, Nat.succ_mul]
          rw [ih]
          simp [r3I]
          omega
      dsimp only
      rw [key, List.length_map]
      omega
    · rw [runN_full hi]; simp
  · simp
def NewIIt (w : World) (r : List (List Int) × Int) (e : Ending) (w' : World) : Prop :=
  ∃ A c us, e = .returned (.tuple #[.slice A r.1.length c, .int .i64 r.2]) ∧ OII w' w.heap.size 25 2 A r.1.length c us ∧ nums us = r.1 ∧ Below w.heap.size w w'
theorem newIIt_nil {w wf : World} {k : Int} {r : List (List Int) × Int} (hr : r = ([], k)) (hz : Below w.heap.size w wf) : NewIIt w r (.returned (.tuple #[.slice none 0 0, .int .i64 k])) wf := by
  subst hr; exact ⟨none, 0, [], rfl, OII.nil Own.nil, rfl, hz⟩
theorem newIIt_of {w wf : World} {k : Int} {r : List (List Int) × Int} {A : Option Addr} {n c : Nat} {us : List Sl} {M : List (List Int)} (hr : r = (M, k)) (hM : nums us = M) (ho : OII wf w.heap.size 25 2 A n c us) (hz : Below w.heap.size w wf) : NewIIt w r (.returned (.tuple #[.slice A n c, .int .i64 k])) wf := by
  subst hr; subst hM
  have hn : (nums us).length = n := by have := ho.len; simpa [nums] using this
  subst hn
  exact ⟨A, c, us, rfl, ho, rfl, hz⟩
theorem take_map_next {α β : Type} {f : α → β} {l : List α} {t : α} {j : Nat} (h : l[j]? = some t) : (l.take (j + 1)).map f = (l.take j).map f ++ [f t] := by
  obtain ⟨hl, rfl⟩ := List.getElem?_eq_some_iff.1 h
  rw [List.take_succ_eq_append_getElem hl, List.map_append]
  rfl
theorem rq_pick {w : World} {lo n c : Nat} {A : Option Addr} {ts : List Rq} (h : Own w lo 194 5 A n c (ts.flatMap Rq.cells)) {k : Nat} (hk : k < ts.length) : ∃ t b off, Hid (ts[k]? = some t) ∧ A = some ⟨b, off, none⟩ ∧ b < w.heap.size ∧ w.cell? ⟨b, off + k * 5, none⟩ = some (.int .i64 t.s) ∧ w.cell? ⟨b, off + k * 5 + 1, none⟩ = some (.int .i64 t.d) ∧ w.cell? ⟨b, off + k * 5 + 2, none⟩ = some (.int .i64 t.q) ∧ w.cell? ⟨b, off + k * 5 + 3, none⟩ = some (.slice t.L t.nl t.cl) ∧ w.cell? ⟨b, off + k * 5 + 4, none⟩ = some (.slice t.R t.nr t.cr) := by
  have hT : ts[k]? = some ts[k] := List.getElem?_eq_getElem hk
  have hfl : (ts.flatMap Rq.cells).length = ts.length * 5 := flat_len Rq.cells_len ts
  obtain ⟨b, off, hA, _, hbl, _⟩ := h.at_ (k := k * 5) (by omega)
  refine ⟨ts[k], b, off, hT, hA, hbl, ?_⟩
  have cell : ∀ j, (hj : j < 5) → w.cell? ⟨b, off + (k * 5 + j), none⟩ = some ((ts[k]).cells[j]'(by rw [Rq.cells_len]; exact hj)) := by
    intro j hj
    obtain ⟨b2, off2, hA2, _, _, hc, _⟩ := h.at_ (k := k * 5 + j) (by omega)
    rw [hA] at hA2
    cases hA2
    rw [hc]
    have h1 := flat_get Rq.cells_len hT hj
    obtain ⟨h2, h3⟩ := List.getElem?_eq_some_iff.1 (h1.trans (List.getElem?_eq_getElem (by rw [Rq.cells_len]; exact hj)))
    rw [h3]
  have c0 := cell 0 (by omega)
  have c1 := cell 1 (by omega)
  have c2 := cell 2 (by omega)
  have c3 := cell 3 (by omega)
  have c4 := cell 4 (by omega)
  simp only [Nat.add_zero, ← Nat.add_assoc] at c0 c1 c2 c3 c4
  exact ⟨c0, c1, c2, c3, c4⟩

set_option maxRecDepth 100000 in
set_option maxHeartbeats 8000000 in
theorem recordsI_any (sy st : Int) (A : Option Addr) (n k : Nat) (rs : List R3) (b : Int) (w : World) (hr : S3 w A n rs) (hn : n ≤ 1048576) :
    Calls Try.prog 66 #[.agg #[.int .i64 sy, .int .i64 st, .slice A n k], .int .i64 b] w (NewIIt w (recordsF sy st rs b)) := by
  obtain ⟨W, hW_⟩ : ∃ W, W = w.alloc (.cells #[.int .i64 sy, .int .i64 st, .slice A n k] 82) := ⟨_, rfl⟩
  have b0 : Blk W w.heap.size 82 #[.int .i64 sy, .int .i64 st, .slice A n k] := by rw [hW_]; exact Blk.new w _ _
  have y0 : Below w.heap.size w W := by rw [hW_]; exact (Below.refl _ _).alloc (Nat.le_refl _) _
  have HW := Lib.hid hW_
  clear hW_
  have q0 : W.cell? ⟨w.heap.size, 0, none⟩ = some (.int .i64 sy) := b0.cell 0
  have q1 : W.cell? ⟨w.heap.size, 1, none⟩ = some (.int .i64 st) := b0.cell 1
  have q2 : W.cell? ⟨w.heap.size, 2, none⟩ = some (.slice A n k) := b0.cell 2
  go_enter Try.func66, Try.ntmps66
  go_wp2_with fail
  rw [← HW.out]
  refine (budgeted_any _ _ _ _ _ rs _ _ (hr.below y0) hn).mono ?_
  rintro e W1 ⟨rfl, z1⟩
  have y1 : Below w.heap.size w W1 := y0.trans (z1.mono y0.size)
  have b1 := b0.below' z1
  clear q0 q1 q2
  have q0 : W1.cell? ⟨w.heap.size, 0, none⟩ = some (.int .i64 sy) := b1.cell 0
  have q1 : W1.cell? ⟨w.heap.size, 1, none⟩ = some (.int .i64 st) := b1.cell 1
  have q2 : W1.cell? ⟨w.heap.size, 2, none⟩ = some (.slice A n k) := b1.cell 2
  by_cases hc : codeF sy st rs blankC b = 0
  rotate_left
  · have HF := Lib.hid (recordsF_code hc)
    go_wp2_with fail
    exact bodyPost_ret (v := .tuple #[.slice none 0 0, .int .i64 (codeF sy st rs blankC b)]) (by simp [results, Try.results66, go_sem]) rfl (newIIt_nil HF.out y1)
  obtain ⟨hg, hb1, hb2⟩ := codeF_zero hc
  obtain ⟨N, rfl⟩ : ∃ N : Nat, b = (N : Int) := ⟨b.toNat, by omega⟩
  have HC := Lib.hid hc
  have HTR := Lib.hid (tracked_any sy st A n k rs N W1 (hr.below y1) hn hg (by omega))
  rw [hc]
  clear hc hg
  go_wp2_with fail
  refine HTR.out.mono ?_
  rintro e W2 (⟨i, b, P, pc, R, rc, rq, hE, rfl, hbx, hps, hrs, hv, z2⟩ | ⟨i, b, hE, rfl, z2⟩)
  rotate_left
  · have HF := Lib.hid (recordsF_full HC.out hE)
    have y2 := y1.trans (z2.mono y1.size)
    clear hE q0 q1 q2
    go_wp2_with fail
    exact bodyPost_ret (v := .tuple #[.slice none 0 0, .int .i64 5]) (by simp [results, Try.results66, go_sem]) rfl (newIIt_nil HF.out y2)
  have HF : Hid (recordsF sy st rs (N : Int) = ((rq.map Rq.val).map r3I, 0)) := Lib.hid (by rw [recordsF_ended HC.out hE, hv])
  have y2 := y1.trans (z2.mono y1.size)
  have hlen : rq.length ≤ 20001 := by
    have h1 := exF_len sy rs blankC (i + 1)
    have h2 := congrArg List.length hv
    rw [List.length_map] at h2
    have := hE.1
    omega
  clear hE hv q0 q1 q2 hps
  obtain ⟨W3, hW_⟩ : ∃ W_, W_ = W2.alloc (.cells #[] 25) := ⟨_, rfl⟩
  have b3 : Blk W3 W2.heap.size 25 #[] := by rw [hW_]; exact Blk.new W2 _ _
  have z3 : Below W2.heap.size W2 W3 := by rw [hW_]; exact (Below.refl _ _).alloc (Nat.le_refl _) _
  have HW3 := Lib.hid hW_
  clear hW_
  have y3 := y2.trans (z3.mono y2.size)
  have o3 : OII W3 W2.heap.size 25 2 (some ⟨W2.heap.size, 0, none⟩) 0 0 [] := OII.nil (by refine ⟨rfl, .inr ⟨_, 0, _, rfl, Nat.le_refl _, b3, Nat.le_refl _, by simp [maxLen], by simp, fun k hk => by simp at hk⟩⟩)
  have x1 := (hbx.below' z3).cell 1
  have hrs3 := hrs.below z3
  have hW12 := z2.size
  go_upto_region 8 with fail
  rw [← HW3.out]
  clear HW3 b3
  go_wp2_with fail
  clear x1
  go_loopw [10, 36] (fun v i wr => ∃ (j : Nat) (D : Option Addr) (cd : Nat) (us : List Sl), j ≤ rq.length ∧ i = .int .i64 (j : Int) ∧ v = .slice D us.length cd ∧ OII wr W2.heap.size 25 2 D us.length cd us ∧ Hid (nums us = ((rq.take j).map Rq.val).map r3I) ∧ Hid (us.length = j) ∧ Below W2.heap.size W2 wr) (fun _ i _ => rq.length - (intOf i).toNat)
  case atStart => exact ⟨0, _, 0, [], Nat.zero_le _, rfl, rfl, o3, rfl, rfl, z3⟩
  case round =>
    obtain ⟨j, D, cd, us, hj, rfl, rfl, hO, hnu, hul, hz⟩ := hrel
    clear o3 z3 y3 hrs3
    have hub : us.length ≤ 20001 := by rw [hul.out]; omega
    by_cases hlt : j < rq.length
    · obtain ⟨t, bb, off, HT, hA, hbl, e0, e1, e2, e3, e4⟩ := rq_pick (hrs.below hz) hlt
      subst hA
      have HN : Hid (((rq.take (j + 1)).map Rq.val).map r3I = ((rq.take j).map Rq.val).map r3I ++ [[t.s, t.d, t.q]]) := Lib.hid (by rw [List.map_map, List.map_map, take_map_next HT.out]; rfl)
      have i1 : (0 : Int) ≤ (j : Int) := by omega
      have i2 : (j : Int) < (rq.length : Int) := by omega
      obtain ⟨W4, hW_⟩ : ∃ W_, W_ = wr.alloc (.cells #[.int .i64 t.s, .int .i64 t.d, .int .i64 t.q, .slice t.L t.nl t.cl, .slice t.R t.nr t.cr] 194) := ⟨_, rfl⟩
      have b4 : Blk W4 wr.heap.size 194 #[.int .i64 t.s, .int .i64 t.d, .int .i64 t.q, .slice t.L t.nl t.cl, .slice t.R t.nr t.cr] := by rw [hW_]; exact Blk.new wr _ _
      have z4 : Below wr.heap.size wr W4 := by rw [hW_]; exact (Below.refl _ _).alloc (Nat.le_refl _) _
      have HW4 := Lib.hid hW_
      clear hW_
      have hz4 := hz.trans (z4.mono hz.size)
      have hO4 := hO.below z4
      have p0 : W4.cell? ⟨wr.heap.size, 0, none⟩ = some (.int .i64 t.s) := b4.cell 0
      have p1 : W4.cell? ⟨wr.heap.size, 1, none⟩ = some (.int .i64 t.d) := b4.cell 1
      have p2 : W4.cell? ⟨wr.heap.size, 2, none⟩ = some (.int .i64 t.q) := b4.cell 2
      have p3 : W4.cell? ⟨wr.heap.size, 3, none⟩ = some (.slice t.L t.nl t.cl) := b4.cell 3
      have p4 : W4.cell? ⟨wr.heap.size, 4, none⟩ = some (.slice t.R t.nr t.cr) := b4.cell 4
      have o5 : Own (W4.alloc (.cells #[.int .i64 t.s, .int .i64 t.d, .int .i64 t.q] 2)) W4.heap.size 2 1 (some ⟨W4.heap.size, 0, none⟩) 3 3 (ints [t.s, t.d, t.q]) := Own.lit W4 #[.int .i64 t.s, .int .i64 t.d, .int .i64 t.q] 2 3 1 _ rfl (by simp [maxLen]) (Nat.le_refl _)
      have z5 : Below W4.heap.size W4 (W4.alloc (.cells #[.int .i64 t.s, .int .i64 t.d, .int .i64 t.q] 2)) := (Below.refl _ _).alloc (Nat.le_refl _) _
      have hz5 := hz4.trans (z5.mono hz4.size)
      have hO5 := hO4.below z5
      have r5 : Rd ((W4.alloc (.cells #[.int .i64 t.s, .int .i64 t.d, .int .i64 t.q] 2)).alloc (.cells #[.slice (some ⟨W4.heap.size, 0, none⟩) 3 3] 25)) 1 (some ⟨W4.heap.size + 1, 0, none⟩) 1 [.slice (some ⟨W4.heap.size, 0, none⟩) 3 3] := by
        have h := Rd.new1 (W4.alloc (.cells #[.int .i64 t.s, .int .i64 t.d, .int .i64 t.q] 2)) (.slice (some ⟨W4.heap.size, 0, none⟩) 3 3) 25
        rw [show (W4.alloc (.cells #[.int .i64 t.s, .int .i64 t.d, .int .i64 t.q] 2)).heap.size = W4.heap.size + 1 by simp] at h
        exact h
      go_upto_region 11 with fail
      rw [← HW4.out]
      clear HW4 e0 e1 e2 e3 e4
      go_wp2_with (at_builtin; refine wpList_append_Own rfl (.tmp 40) (.tmp 49) rfl elII (lo := W2.heap.size) rfl (hO5.alloc _).1 rfl r5 (by simp [Value.oneCell']) (by omega) (by simp only [maxLen]; omega) (by have := hz5.size; simp; simp at this; omega) ?_; intro A8 c8 w8 ho8 hg8 hw8)
      have hO8 : OII w8 W2.heap.size 25 2 A8 (us ++ ([⟨some ⟨W4.heap.size, 0, none⟩, 3, [t.s, t.d, t.q]⟩] : List Sl)).length c8 (us ++ ([⟨some ⟨W4.heap.size, 0, none⟩, 3, [t.s, t.d, t.q]⟩] : List Sl)) := by
        rw [List.length_append]
        exact OII.snoc (wa := W4) hO4 (hO5.alloc _) ho8 hg8 (o5.alloc _) (Nat.le_refl _) hz4.size (by decide)
      have hz8 : Below W2.heap.size W2 w8 := Own.below_of (hO5.alloc _).1 (hz5.alloc hz5.size _) hg8 (by have := hz5.size; simp; simp at this; omega)
      have HNU : Hid (nums (us ++ ([⟨some ⟨W4.heap.size, 0, none⟩, 3, [t.s, t.d, t.q]⟩] : List Sl)) = ((rq.take (j + 1)).map Rq.val).map r3I) := Lib.hid (by rw [nums_append, hnu.out, HN.out])
      have HLL : Hid (us.length + 1 = (us ++ ([⟨some ⟨W4.heap.size, 0, none⟩, 3, [t.s, t.d, t.q]⟩] : List Sl)).length) := Lib.hid (by rw [List.length_append]; rfl)
      go_wp2_with fail
      go_roundw
      case rel => exact ⟨j + 1, A8, c8, us ++ ([⟨some ⟨W4.heap.size, 0, none⟩, 3, [t.s, t.d, t.q]⟩] : List Sl), by omega, by go_num, by rw [← HLL.out], hO8, HNU, Lib.hid (by rw [← HLL.out, hul.out]), hz8⟩
      case measure => simp [intOf]; omega
    · obtain rfl : j = rq.length := by omega
      have HM : Hid (nums us = (rq.map Rq.val).map r3I) := Lib.hid (by rw [hnu.out, List.take_length])
      have y5 := y2.trans (hz.mono y2.size)
      go_wp2_with fail
      exact bodyPost_ret (v := .tuple #[.slice D us.length cd, .int .i64 0]) (by simp [results, Try.results66, go_sem]) rfl (newIIt_of HF.out HM.out (hO.mono y2.size) y5)

set_option maxRecDepth 100000 in
set_option maxHeartbeats 8000000 in
theorem recordsS_any (sy st : Int) (A : Option Addr) (n k : Nat) (rs : List R3) (b : Int) (w : World) (hr : S3 w A n rs) (hn : n ≤ 1048576) :
    Calls Try.prog 65 #[.agg #[.int .i64 sy, .int .i64 st, .slice A n k], .int .i64 b] w (NewIIt w (recordsF sy st rs b)) := by
  obtain ⟨W, hW_⟩ : ∃ W, W = w.alloc (.cells #[.int .i64 sy, .int .i64 st, .slice A n k] 82) := ⟨_, rfl⟩
  have b0 : Blk W w.heap.size 82 #[.int .i64 sy, .int .i64 st, .slice A n k] := by rw [hW_]; exact Blk.new w _ _
  have y0 : Below w.heap.size w W := by rw [hW_]; exact (Below.refl _ _).alloc (Nat.le_refl _) _
  have HW := Lib.hid hW_
  clear hW_
  have hM := b0.machAt
  go_enter Try.func65, Try.ntmps65
  go_wp2_with fail
  rw [← HW.out]
  refine (l25Ask_any _ _ _ _ _ _ rs _ _ hM (hr.below y0) hn).mono ?_
  rintro e W1 ⟨rfl, z1⟩
  have y1 := y0.trans (z1.mono y0.size)
  have hM1 := hM.below z1
  by_cases hc : codeF sy st rs blankC b = 0
  rotate_left
  · have HF := Lib.hid (recordsF_code hc)
    go_wp2_with fail
    exact bodyPost_ret (v := .tuple #[.slice none 0 0, .int .i64 (codeF sy st rs blankC b)]) (by simp [results, Try.results65, go_sem]) rfl (newIIt_nil HF.out y1)
  obtain ⟨hg, hb1, hb2⟩ := codeF_zero hc
  obtain ⟨N, rfl⟩ : ∃ N : Nat, b = (N : Int) := ⟨b.toNat, by omega⟩
  have HC := Lib.hid hc
  have HPL := Lib.hid (l25Play_any _ sy st A n k rs N W1 hM1 (hr.below y1) hn hg (by omega))
  rw [hc]
  clear hc hg
  go_wp2_with fail
  refine HPL.out.mono ?_
  rintro e W2 (⟨i, b, P, pc, R, rc, C, nc, cc, us, h, hE, rfl, hbx, hO, hnu, z2⟩ | ⟨i, b, v0, v1, v2, v3, hE, rfl, hbx, z2⟩)
  rotate_left
  · have HF := Lib.hid (recordsF_full HC.out hE)
    have y2 := y1.trans (z2.mono y1.size)
    have x4 := hbx.cell 4
    clear hE
    go_wp2_with fail
    exact bodyPost_ret (v := .tuple #[.slice none 0 0, .int .i64 5]) (by simp [results, Try.results65, go_sem]) rfl (newIIt_nil HF.out y2)
  have HF : Hid (recordsF sy st rs (N : Int) = (nums us, 0)) := Lib.hid (by rw [recordsF_ended HC.out hE, hnu])
  have y2 := y1.trans (z2.mono y1.size)
  have hlen : us.length ≤ 20001 := by
    have h1 := exF_len sy rs blankC (i + 1)
    have h2 := congrArg List.length hnu
    simp only [nums, List.length_map] at h2
    have := hE.1
    omega
  have HROW : Hid (∀ t ∈ us, t.xs.length = 3) := Lib.hid (fun t ht => by
    have h1 : t.xs ∈ nums us := List.mem_map.2 ⟨t, ht, rfl⟩
    rw [hnu] at h1
    obtain ⟨y, _, hy⟩ := List.mem_map.1 h1
    rw [← hy]; rfl)
  have HNM : Hid (∀ (j : Nat) (t : Sl), us[j]? = some t → (nums us).take (j + 1) = (nums us).take j ++ [t.xs]) := Lib.hid (fun j t h => by
    have h2 : (nums us)[j]? = some t.xs := by simp [nums, h]
    obtain ⟨hl, he⟩ := List.getElem?_eq_some_iff.1 h2
    rw [List.take_succ_eq_append_getElem hl, he])
  have HNL : Hid ((nums us).length = us.length) := Lib.hid (by simp [nums])
  have hul : us.length = us.length := rfl
  clear hE hnu hul
  obtain ⟨W3, hW_⟩ : ∃ W_, W_ = W2.alloc (.cells #[] 25) := ⟨_, rfl⟩
  have b3 : Blk W3 W2.heap.size 25 #[] := by rw [hW_]; exact Blk.new W2 _ _
  have z3 : Below W2.heap.size W2 W3 := by rw [hW_]; exact (Below.refl _ _).alloc (Nat.le_refl _) _
  have HW3 := Lib.hid hW_
  clear hW_
  have o3 : OII W3 W2.heap.size 25 2 (some ⟨W2.heap.size, 0, none⟩) 0 0 [] := OII.nil (by refine ⟨rfl, .inr ⟨_, 0, _, rfl, Nat.le_refl _, b3, Nat.le_refl _, by simp [maxLen], by simp, fun k hk => by simp at hk⟩⟩)
  have x4 := (hbx.below' z3).cell 4
  have x4' := hbx.cell 4
  go_upto_region 8 with fail
  rw [← HW3.out]
  clear HW3 b3 x4'
  go_wp2_with fail
  clear x4
  go_loopw [8, 9] (fun v i wr => ∃ (j : Nat) (D : Option Addr) (cd : Nat) (vs : List Sl), j ≤ us.length ∧ i = .int .i64 (j : Int) ∧ v = .slice D vs.length cd ∧ OII wr W2.heap.size 25 2 D vs.length cd vs ∧ Hid (nums vs = (nums us).take j) ∧ Hid (vs.length = j) ∧ Below W2.heap.size W2 wr) (fun _ i _ => us.length - (intOf i).toNat)
  case atStart => exact ⟨0, _, 0, [], Nat.zero_le _, rfl, rfl, o3, rfl, rfl, z3⟩
  case round =>
    obtain ⟨j, D, cd, vs, hj, rfl, rfl, hV, hnv, hvl, hz⟩ := hrel
    clear o3 z3
    have hvb : vs.length ≤ 20001 := by rw [hvl.out]; omega
    have x1 := (hbx.below' hz).cell 1
    by_cases hlt : j < us.length
    · obtain ⟨t, bb, off, HT, htm, rfl, hbl, e0, hrow⟩ := (hO.sii.below hz).pick hlt
      have h3 : t.xs.length ≤ 3 := by rw [HROW.out t htm]; omega
      have HN := Lib.hid (HNM.out j t HT.out)
      have i1 : (0 : Int) ≤ (j : Int) := by omega
      have i2 : (j : Int) < (us.length : Int) := by omega
      have HOW := Lib.hid (l00Own_any t.A t.xs.length t.c t.xs wr hrow (by omega))
      generalize hyy : t.xs = y at *
      clear hyy
      go_wp2_with fail
      refine HOW.out.mono ?_
      rintro e W4 ⟨A4, c4, rfl, o4, z4⟩
      have hz4 := hz.trans (z4.mono hz.size)
      have hV4 := hV.below z4
      clear e0 x1 hrow HOW
      go_wp2_with (at_builtin; refine wpList_append_Own rfl (.tmp 31) (.tmp 40) rfl elII (lo := W2.heap.size) rfl (hV4.alloc _).1 rfl (Rd.new1 W4 (.slice A4 y.length c4) _) (by simp [Value.oneCell']) (by omega) (by simp only [maxLen]; omega) (by have := hz4.size; simp; omega) ?_; intro A8 c8 w8 ho8 hg8 hw8)
      have hV8 : OII w8 W2.heap.size 25 2 A8 (vs ++ ([⟨A4, c4, y⟩] : List Sl)).length c8 (vs ++ ([⟨A4, c4, y⟩] : List Sl)) := by
        rw [List.length_append]
        exact OII.snoc (wa := wr) hV (hV4.alloc _) ho8 hg8 (o4.alloc _) (Nat.le_refl _) hz.size (by decide)
      have hz8 : Below W2.heap.size W2 w8 := Own.below_of (hV4.alloc _).1 (hz4.alloc hz4.size _) hg8 (by have := hz4.size; simp; omega)
      have HNU : Hid (nums (vs ++ ([⟨A4, c4, y⟩] : List Sl)) = (nums us).take (j + 1)) := Lib.hid (by rw [nums_append, hnv.out, HN.out])
      have HLL : Hid (vs.length + 1 = (vs ++ ([⟨A4, c4, y⟩] : List Sl)).length) := Lib.hid (by rw [List.length_append]; rfl)
      go_wp2_with fail
      go_roundw
      case rel => exact ⟨j + 1, A8, c8, vs ++ ([⟨A4, c4, y⟩] : List Sl), by omega, by go_num, by rw [← HLL.out], hV8, HNU, Lib.hid (by rw [← HLL.out, hvl.out]), hz8⟩
      case measure => simp [intOf]; omega
    · have hjl : j = us.length := by omega
      have HM : Hid (nums vs = nums us) := Lib.hid (by rw [hnv.out, List.take_of_length_le (by rw [HNL.out]; omega)])
      have y5 := y2.trans (hz.mono y2.size)
      clear hjl
      go_wp2_with fail
      exact bodyPost_ret (v := .tuple #[.slice D vs.length cd, .int .i64 0]) (by simp [results, Try.results65, go_sem]) rfl (newIIt_of HF.out HM.out (hV.mono y2.size) y5)
end Go.Proofs.Ythipbeggaeogcaa
