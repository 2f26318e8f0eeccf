/-
  Contracts of impl's usedCounts, slices.Clone over rules, copyMachine, child.
-/
import Derived.Test.YthipbeggaeogcaaTnfP
import Derived.Test.YthipbeggaeogcaaHelpR
import Derived.Lib.MinMax
namespace Go.Proofs.Ythipbeggaeogcaa
open Go.RowKit

def UsedP2 (w : World) (v : Int × Int) (e : Ending) (w' : World) : Prop := e = .returned (.tuple #[.int .i64 v.1, .int .i64 v.2]) ∧ Below w.heap.size w w'

set_option maxHeartbeats 4000000 in
theorem usedCounts_any (sy st : Int) (A : Option Addr) (n k : Nat) (rs : List R3) (w : World) (hrs : S3 w A n rs) (hn : n ≤ 1048576) (hs : SmallR rs) :
    Calls Try.prog 182 #[.agg #[.int .i64 sy, .int .i64 st, .slice A n k]] w (UsedP2 w ((usedF rs).1, (usedF rs).2.1)) := by
  have hrl : rs.length = n := hrs.len
  have HRL := Lib.hid hrl
  have HS := Lib.hid hs
  clear hrl hs
  obtain ⟨W, hW_⟩ : ∃ W, W = w.alloc (.cells #[.int .i64 sy, .int .i64 st, .slice A n k] 82) := ⟨_, rfl⟩
  have b0 : Blk W w.heap.size 82 #[.int .i64 sy, .int .i64 st, .slice A n k] := by rw [hW_]; exact Blk.new w _ _
  have y0 : Below w.heap.size w W := by rw [hW_]; exact (Below.refl _ _).alloc (Nat.le_refl _) _
  have HW := Lib.hid hW_
  clear hW_
  have q0 : W.cell? ⟨w.heap.size, 0, none⟩ = some (.int .i64 sy) := b0.cell 0
  have q1 : W.cell? ⟨w.heap.size, 1, none⟩ = some (.int .i64 st) := b0.cell 1
  have q2 : W.cell? ⟨w.heap.size, 2, none⟩ = some (.slice A n k) := b0.cell 2
  go_enter Try.func182, Try.ntmps182
  go_wp2_with fail
  rw [← HW.out]
  clear HW q0 q1 q2
  go_loopw [4, 5, 11] (fun s4 s5 s11 wr => ∃ (j : Nat), j ≤ n ∧ s4 = .int .i64 (usedTo rs j).1 ∧ s5 = .int .i64 (usedTo rs j).2.1 ∧ s11 = .int .i64 (j : Int) ∧ Below w.heap.size w wr) (fun _ _ i _ => n - (intOf i).toNat)
  case atStart => exact ⟨0, Nat.zero_le _, rfl, rfl, rfl, y0⟩
  case round =>
    obtain ⟨j, hj, rfl, rfl, rfl, hy⟩ := hrel
    by_cases hlt : j < n
    · obtain ⟨r, b, off, HT, hrm, rfl, hbl, p0, p1, p2⟩ := (hrs.below hy).pick hlt
      have hsm := usedTo_small HS.out (k := j) (by rw [HRL.out]; omega)
      have HYES := Lib.hid (fun h => usedTo_yes (k := j) HT.out h)
      have HNO := Lib.hid (fun h => usedTo_no (k := j) HT.out h)
      have HB := Lib.hid (HS.out r hrm)
      clear hrm hrs b0 y0
      obtain ⟨u, hu⟩ : ∃ u, u = usedTo rs j := ⟨_, rfl⟩
      rw [← hu] at hsm HYES HNO ⊢
      obtain ⟨u1, u2, u3⟩ := u
      dsimp only at hsm HYES ⊢
      obtain ⟨s1, s2, s3, s4, s5, s6⟩ := hsm
      clear hu
      obtain ⟨W2, hW_⟩ : ∃ W_, W_ = wr.alloc (.cells #[.int .i64 r.a, .int .i64 r.b, .int .i64 r.c] 169) := ⟨_, rfl⟩
      have c2 : Blk W2 wr.heap.size 169 #[.int .i64 r.a, .int .i64 r.b, .int .i64 r.c] := by rw [hW_]; exact Blk.new wr _ _
      have z2 : Below wr.heap.size wr W2 := by rw [hW_]; exact (Below.refl _ _).alloc (Nat.le_refl _) _
      have HW2 := Lib.hid hW_
      clear hW_
      have hy2 := hy.trans (z2.mono hy.size)
      have d0 : W2.cell? ⟨wr.heap.size, 0, none⟩ = some (.int .i64 r.a) := c2.cell 0
      have d1 : W2.cell? ⟨wr.heap.size, 1, none⟩ = some (.int .i64 r.b) := c2.cell 1
      have d2 : W2.cell? ⟨wr.heap.size, 2, none⟩ = some (.int .i64 r.c) := c2.cell 2
      go_wp2_with fail
      rw [← HW2.out]
      refine (isRule_any _ _ _ _).mono ?_
      rintro e W3 ⟨rfl, z3⟩
      have hy3 := hy2.trans (z3.mono hy2.size)
      have c3 := c2.below' z3
      clear d0 d1 d2
      have d0 : W3.cell? ⟨wr.heap.size, 0, none⟩ = some (.int .i64 r.a) := c3.cell 0
      have d1 : W3.cell? ⟨wr.heap.size, 1, none⟩ = some (.int .i64 r.b) := c3.cell 1
      have d2 : W3.cell? ⟨wr.heap.size, 2, none⟩ = some (.int .i64 r.c) := c3.cell 2
      cases hru : isRuleB ⟨r.a, r.b, r.c⟩ with
      | false =>
        have HF := Lib.hid (HNO.out (by exact hru))
        clear hru
        go_wp2_with fail
        go_roundw
        case rel => exact ⟨j + 1, by omega, by rw [HF.out], by rw [HF.out], by go_num, hy3⟩
        case measure => simp [intOf]; omega
      | true =>
        have HF := Lib.hid (HYES.out (by exact hru))
        obtain ⟨t1, t2, t3, t4⟩ := HB.out (by exact hru)
        clear hru
        go_wp2_with fail
        go_region_held3 (fun w' => w'.cell? ⟨wr.heap.size, 0, none⟩ = some (.int .i64 r.a) ∧ w'.cell? ⟨wr.heap.size, 2, none⟩ = some (.int .i64 r.c)) ((go_keep; done)) (fail)
        all_goals
          go_wp2_with fail
          rw [IntWalk.i64_in (r.c + 1) (by omega), IntWalk.i64_in (r.a + 1) (by omega)]
          go_roundw
          case rel => exact ⟨j + 1, by omega, by rw [HF.out]; simp only [if_max], by rw [HF.out]; simp only [if_max], by go_num, below_drewN hy3 1⟩
          case measure => simp [intOf]; omega
    · have hjn : j = rs.length := by rw [HRL.out]; omega
      go_wp2_with fail
      exact bodyPost_ret (v := .tuple #[.int .i64 (usedTo rs j).1, .int .i64 (usedTo rs j).2.1]) (by simp [results, Try.results182, go_sem]) rfl (by rw [hjn]; exact ⟨rfl, hy⟩)

/-- A new slice of rules. -/
def NewR (w : World) (rs : List R3) (e : Ending) (w' : World) : Prop :=
  ∃ A c, e = .returned (.slice A rs.length c) ∧ Own w' w.heap.size 169 3 A rs.length c (cells3 rs) ∧ Below w.heap.size w w'

set_option maxHeartbeats 400000 in
theorem cloneR_any (A : Option Addr) (n c : Nat) (rs : List R3) (w : World) (hx : S3 w A n rs) (hn : n ≤ 1048576) :
    Calls Try.prog 211 #[.slice A n c] w (NewR w rs) := by
  have HL := Lib.hid hx.len
  have hnil := fun (w : World) (a : Option Addr) (n c : Nat) => Lib.run_eql_slice_nil (P := Try.prog) w 80 169 a n c 0 0 Try.underlying80
  rcases A with _ | ad
  · have hn0 : n = 0 := by
      rcases Nat.eq_zero_or_pos n with h | h
      · exact h
      · obtain ⟨_, b, off, _, _, e, _⟩ := hx.pick h; cases e
    subst hn0
    have hx0 : rs = [] := List.eq_nil_of_length_eq_zero HL.out
    subst hx0
    go_enter Try.func211, Try.ntmps211
    go_wp2
    go_ret
    exact ⟨none, 0, rfl, Own.nil, Below.refl _ _⟩
  · go_enter Try.func211, Try.ntmps211
    go_wp2_with (at_builtin; refine wpList_append_Own rfl (.tmp 5) (.tmp 6) rfl elR (lo := w.heap.size) rfl (Own.lit0 w _ 3) rfl (Rd.alloc hx _) (cells3_one rs) (by omega) (by simp only [maxLen]; omega) (by simp) ?_; intro A2 c2 w2 ho2 hg2 _)
    go_ret
    have hbb := (Own.lit0 w 169 3).below_of ((Below.refl _ _).alloc (Nat.le_refl _) _) hg2 (by simp)
    simp only [List.nil_append] at ho2
    refine ⟨A2, c2, ?_, ?_, hbb⟩
    · rw [HL.out]; simp
    · rw [HL.out]; simpa using ho2

/-- A new machine. -/
def NewM (w : World) (sy st : Int) (rs : List R3) (e : Ending) (w' : World) : Prop :=
  ∃ A c, e = .returned (.agg #[.int .i64 sy, .int .i64 st, .slice A rs.length c]) ∧ Own w' w.heap.size 169 3 A rs.length c (cells3 rs) ∧ Below w.heap.size w w'

set_option maxHeartbeats 2000000 in
theorem copyMachine_any (sy st : Int) (A : Option Addr) (n k : Nat) (rs : List R3) (w : World) (hrs : S3 w A n rs) (hn : n ≤ 1048576) :
    Calls Try.prog 183 #[.agg #[.int .i64 sy, .int .i64 st, .slice A n k]] w (NewM w sy st rs) := by
  obtain ⟨W, hW_⟩ : ∃ W, W = (w.alloc (.cells #[.int .i64 sy, .int .i64 st, .slice A n k] 82)).alloc (.cells #[.int .i64 0, .int .i64 0, .slice none 0 0] 82) := ⟨_, rfl⟩
  have s_1 : (w.alloc (.cells #[.int .i64 sy, .int .i64 st, .slice A n k] 82)).heap.size = w.heap.size + 1 := by simp
  have b0 : Blk W w.heap.size 82 #[.int .i64 sy, .int .i64 st, .slice A n k] := by rw [hW_]; exact (Blk.new w _ _).alloc _
  have b1 : Blk W (w.heap.size + 1) 82 #[.int .i64 0, .int .i64 0, .slice none 0 0] := by rw [hW_, ← s_1]; exact Blk.new _ _ _
  have y0 : Below w.heap.size w W := by rw [hW_]; exact ((Below.refl _ _).alloc (Nat.le_refl _) _).alloc (by simp) _
  have HW := Lib.hid hW_
  clear hW_ s_1
  have q0 : W.cell? ⟨w.heap.size, 0, none⟩ = some (.int .i64 sy) := b0.cell 0
  have q1 : W.cell? ⟨w.heap.size, 1, none⟩ = some (.int .i64 st) := b0.cell 1
  have q2 : W.cell? ⟨w.heap.size, 2, none⟩ = some (.slice A n k) := b0.cell 2
  go_enter Try.func183, Try.ntmps183
  go_wp2_with fail
  rw [← HW.out]
  clear HW
  refine (cloneR_any _ _ _ rs _ (hrs.below y0) hn).mono ?_
  rintro e W1 ⟨A1, c1, rfl, o1, z1⟩
  have y1 := y0.trans (z1.mono y0.size)
  have d0 := b0.below' z1
  have d1 := b1.below' z1
  have hw0 : w.heap.size ≤ W.heap.size := y0.size
  clear q0 q1 q2
  have q0 : W1.cell? ⟨w.heap.size, 0, none⟩ = some (.int .i64 sy) := d0.cell 0
  have q1 : W1.cell? ⟨w.heap.size, 1, none⟩ = some (.int .i64 st) := d0.cell 1
  have q2 : W1.cell? ⟨w.heap.size, 2, none⟩ = some (.slice A n k) := d0.cell 2
  have r0 : W1.cell? ⟨(w.heap.size + 1), 0, none⟩ = some (.int .i64 0) := d1.cell 0
  have r1 : W1.cell? ⟨(w.heap.size + 1), 1, none⟩ = some (.int .i64 0) := d1.cell 1
  have r2 : W1.cell? ⟨(w.heap.size + 1), 2, none⟩ = some (.slice none 0 0) := d1.cell 2
  have f0 := d0.frozen 0
  have f1 := d0.frozen 1
  have f2 := d0.frozen 2
  have g0 := d1.frozen 0
  have g1 := d1.frozen 1
  have g2 := d1.frozen 2
  go_wp2_with fail
  have dB : Blk ((((W1.setCell ⟨w.heap.size, 2, none⟩ (.slice A1 rs.length c1)).setCell ⟨w.heap.size + 1, 0, none⟩ (.int .i64 sy)).setCell ⟨w.heap.size + 1, 1, none⟩ (.int .i64 st)).setCell ⟨w.heap.size + 1, 2, none⟩ (.slice A1 rs.length c1)) (w.heap.size + 1) 82 #[.int .i64 sy, .int .i64 st, .slice A1 rs.length c1] := (((d1.far (p := ⟨w.heap.size, 2, none⟩) (by simp) _).set_ 0 _).set_ 1 _).set_ 2 _
  have hlt1 : w.heap.size + 1 < W.heap.size := b1.lt
  have m0 : Own ((((W1.setCell ⟨w.heap.size, 2, none⟩ (.slice A1 rs.length c1)).setCell ⟨w.heap.size + 1, 0, none⟩ (.int .i64 sy)).setCell ⟨w.heap.size + 1, 1, none⟩ (.int .i64 st)).setCell ⟨w.heap.size + 1, 2, none⟩ (.slice A1 rs.length c1)) W.heap.size 169 3 A1 rs.length c1 (cells3 rs) := (((o1.far (fun e => by have := o1.blk_ge _ e; simp at this; omega) _).far (fun e => by have := o1.blk_ge _ e; simp at this; omega) _).far (fun e => by have := o1.blk_ge _ e; simp at this; omega) _).far (fun e => by have := o1.blk_ge _ e; simp at this; omega) _
  have yf : Below w.heap.size w ((((W1.setCell ⟨w.heap.size, 2, none⟩ (.slice A1 rs.length c1)).setCell ⟨w.heap.size + 1, 0, none⟩ (.int .i64 sy)).setCell ⟨w.heap.size + 1, 1, none⟩ (.int .i64 st)).setCell ⟨w.heap.size + 1, 2, none⟩ (.slice A1 rs.length c1)) := (((y1.setCell (by simp) _).setCell (by simp) _).setCell (by simp) _).setCell (by simp) _
  generalize (((W1.setCell ⟨w.heap.size, 2, none⟩ (.slice A1 rs.length c1)).setCell ⟨w.heap.size + 1, 0, none⟩ (.int .i64 sy)).setCell ⟨w.heap.size + 1, 1, none⟩ (.int .i64 st)).setCell ⟨w.heap.size + 1, 2, none⟩ (.slice A1 rs.length c1) = wf at *
  have g0_ : wf.cell? ⟨w.heap.size + 1, 0, none⟩ = some (.int .i64 sy) := dB.cell 0
  have g1_ : wf.cell? ⟨w.heap.size + 1, 1, none⟩ = some (.int .i64 st) := dB.cell 1
  have g2_ : wf.cell? ⟨w.heap.size + 1, 2, none⟩ = some (.slice A1 rs.length c1) := dB.cell 2
  exact bodyPost_ret (v := .agg #[.int .i64 sy, .int .i64 st, .slice A1 rs.length c1]) (by simp [results, Try.results183, go_sem, g0_, g1_, g2_]) rfl ⟨A1, c1, rfl, m0.mono (by omega), yf⟩

set_option maxHeartbeats 4000000 in
theorem child_any (sy st : Int) (A : Option Addr) (n k : Nat) (rs : List R3) (i : Nat) (r : R3) (w : World) (hrs : S3 w A n rs) (hn : n ≤ 1048576) (hi : i < n) :
    Calls Try.prog 135 #[.agg #[.int .i64 sy, .int .i64 st, .slice A n k], .int .i64 (i : Int), .agg #[.int .i64 r.a, .int .i64 r.b, .int .i64 r.c]] w (NewM w sy st (rs.set i r)) := by
  have HRL := Lib.hid hrs.len
  obtain ⟨W, hW_⟩ : ∃ W, W = ((w.alloc (.cells #[.int .i64 sy, .int .i64 st, .slice A n k] 82)).alloc (.cells #[.int .i64 r.a, .int .i64 r.b, .int .i64 r.c] 169)).alloc (.cells #[.int .i64 0, .int .i64 0, .slice none 0 0] 82) := ⟨_, rfl⟩
  have s_1 : (w.alloc (.cells #[.int .i64 sy, .int .i64 st, .slice A n k] 82)).heap.size = w.heap.size + 1 := by simp
  have s_2 : ((w.alloc (.cells #[.int .i64 sy, .int .i64 st, .slice A n k] 82)).alloc (.cells #[.int .i64 r.a, .int .i64 r.b, .int .i64 r.c] 169)).heap.size = w.heap.size + 1 + 1 := by simp
  have b0 : Blk W w.heap.size 82 #[.int .i64 sy, .int .i64 st, .slice A n k] := by rw [hW_]; exact ((Blk.new w _ _).alloc _).alloc _
  have b1 : Blk W (w.heap.size + 1) 169 #[.int .i64 r.a, .int .i64 r.b, .int .i64 r.c] := by rw [hW_, ← s_1]; exact (Blk.new _ _ _).alloc _
  have b2 : Blk W (w.heap.size + 1 + 1) 82 #[.int .i64 0, .int .i64 0, .slice none 0 0] := by rw [hW_, ← s_2]; exact Blk.new _ _ _
  have y0 : Below w.heap.size w W := by rw [hW_]; exact (((Below.refl _ _).alloc (Nat.le_refl _) _).alloc (by simp) _).alloc (by simp; omega) _
  have HW := Lib.hid hW_
  clear hW_ s_1 s_2
  have q0 : W.cell? ⟨w.heap.size, 0, none⟩ = some (.int .i64 sy) := b0.cell 0
  have q1 : W.cell? ⟨w.heap.size, 1, none⟩ = some (.int .i64 st) := b0.cell 1
  have q2 : W.cell? ⟨w.heap.size, 2, none⟩ = some (.slice A n k) := b0.cell 2
  go_enter Try.func135, Try.ntmps135
  go_wp2_with fail
  rw [← HW.out]
  clear HW
  refine (copyMachine_any _ _ _ _ _ rs _ (hrs.below y0) hn).mono ?_
  rintro e W1 ⟨A1, c1, rfl, o1, z1⟩
  have y1 := y0.trans (z1.mono y0.size)
  have d1 := b1.below' z1
  have d2 := b2.below' z1
  have hlt2 : w.heap.size + 1 + 1 < W.heap.size := b2.lt
  have hW1 := z1.size
  obtain ⟨W2, hW_⟩ : ∃ W_, W_ = W1.alloc (.cells #[.int .i64 sy, .int .i64 st, .slice A1 rs.length c1] 82) := ⟨_, rfl⟩
  have b3 : Blk W2 W1.heap.size 82 #[.int .i64 sy, .int .i64 st, .slice A1 rs.length c1] := by rw [hW_]; exact Blk.new W1 _ _
  have z2 : Below W1.heap.size W1 W2 := by rw [hW_]; exact (Below.refl _ _).alloc (Nat.le_refl _) _
  have HW2 := Lib.hid hW_
  clear hW_
  have y2 := y1.trans (z2.mono y1.size)
  have o2 := o1.below z2
  have e1 := d1.below' z2
  have e2 := d2.below' z2
  clear q0 q1 q2
  have hll : (cells3 rs).length = n * 3 := by rw [length_cells3, HRL.out]
  obtain ⟨b, off, hA, hlo, hbl, x0, f0⟩ := o2.at_ (k := i * 3) (by omega)
  obtain ⟨b', off', hA', _, _, x1, f1⟩ := o2.at_ (k := i * 3 + 1) (by omega)
  obtain ⟨b'', off'', hA'', _, _, x2, f2⟩ := o2.at_ (k := i * 3 + 2) (by omega)
  subst hA
  simp only [Option.some.injEq, Addr.mk.injEq, and_true] at hA' hA''
  obtain ⟨rfl, rfl⟩ := hA'
  obtain ⟨rfl, rfl⟩ := hA''
  have o3 := ((o2.set_ (k := i * 3) (by omega) (.int .i64 r.a)).set_ (k := i * 3 + 1) (by rw [List.length_set]; omega) (.int .i64 r.b)).set_ (k := i * 3 + 2) (by rw [List.length_set, List.length_set]; omega) (.int .i64 r.c)
  rw [cells3_set _ _ r (by rw [HRL.out]; exact hi), ← Nat.add_assoc, ← Nat.add_assoc] at o3
  rw [← Nat.add_assoc] at x1 f1 x2 f2
  have hbW : b < W1.heap.size := o1.blk_lt b rfl
  have n1 : ¬ W1.heap.size = b := by omega
  have n2 : ¬ w.heap.size + 1 + 1 = b := by omega
  have b3' := ((b3.far (p := ⟨b, off + i * 3, none⟩) n1 (.int .i64 r.a)).far (p := ⟨b, off + i * 3 + 1, none⟩) n1 (.int .i64 r.b)).far (p := ⟨b, off + i * 3 + 2, none⟩) n1 (.int .i64 r.c)
  have e2' := ((e2.far (p := ⟨b, off + i * 3, none⟩) n2 (.int .i64 r.a)).far (p := ⟨b, off + i * 3 + 1, none⟩) n2 (.int .i64 r.b)).far (p := ⟨b, off + i * 3 + 2, none⟩) n2 (.int .i64 r.c)
  have y3 := ((y2.setCell (p := ⟨b, off + i * 3, none⟩) (by show w.heap.size ≤ b; omega) (.int .i64 r.a)).setCell (p := ⟨b, off + i * 3 + 1, none⟩) (by show w.heap.size ≤ b; omega) (.int .i64 r.b)).setCell (p := ⟨b, off + i * 3 + 2, none⟩) (by show w.heap.size ≤ b; omega) (.int .i64 r.c)
  have q0 : W2.cell? ⟨W1.heap.size, 0, none⟩ = some (.int .i64 sy) := b3.cell 0
  have q1 : W2.cell? ⟨W1.heap.size, 1, none⟩ = some (.int .i64 st) := b3.cell 1
  have q2 : W2.cell? ⟨W1.heap.size, 2, none⟩ = some (.slice (some ⟨b, off, none⟩) rs.length c1) := b3.cell 2
  have p0 : W2.cell? ⟨(w.heap.size + 1), 0, none⟩ = some (.int .i64 r.a) := e1.cell 0
  have p1 : W2.cell? ⟨(w.heap.size + 1), 1, none⟩ = some (.int .i64 r.b) := e1.cell 1
  have p2 : W2.cell? ⟨(w.heap.size + 1), 2, none⟩ = some (.int .i64 r.c) := e1.cell 2
  have i1 : (0 : Int) ≤ (i : Int) := by omega
  have i2 : (i : Int) < (rs.length : Int) := by rw [HRL.out]; omega
  go_upto_region 2 with fail
  rw [← HW2.out]
  go_upto_region 3 with fail
  generalize ((W2.setCell ⟨b, off + i * 3, none⟩ (.int .i64 r.a)).setCell ⟨b, off + i * 3 + 1, none⟩ (.int .i64 r.b)).setCell ⟨b, off + i * 3 + 2, none⟩ (.int .i64 r.c) = W3 at *
  clear q0 q1 q2 p0 p1 p2 x0 x1 x2 f0 f1 f2
  have q0 : W3.cell? ⟨W1.heap.size, 0, none⟩ = some (.int .i64 sy) := b3'.cell 0
  have q1 : W3.cell? ⟨W1.heap.size, 1, none⟩ = some (.int .i64 st) := b3'.cell 1
  have q2 : W3.cell? ⟨W1.heap.size, 2, none⟩ = some (.slice (some ⟨b, off, none⟩) rs.length c1) := b3'.cell 2
  have p0 : W3.cell? ⟨(w.heap.size + 1 + 1), 0, none⟩ = some (.int .i64 0) := e2'.cell 0
  have p1 : W3.cell? ⟨(w.heap.size + 1 + 1), 1, none⟩ = some (.int .i64 0) := e2'.cell 1
  have p2 : W3.cell? ⟨(w.heap.size + 1 + 1), 2, none⟩ = some (.slice none 0 0) := e2'.cell 2
  have g0 := e2'.frozen 0
  have g1 := e2'.frozen 1
  have g2 := e2'.frozen 2
  go_wp2_with fail
  have dB : Blk (((W3.setCell ⟨w.heap.size + 1 + 1, 0, none⟩ (.int .i64 sy)).setCell ⟨w.heap.size + 1 + 1, 1, none⟩ (.int .i64 st)).setCell ⟨w.heap.size + 1 + 1, 2, none⟩ (.slice (some ⟨b, off, none⟩) rs.length c1)) (w.heap.size + 1 + 1) 82 #[.int .i64 sy, .int .i64 st, .slice (some ⟨b, off, none⟩) rs.length c1] := ((e2'.set_ 0 _).set_ 1 _).set_ 2 _
  have far : blk (some ⟨b, off, none⟩) ≠ some (w.heap.size + 1 + 1) := fun e => by simp [blk] at e; omega
  have m0 : Own (((W3.setCell ⟨w.heap.size + 1 + 1, 0, none⟩ (.int .i64 sy)).setCell ⟨w.heap.size + 1 + 1, 1, none⟩ (.int .i64 st)).setCell ⟨w.heap.size + 1 + 1, 2, none⟩ (.slice (some ⟨b, off, none⟩) rs.length c1)) W.heap.size 169 3 (some ⟨b, off, none⟩) rs.length c1 (cells3 (rs.set i r)) := ((o3.far far _).far far _).far far _
  have yf : Below w.heap.size w (((W3.setCell ⟨w.heap.size + 1 + 1, 0, none⟩ (.int .i64 sy)).setCell ⟨w.heap.size + 1 + 1, 1, none⟩ (.int .i64 st)).setCell ⟨w.heap.size + 1 + 1, 2, none⟩ (.slice (some ⟨b, off, none⟩) rs.length c1)) := ((y3.setCell (by simp; omega) _).setCell (by simp; omega) _).setCell (by simp; omega) _
  generalize ((W3.setCell ⟨w.heap.size + 1 + 1, 0, none⟩ (.int .i64 sy)).setCell ⟨w.heap.size + 1 + 1, 1, none⟩ (.int .i64 st)).setCell ⟨w.heap.size + 1 + 1, 2, none⟩ (.slice (some ⟨b, off, none⟩) rs.length c1) = wf at *
  have g0_ : wf.cell? ⟨w.heap.size + 1 + 1, 0, none⟩ = some (.int .i64 sy) := dB.cell 0
  have g1_ : wf.cell? ⟨w.heap.size + 1 + 1, 1, none⟩ = some (.int .i64 st) := dB.cell 1
  have g2_ : wf.cell? ⟨w.heap.size + 1 + 1, 2, none⟩ = some (.slice (some ⟨b, off, none⟩) rs.length c1) := dB.cell 2
  have hl2 : (rs.set i r).length = rs.length := List.length_set
  exact bodyPost_ret (v := .agg #[.int .i64 sy, .int .i64 st, .slice (some ⟨b, off, none⟩) rs.length c1]) (by simp [results, Try.results135, go_sem, g0_, g1_, g2_]) rfl ⟨some ⟨b, off, none⟩, c1, by rw [hl2], by rw [hl2]; exact m0.mono y0.size, yf⟩
end Go.Proofs.Ythipbeggaeogcaa
