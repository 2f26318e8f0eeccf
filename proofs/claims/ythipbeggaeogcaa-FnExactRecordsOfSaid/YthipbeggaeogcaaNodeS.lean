/-
  Contracts of the reference's l00Max, l30Used, l05Budget, l30Status, NodeStatus.
-/
import Derived.Test.YthipbeggaeogcaaNodeI
import Derived.Test.YthipbeggaeogcaaRunT
namespace Go.Proofs.Ythipbeggaeogcaa
open Go.RowKit

theorem l00Max_any (a b : Int) (w : World) : Calls Try.prog 120 #[.int .i64 a, .int .i64 b] w fun e w' => e = .returned (.int .i64 (if b < a then a else b)) ∧ w = w' := by
  by_cases h : b < a
  · rw [if_pos h]
    go_enter Try.func120, Try.ntmps120
    go_wp2_with fail
    go_ret
    exact ⟨rfl, rfl⟩
  · rw [if_neg h]
    go_enter Try.func120, Try.ntmps120
    go_wp2_with fail
    go_ret
    exact ⟨rfl, rfl⟩

theorem l05Budget_any (b : Int) (w : World) : Calls Try.prog 73 #[.int .i64 b] w fun e w' => e = .returned (.bool (inB b 1 20000)) ∧ w = w' := by
  go_enter Try.func73, Try.ntmps73
  go_wp2_with (go_at_call 82; refine (l00In_any _ _ _ _).mono ?_; rintro e w' ⟨rfl, rfl⟩)
  go_ret
  exact ⟨rfl, rfl⟩
theorem l05Budget_is {b : Int} {v : Bool} (h : inB b 1 20000 = v) (w : World) : Calls Try.prog 73 #[.int .i64 b] w fun e w' => e = .returned (.bool v) ∧ w = w' := h ▸ l05Budget_any b w

/-- The numbers of used states and symbols, and of rules, of the first k rules. -/
def usedTo (rs : List R3) : Nat → Int × Int × Int
  | 0 => (1, 1, 0)
  | k + 1 => let u := usedTo rs k; let r := rs.getD k ⟨0, 0, -1⟩
    if isRuleB r then ((if r.c + 1 < u.1 then u.1 else r.c + 1), (if r.a + 1 < u.2.1 then u.2.1 else r.a + 1), u.2.2 + 1) else u
def usedF (rs : List R3) : Int × Int × Int := usedTo rs rs.length
theorem usedTo_yes {rs : List R3} {k : Nat} {r : R3} (h : rs[k]? = some r) (hr : isRuleB r = true) : usedTo rs (k + 1) = ((if r.c + 1 < (usedTo rs k).1 then (usedTo rs k).1 else r.c + 1), (if r.a + 1 < (usedTo rs k).2.1 then (usedTo rs k).2.1 else r.a + 1), (usedTo rs k).2.2 + 1) := by
  have e : rs.getD k ⟨0, 0, -1⟩ = r := by simp [List.getD, h]
  show (if isRuleB (rs.getD k ⟨0, 0, -1⟩) then _ else _) = _
  rw [e, hr]; rfl
theorem usedTo_no {rs : List R3} {k : Nat} {r : R3} (h : rs[k]? = some r) (hr : isRuleB r = false) : usedTo rs (k + 1) = usedTo rs k := by
  have e : rs.getD k ⟨0, 0, -1⟩ = r := by simp [List.getD, h]
  show (if isRuleB (rs.getD k ⟨0, 0, -1⟩) then _ else _) = _
  rw [e, hr]; rfl
theorem usedTo_free {rs : List R3} {k : Nat} (hk : k ≤ rs.length) : (usedTo rs k).2.2 + ((freeTo rs k).length : Int) = (k : Int) := by
  induction k with
  | zero => simp [usedTo, freeTo]
  | succ k ih =>
    have ih := ih (by omega)
    have hg : rs[k]? = some rs[k] := List.getElem?_eq_getElem (by omega)
    cases hr : isRuleB rs[k] with
    | true => rw [usedTo_yes hg hr, freeTo_no hg hr]; show (usedTo rs k).2.2 + 1 + _ = _; omega
    | false => rw [usedTo_no hg hr, freeTo_yes hg hr]; simp; omega
theorem used_free (rs : List R3) : (usedF rs).2.2 + ((freeF rs).length : Int) = (rs.length : Int) := usedTo_free (Nat.le_refl _)

/-- The fields of a machine's rules are small. -/
def SmallR (rs : List R3) : Prop := ∀ r ∈ rs, isRuleB r = true → 0 ≤ r.a ∧ r.a ≤ 100000 ∧ 0 ≤ r.c ∧ r.c ≤ 100000
theorem usedTo_small {rs : List R3} (h : SmallR rs) {k : Nat} (hk : k ≤ rs.length) : 1 ≤ (usedTo rs k).1 ∧ (usedTo rs k).1 ≤ 100001 ∧ 1 ≤ (usedTo rs k).2.1 ∧ (usedTo rs k).2.1 ≤ 100001 ∧ 0 ≤ (usedTo rs k).2.2 ∧ (usedTo rs k).2.2 ≤ k := by
  induction k with
  | zero => simp [usedTo]
  | succ k ih =>
    have ih := ih (by omega)
    have hg : rs[k]? = some rs[k] := List.getElem?_eq_getElem (by omega)
    cases hr : isRuleB rs[k] with
    | true =>
      have hs := h _ (List.getElem_mem (by omega : k < rs.length)) hr
      rw [usedTo_yes hg hr]
      dsimp only
      repeat' split
      all_goals omega
    | false => rw [usedTo_no hg hr]; omega

theorem small_of {sy st : Int} {rs : List R3} (h : machB sy st rs = true) : SmallR rs := fun r hr hi => by
  obtain ⟨k1, k2, k3, k4, _, k6⟩ := machB_parts h
  have hv := k6 r hr
  unfold validRuleB at hv
  rw [hi] at hv
  simp only [Bool.not_true, Bool.false_or, Bool.and_eq_true, inB_iff] at hv
  omega
theorem blank_good (sy st : Int) (rs : List R3) : validConfB sy st rs 0 [] [] = machB sy st rs := by
  unfold validConfB
  cases h : machB sy st rs with
  | false => rfl
  | true =>
    obtain ⟨k1, k2, k3, k4, _, _⟩ := machB_parts h
    have : confB sy st 0 [] [] = true := by
      unfold confB sideB allIn
      simp [inB]
      omega
    rw [this]; rfl

set_option maxHeartbeats 4000000 in
theorem l30Used_any (g : Nat) (sy st : Int) (A : Option Addr) (n k : Nat) (rs : List R3) (w : World) (hm : MachAt w g sy st A n k) (hrs : S3 w A n rs) (hn : n ≤ 1048576) (hs : SmallR rs) :
    Calls Try.prog 174 #[.pointer (some ⟨g, 0, none⟩)] w (NodeP w (usedF rs)) := by
  have hrl : rs.length = n := hrs.len
  have HRL := Lib.hid hrl
  have HS := Lib.hid hs
  clear hrl hs
  go_enter Try.func174, Try.ntmps174
  go_wp2_with fail
  go_loopw [5, 6, 7, 8] (fun s5 s6 s7 s8 wr => ∃ (j : Nat), j ≤ n ∧ s5 = .int .i64 (usedTo rs j).1 ∧ s6 = .int .i64 (usedTo rs j).2.1 ∧ s7 = .int .i64 (usedTo rs j).2.2 ∧ s8 = .int .i64 (j : Int) ∧ Below w.heap.size w wr) (fun _ _ _ i _ => n - (intOf i).toNat)
  case atStart => exact ⟨0, Nat.zero_le _, rfl, rfl, rfl, rfl, Below.refl _ _⟩
  case round =>
    obtain ⟨j, hj, rfl, rfl, rfl, rfl, hy⟩ := hrel
    have hm1 := hm.below hy
    have hgw := hm1.lt
    obtain ⟨q0, q1, q2⟩ := id hm1
    by_cases hlt : j < n
    · obtain ⟨r, b, off, HT, hrm, rfl, hbl, p0, p1, p2⟩ := (hrs.below hy).pick hlt
      have hsm := usedTo_small HS.out (k := j) (by rw [HRL.out]; omega)
      have HYES := Lib.hid (fun h => usedTo_yes (k := j) HT.out h)
      have HNO := Lib.hid (fun h => usedTo_no (k := j) HT.out h)
      have HB := Lib.hid (HS.out r hrm)
      clear hrm hrs hm hm1
      obtain ⟨u, hu⟩ : ∃ u, u = usedTo rs j := ⟨_, rfl⟩
      rw [← hu] at hsm HYES HNO ⊢
      obtain ⟨u1, u2, u3⟩ := u
      dsimp only at hsm HYES ⊢
      obtain ⟨s1, s2, s3, s4, s5, s6⟩ := hsm
      clear hu
      cases g0 : (r.a == 0) <;> cases g1 : (r.b == 0) <;> cases g2 : (r.c == -1)
      all_goals
        have HE := Lib.hid (isRuleB_r r)
        have H0 := Lib.hid g0
        have H1 := Lib.hid g1
        have H2 := Lib.hid g2
        go_wp2_with fail
        go_region_held3 (fun w' => w'.cell? ⟨g, 2, none⟩ = some (.slice (some ⟨b, off, none⟩) n k) ∧ w'.cell? ⟨b, off + j * 3, none⟩ = some (.int .i64 r.a) ∧ w'.cell? ⟨b, off + j * 3 + 1, none⟩ = some (.int .i64 r.b) ∧ w'.cell? ⟨b, off + j * 3 + 2, none⟩ = some (.int .i64 r.c))
          (first
            | (go_keep; done)
            | (exact ⟨(z2.cell (p := ⟨g, 2, none⟩) hgw).trans q2, (z2.cell (p := ⟨b, off + j * 3, none⟩) hbl).trans p0, (z2.cell (p := ⟨b, off + j * 3 + 1, none⟩) hbl).trans p1, (z2.cell (p := ⟨b, off + j * 3 + 2, none⟩) hbl).trans p2⟩))
          (first
            | (go_at_call 184; refine (l05None_any _).mono ?_; rintro e w2 ⟨rfl, z2'⟩; have z2 : Below wr.heap.size wr w2 := below_undrew z2'))
        clear g0 g1 g2
      rotate_right
      · have hy2 : Below w.heap.size w w2 := hy.trans (z2.mono hy.size)
        have HF := Lib.hid (HNO.out (by rw [HE.out, H0.out, H1.out, H2.out]; rfl))
        go_wp2_with fail
        go_roundw
        case rel => exact ⟨j + 1, by omega, by rw [HF.out], by rw [HF.out], by rw [HF.out], by go_num, hy2⟩
        case measure => simp [intOf]; omega
      all_goals
        have hy2 : Below w.heap.size w w2 := hy.trans (z2.mono hy.size)
        have hru : isRuleB r = true := by rw [HE.out, H0.out, H1.out, H2.out]; rfl
        have HF := Lib.hid (HYES.out hru)
        obtain ⟨t1, t2, t3, t4⟩ := HB.out hru
        clear hru
        have e2 : w2.cell? ⟨g, 2, none⟩ = some (.slice (some ⟨b, off, none⟩) n k) := (z2.cell (p := ⟨g, 2, none⟩) hgw).trans q2
        have d0 : w2.cell? ⟨b, off + j * 3, none⟩ = some (.int .i64 r.a) := (z2.cell (p := ⟨b, off + j * 3, none⟩) hbl).trans p0
        have d2 : w2.cell? ⟨b, off + j * 3 + 2, none⟩ = some (.int .i64 r.c) := (z2.cell (p := ⟨b, off + j * 3 + 2, none⟩) hbl).trans p2
        go_wp2_with (go_at_call 120; refine (l00Max_any _ _ _).mono ?_; rintro e w' ⟨rfl, rfl⟩)
        go_roundw
        case rel => exact ⟨j + 1, by omega, by rw [HF.out], by rw [HF.out], by rw [HF.out], by go_num, hy2⟩
        case measure => simp [intOf]; omega
    · have hjn : j = rs.length := by rw [HRL.out]; omega
      go_wp2_with fail
      exact bodyPost_ret (v := .tuple #[.int .i64 (usedTo rs j).1, .int .i64 (usedTo rs j).2.1, .int .i64 (usedTo rs j).2.2]) (by simp [results, Try.results174, go_sem]) rfl (by rw [hjn]; exact ⟨rfl, hy⟩)

set_option maxHeartbeats 4000000 in
theorem l30Status_any (g : Nat) (sy st : Int) (A : Option Addr) (n k : Nat) (rs : List R3) (N : Nat) (w : World) (hm : MachAt w g sy st A n k) (hrs : S3 w A n rs) (hn : n ≤ 1048576) (hg : goodC sy st rs blankC) (hs : SmallR rs) (hN : N ≤ 1000000) :
    Calls Try.prog 130 #[.pointer (some ⟨g, 0, none⟩), .int .i64 (N : Int)] w (NodeP w (nodeF sy rs N)) := by
  have hrl : rs.length = n := hrs.len
  have hfree := used_free rs
  have HFL : Hid ((usedF rs).2.2 + ((freeF rs).length : Int) = (n : Int)) := Lib.hid (by rw [← hrl]; exact hfree)
  have HS := Lib.hid hs
  clear hrl hs hfree
  go_enter Try.func130, Try.ntmps130
  go_wp2_with fail
  refine (l05Run_any g sy st A n k rs blankC _ _ _ _ N w hm hrs SI.nil SI.nil hg hn hN).mono ?_
  rintro e W1 ⟨hcase, z1⟩
  rcases hcase with ⟨i, hi, L, a, R, d, rfl, oL, oR, hap⟩ | ⟨⟨i, hi⟩, rfl⟩
  · have hg2 := hi.2.1.good hg
    obtain ⟨W2, hW2⟩ : ∃ W, W = W1.alloc (.cells #[.int .i64 (itC sy rs blankC i).q, .slice L (itC sy rs blankC i).xs.length a, .slice R (itC sy rs blankC i).ys.length d] 172) := ⟨_, rfl⟩
    have b2 : Blk W2 W1.heap.size 172 #[.int .i64 (itC sy rs blankC i).q, .slice L (itC sy rs blankC i).xs.length a, .slice R (itC sy rs blankC i).ys.length d] := by rw [hW2]; exact Blk.new W1 _ _
    have z2 : Below W1.heap.size W1 W2 := by rw [hW2]; exact (Below.refl _ _).alloc (Nat.le_refl _) _
    have hcc : ConfC W2 w.heap.size W1.heap.size (itC sy rs blankC i) := ⟨L, a, R, d, b2, oL.below z2, oR.below z2, hap⟩
    have y2 : Below w.heap.size w W2 := z1.trans (z2.mono z1.size)
    have HW2 := Lib.hid hW2
    clear hW2 oL oR hap b2
    cases hh : haltC sy rs (itC sy rs blankC i) with
    | false =>
      have HF := Lib.hid (nodeF_runs hi hh)
      clear hh
      go_wp2_with fail
      try rw [← HW2.out]
      exact bodyPost_ret (v := .tuple #[.int .i64 2, .int .i64 0, .int .i64 (i : Int)]) (by simp [results, Try.results130, go_sem]) rfl (nodeP HF.out y2)
    | true =>
      have HI := Lib.hid hi
      have HH := Lib.hid hh
      clear hh hi
      go_wp2_with fail
      rw [← HW2.out]
      refine (l30Used_any g sy st A n k rs W2 (hm.below y2) (hrs.below y2) hn HS.out).mono ?_
      rintro e W3 ⟨rfl, z3⟩
      have y3 : Below w.heap.size w W3 := y2.trans (z3.mono y2.size)
      have hcc3 := hcc.below z3
      have hm3 := hm.below y3
      obtain ⟨q0, q1, q2⟩ := id hm3
      obtain ⟨u, hu⟩ : ∃ u, u = usedF rs := ⟨_, rfl⟩
      rw [← hu] at HFL ⊢
      clear hu
      obtain ⟨u1, u2, u3⟩ := u
      have hfl : u3 + ((freeF rs).length : Int) = (n : Int) := HFL.out
      by_cases h1 : (freeF rs).length = 1
      · have HF := Lib.hid (nodeF_last HI.out HH.out h1)
        have hu3 : u3 + 1 = (n : Int) := by omega
        have hu4 : 0 ≤ u3 + 1 ∧ u3 + 1 ≤ 2000000 := by omega
        clear hfl
        go_wp2_with (go_at_call 175; refine (l05At_c hm3 hcc3 hg2).mono ?_; rintro e W4 ⟨rfl, q4, rfl⟩)
        exact bodyPost_ret (v := .tuple #[.int .i64 1, .int .i64 (atI sy (itC sy rs blankC i).q (itC sy rs blankC i).ys.reverse), .int .i64 (i : Int)]) (by simp [results, Try.results130, go_sem]) rfl (nodeP HF.out (below_drewN y3 q4))
      · have HF := Lib.hid (nodeF_open HI.out HH.out h1)
        have hu5 : ¬ (u3 + 1 = (n : Int)) := by omega
        have hu4 : -2000000 ≤ u3 + 1 ∧ u3 + 1 ≤ 2000000 := by
          have := freeTo_len rs rs.length
          have : (freeF rs).length ≤ n := by have h : rs.length = n := hrs.len; rw [← h]; exact this
          omega
        clear hfl
        go_wp2_with (go_at_call 175; refine (l05At_c hm3 hcc3 hg2).mono ?_; rintro e W4 ⟨rfl, q4, rfl⟩)
        exact bodyPost_ret (v := .tuple #[.int .i64 0, .int .i64 (atI sy (itC sy rs blankC i).q (itC sy rs blankC i).ys.reverse), .int .i64 (i : Int)]) (by simp [results, Try.results130, go_sem]) rfl (nodeP HF.out (below_drewN y3 q4))
  · have HF := Lib.hid (nodeF_full hi)
    obtain ⟨W2, hW2⟩ : ∃ W, W = W1.alloc (.cells #[.int .i64 0, .slice none 0 0, .slice none 0 0] 172) := ⟨_, rfl⟩
    have y2 : Below w.heap.size w W2 := z1.trans (by rw [hW2]; exact (Below.refl _ _).alloc z1.size _)
    go_wp2_with fail
    try rw [← hW2]
    exact bodyPost_ret (v := .tuple #[.int .i64 3, .int .i64 0, .int .i64 0]) (by simp [results, Try.results130, go_sem]) rfl (nodeP HF.out y2)

end Go.Proofs.Ythipbeggaeogcaa
