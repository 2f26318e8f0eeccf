/-
  Contracts of the reference's functions on machines: l05None, l05Rule, l05Is.
-/
import Derived.Test.YtokglpdlhacnaaaDoorPbBackAll1
import Derived.Deep.RegionHeld3
import Derived.RegionTactic
import Derived.Deep.RegionLaw
import Derived.Deep.DeepCutAuto
namespace Go.Proofs.YtokglpdlhacnaaaDoor
open Go.RowKit

theorem l05None_any (w : World) : Calls Tryd.prog 93 #[] w fun e w' => e = .returned (.agg #[.int .i64 0, .int .i64 0, .int .i64 (-1)]) ∧ Below w.heap.size w w' := by
  go_enter Tryd.func93, Tryd.ntmps93
  go_wp2
  exact bodyPost_ret (v := .agg #[.int .i64 0, .int .i64 0, .int .i64 (-1)]) (by simp [results, Tryd.results93, go_sem]) rfl ⟨rfl, (Below.refl _ _).alloc (Nat.le_refl _) _⟩

theorem validRuleB_no {sy st : Int} {r : R3} (h : isRuleB r = false) : true = validRuleB sy st r := by unfold validRuleB; rw [h]; rfl
theorem validRuleB_eq {sy st a b c : Int} (h : isRuleB ⟨a, b, c⟩ = true) : validRuleB sy st ⟨a, b, c⟩ = (inB a 0 (sy - 1) && ((b == -1) || (b == 1)) && inB c 0 (st - 1)) := by unfold validRuleB; rw [h]; rfl

set_option maxHeartbeats 2000000 in
theorem l05Rule_any (sy st : Int) (a b c : Int) (w : World) (h1 : 1 ≤ sy) (h2 : sy ≤ 100000) (h3 : 1 ≤ st) (h4 : st ≤ 100000) :
    Calls Tryd.prog 89 #[.agg #[.int .i64 a, .int .i64 b, .int .i64 c], .int .i64 sy, .int .i64 st] w fun e w' => e = .returned (.bool (validRuleB sy st ⟨a, b, c⟩)) ∧ Below w.heap.size w w' := by
  obtain ⟨W, hW⟩ : ∃ W, W = w.alloc (.cells #[.int .i64 a, .int .i64 b, .int .i64 c] 136) := ⟨_, rfl⟩
  have b0 : Blk W w.heap.size 136 #[.int .i64 a, .int .i64 b, .int .i64 c] := by rw [hW]; exact Blk.new w _ _
  have y0 : Below w.heap.size w W := by rw [hW]; exact (Below.refl _ _).alloc (Nat.le_refl _) _
  have HW := Lib.hid hW
  clear hW
  have q0 : W.cell? ⟨w.heap.size, 0, none⟩ = some (.int .i64 a) := b0.cell 0
  have q1 : W.cell? ⟨w.heap.size, 1, none⟩ = some (.int .i64 b) := b0.cell 1
  have q2 : W.cell? ⟨w.heap.size, 2, none⟩ = some (.int .i64 c) := b0.cell 2
  cases g0 : (a == 0) <;> cases g1 : (b == 0) <;> cases g2 : (c == -1)
  all_goals
    have HE := Lib.hid (isRuleB_eq a b c)
    have H0 := Lib.hid g0
    have H1 := Lib.hid g1
    have H2 := Lib.hid g2
    go_enter Tryd.func89, Tryd.ntmps89
    go_wp2_with fail
    rw [← HW.out]
    go_region_held3 (fun w' => w'.cell? ⟨w.heap.size, 0, none⟩ = some (.int .i64 a) ∧ w'.cell? ⟨w.heap.size, 1, none⟩ = some (.int .i64 b) ∧ w'.cell? ⟨w.heap.size, 2, none⟩ = some (.int .i64 c))
      (first
        | (go_keep; done)
        | (exact ⟨(b0.below' hb2).cell 0, (b0.below' hb2).cell 1, (b0.below' hb2).cell 2⟩))
      (first
        | (go_at_call 93; refine (l05None_any _).mono ?_; rintro e w2 ⟨rfl, hb2'⟩; have hb2 : Below W.heap.size W w2 := below_undrew hb2'))
    clear g0 g1 g2
  rotate_right
  · go_wp2_with fail
    go_ret
    exact ⟨ret_bool (validRuleB_no (by rw [HE.out, H0.out, H1.out, H2.out]; rfl)), y0.trans (hb2.mono y0.size)⟩
  all_goals
    have HV := Lib.hid (validRuleB_eq (sy := sy) (st := st) (by rw [HE.out, H0.out, H1.out, H2.out]; rfl : isRuleB ⟨a, b, c⟩ = true))
    have c0 := b0.below' hb2
    have q0 : w2.cell? ⟨w.heap.size, 0, none⟩ = some (.int .i64 a) := c0.cell 0
    have q1 : w2.cell? ⟨w.heap.size, 1, none⟩ = some (.int .i64 b) := c0.cell 1
    have q2 : w2.cell? ⟨w.heap.size, 2, none⟩ = some (.int .i64 c) := c0.cell 2
    go_wp2_with (go_at_call 55; refine (l00In_any _ _ _ _).mono ?_; rintro e w' ⟨rfl, rfl⟩)
    all_goals go_ret
    all_goals exact ⟨ret_bool (by rw [HV.out]; simp [*]), y0.trans (hb2.mono y0.size)⟩
end Go.Proofs.YtokglpdlhacnaaaDoor

/-
  Contracts of the reference's functions on machines: l05Is, l05Cells, l05Good.
-/
namespace Go.Proofs.YtokglpdlhacnaaaDoor
open Go.RowKit

theorem all_not {sy st : Int} {rs : List R3} {r : R3} {k : Nat} (hT : rs[k]? = some r) (h : validRuleB sy st r = false) : rs.all (validRuleB sy st) = false := by
  rw [List.all_eq_false]; exact ⟨r, List.mem_of_getElem? hT, by simp [h]⟩
theorem all_next {sy st : Int} {rs : List R3} {r : R3} {k : Nat} (hT : rs[k]? = some r) (h : validRuleB sy st r = true) (he : (rs.take k).all (validRuleB sy st) = true) : (rs.take (k + 1)).all (validRuleB sy st) = true := by
  obtain ⟨hk, rfl⟩ := List.getElem?_eq_some_iff.1 hT
  rw [List.take_succ_eq_append_getElem hk, List.all_append, he]
  simpa using h
theorem machB_of {sy st : Int} {rs : List R3} {n : Nat} {b : Bool} (hl : rs.length = n) (h1 : inB sy 2 6 = true) (h2 : inB st 1 1000 = true) (h3 : ((n : Int) != sy * st) = false) (h : rs.all (validRuleB sy st) = b) : b = machB sy st rs := by
  unfold machB
  rw [h1, h2, hl, h]
  simp at h3
  have : (n : Int) = st * sy := by rw [h3, Int.mul_comm]
  simp [this]

theorem l05Rule_r (sy st : Int) (r : R3) (w : World) (h1 : 1 ≤ sy) (h2 : sy ≤ 100000) (h3 : 1 ≤ st) (h4 : st ≤ 100000) :
    Calls Tryd.prog 89 #[.agg #[.int .i64 r.a, .int .i64 r.b, .int .i64 r.c], .int .i64 sy, .int .i64 st] w fun e w' => e = .returned (.bool (validRuleB sy st r)) ∧ Below w.heap.size w w' := l05Rule_any sy st r.a r.b r.c w h1 h2 h3 h4

set_option maxHeartbeats 2000000 in
theorem l05Is_any (g : Nat) (sy st : Int) (A : Option Addr) (n k : Nat) (rs : List R3) (w : World) (hm : MachAt w g sy st A n k) (hx : S3 w A n rs) (hn : n ≤ 1048576) :
    Calls Tryd.prog 54 #[.pointer (some ⟨g, 0, none⟩)] w fun e w' => e = .returned (.bool (machB sy st rs)) ∧ Below w.heap.size w w' := by
  have HL := Lib.hid hx.len
  have hm' := hm
  obtain ⟨q0, q1, q2⟩ := hm'
  cases hs : inB sy 2 6
  · have HS := Lib.hid hs
    go_enter Tryd.func54, Tryd.ntmps54
    go_wp2_with fail
    go_quiet ((go_at_call 55; exact quiet_left (l00In_any _ _ _ _)))
    go_wp2_with fail
    go_ret
    exact ⟨ret_bool (by unfold machB; rw [HS.out]; rfl), below_drewN (Below.refl _ _) _⟩
  cases ht : inB st 1 1000
  · have HS := Lib.hid hs
    have HT := Lib.hid ht
    go_enter Tryd.func54, Tryd.ntmps54
    go_wp2_with fail
    go_quiet ((go_at_call 55; exact quiet_left (l00In_any _ _ _ _)))
    go_wp2_with fail
    go_ret
    exact ⟨ret_bool (by unfold machB; rw [HS.out, HT.out]; rfl), below_drewN (Below.refl _ _) _⟩
  have hs' := (inB_iff _ _ _).1 hs
  have ht' := (inB_iff _ _ _).1 ht
  have HS := Lib.hid hs
  have HT := Lib.hid ht
  obtain ⟨s1, s2⟩ := hs'
  obtain ⟨t1, t2⟩ := ht'
  have hmul : 0 ≤ sy * st ∧ sy * st ≤ 6000 := by
    rw [Int.mul_comm]
    constructor
    · exact Int.mul_nonneg (by omega) (by omega)
    · have h1 : st * sy ≤ 1000 * sy := Int.mul_le_mul_of_nonneg_right t2 (by omega)
      have h2 : (1000 : Int) * sy ≤ 1000 * 6 := Int.mul_le_mul_of_nonneg_left s2 (by omega)
      omega
  obtain ⟨m1, m2⟩ := hmul
  have hwr : IntKind.i64.wrap (sy * st) = sy * st := IntWalk.i64_in _ (by omega)
  cases hne : ((n : Int) != sy * st)
  · have HNE := Lib.hid hne
    go_enter Tryd.func54, Tryd.ntmps54
    go_wp2_with fail
    go_quiet ((go_at_call 55; exact quiet_left (l00In_any _ _ _ _)))
    clear hwr hne hs ht
    go_wp2_with fail
    have yq : Below w.heap.size w (w.drewN nq) := below_drewN (Below.refl _ _) nq
    go_loopw [3] (fun i wr => ∃ j : Nat, j ≤ n ∧ i = .int .i64 j ∧ Hid ((rs.take j).all (validRuleB sy st) = true) ∧ Below w.heap.size w wr) (fun i _ => n - (intOf i).toNat)
    case atStart => exact ⟨0, by omega, rfl, rfl, yq⟩
    case round =>
      clear q0 q1 q2
      obtain ⟨j, hj, rfl, he, hb⟩ := hrel
      obtain ⟨q0, q1, q2⟩ := hm.below hb
      by_cases hlt : j < n
      · obtain ⟨r, b, off, hR, hrm, rfl, hbl, r0, r1, r2⟩ := (hx.below hb).pick hlt
        have hM := hm.below hb
        have hxb := hx.below hb
        go_wp2_with fail
        go_region_held3 (fun w' => w'.cell? ⟨g, 0, none⟩ = some (.int .i64 sy) ∧ w'.cell? ⟨g, 1, none⟩ = some (.int .i64 st) ∧ w'.cell? ⟨g, 2, none⟩ = some (.slice (some ⟨b, off, none⟩) n k) ∧ w'.cell? ⟨b, off + j * 3, none⟩ = some (.int .i64 r.a) ∧ w'.cell? ⟨b, off + j * 3 + 1, none⟩ = some (.int .i64 r.b) ∧ w'.cell? ⟨b, off + j * 3 + 2, none⟩ = some (.int .i64 r.c))
          (first
            | (go_keep; done)
            | (exact ⟨(hM.below z2).1, (hM.below z2).2.1, (hM.below z2).2.2, (z2.cell (p := ⟨b, off + j * 3, none⟩) hbl).trans r0, (z2.cell (p := ⟨b, off + j * 3 + 1, none⟩) hbl).trans r1, (z2.cell (p := ⟨b, off + j * 3 + 2, none⟩) hbl).trans r2⟩))
          (first
            | (go_at_call 89; refine (l05Rule_r _ _ r _ (by omega) (by omega) (by omega) (by omega)).mono ?_; rintro e w2 ⟨rfl, z2'⟩; have z2 : Below wr.heap.size wr w2 := below_undrew z2'))
        have y2 : Below w.heap.size w w2 := hb.trans (z2.mono hb.size)
        cases hv : validRuleB sy st r
        · have HV := Lib.hid hv
          clear hv
          go_wp2_with fail
          go_ret
          exact ⟨ret_bool (machB_of HL.out HS.out HT.out HNE.out (all_not hR.out HV.out)), y2⟩
        · have HV := Lib.hid hv
          clear hv
          go_wp2_with fail
          exact ⟨⟨j + 1, by omega, by go_num, all_next hR.out HV.out he.out, y2⟩, by simp [intOf]; omega⟩
      · go_wp2
        go_ret
        refine ⟨ret_bool (machB_of HL.out HS.out HT.out HNE.out ?_), hb⟩
        have := he.out
        rw [List.take_of_length_le (by rw [HL.out]; omega)] at this
        exact this
  · have HNE := Lib.hid hne
    go_enter Tryd.func54, Tryd.ntmps54
    go_wp2_with fail
    go_quiet ((go_at_call 55; exact quiet_left (l00In_any _ _ _ _)))
    clear hwr
    go_wp2_with fail
    go_ret
    exact ⟨ret_bool (by have h := HNE.out; unfold machB; rw [HS.out, HT.out, HL.out]; simp at h; rw [Int.mul_comm] at h; simp [h]), below_drewN (Below.refl _ _) _⟩

theorem side_at {xs : List Int} {sy : Int} {k n : Nat} (hk : k < n) (hl : xs.length = n) (h : (!inB (xs[k]'(by omega)) 0 (sy - 1)) = true) : false = sideB xs sy 200 := by
  have := allIn_at hk hl h
  unfold sideB; rw [← this]; simp

set_option maxHeartbeats 1000000 in
theorem l05Cells_any (g : Nat) (sy st : Int) (A : Option Addr) (n k : Nat) (B : Option Addr) (m c : Nat) (xs : List Int) (w : World) (hm : MachAt w g sy st A n k) (hx : SI w B m xs) (hl : m ≤ 1048576) (h1 : 2 ≤ sy) (h2 : sy ≤ 6) :
    Calls Tryd.prog 106 #[.pointer (some ⟨g, 0, none⟩), .slice B m c] w fun e w' => e = .returned (.bool (sideB xs sy 200)) ∧ ∃ q, w' = w.drewN q := by
  obtain ⟨q0, q1, q2⟩ := hm
  have HL := Lib.hid hx.len
  have hwr : IntKind.i64.wrap (sy - 1) = sy - 1 := IntWalk.i64_in _ (by omega)
  go_enter Tryd.func106, Tryd.ntmps106
  go_wp2
  go_loopw [5] (fun i wr => ∃ j : Nat, j ≤ m ∧ i = .int .i64 j ∧ Hid (allIn (xs.take j) 0 (sy - 1) = true) ∧ ∃ q, wr = w.drewN q) (fun i _ => m - (intOf i).toNat)
  case atStart => exact ⟨0, by omega, rfl, rfl, 0, rfl⟩
  case round =>
    obtain ⟨j, hj, rfl, he, q, rfl⟩ := hrel
    by_cases hlt : j < m
    · obtain ⟨b, off, rfl, _, hc⟩ := hx.at_ hlt
      cases hv : inB (xs[j]'(by rw [HL.out]; omega)) 0 (sy - 1)
      · have HV := Lib.hid hv
        go_wp2_with fail
        go_quiet ((go_at_call 55; exact quiet_add_left (l00In_any _ _ _ _)))
        go_wp2_with fail
        go_ret
        exact ⟨ret_bool (side_at hlt HL.out (by rw [HV.out]; rfl)), _, World.drewN_drewN _ _ _⟩
      · have HV := Lib.hid hv
        go_wp2_with fail
        go_quiet ((go_at_call 55; exact quiet_add_left (l00In_any _ _ _ _)))
        go_wp2_with fail
        exact ⟨⟨j + 1, by omega, by go_num, allIn_next hlt HL.out (by rw [HV.out]; rfl) he.out, _, rfl⟩, by simp [intOf]; omega⟩
    · have HA : Hid (true = allIn xs 0 (sy - 1)) := allIn_end (k := j) (by omega) HL.out he.out
      by_cases hm0 : m = 0
      · subst hm0
        have hx0 : xs = [] := List.eq_nil_of_length_eq_zero HL.out
        subst hx0
        go_wp2
        go_ret
        exact ⟨ret_bool (by unfold sideB; simp [allIn]), _, rfl⟩
      · obtain ⟨b, off, rfl, _, hc⟩ := last_at hx (by omega)
        have hne : xs ≠ [] := by rintro rfl; have := HL.out; simp at this; omega
        have HNE := Lib.hid hne
        clear hne
        have g0 : ((m : Int) == 0) = false := by simp; omega
        have i1 : (0 : Int) ≤ (m : Int) - 1 := by omega
        have i2 : ((m : Int) - 1).toNat = m - 1 := by omega
        cases h200 : decide ((m : Int) ≤ 200)
        all_goals
          have H200 := Lib.hid h200
          go_wp2
          all_goals go_ret
          all_goals refine ⟨ret_bool ?_, _, rfl⟩
          all_goals
            have h1 := HL.out
            have h2 := HNE.out
            have h3 := HA.out
            unfold sideB
            rw [h1, ← h3, H200.out]
            simp [h2]
theorem l05Cells_is {sy : Int} {xs : List Int} {v : Bool} (h : sideB xs sy 200 = v) (g : Nat) (st : Int) (A : Option Addr) (n k : Nat) (B : Option Addr) (m c : Nat) (w : World) (hm : MachAt w g sy st A n k) (hx : SI w B m xs) (hl : m ≤ 1048576) (h1 : 2 ≤ sy) (h2 : sy ≤ 6) :
    Calls Tryd.prog 106 #[.pointer (some ⟨g, 0, none⟩), .slice B m c] w fun e w' => e = .returned (.bool v) ∧ ∃ q, w' = w.drewN q := h ▸ l05Cells_any g sy st A n k B m c xs w hm hx hl h1 h2

/-- A configuration behind a pointer. -/
def ConfAt (w : World) (g : Nat) (q : Int) (L : Option Addr) (m c : Nat) (R : Option Addr) (l d : Nat) : Prop :=
  w.cell? ⟨g, 0, none⟩ = some (.int .i64 q) ∧ w.cell? ⟨g, 1, none⟩ = some (.slice L m c) ∧ w.cell? ⟨g, 2, none⟩ = some (.slice R l d)
theorem ConfAt.lt {w : World} {g : Nat} {q : Int} {L : Option Addr} {m c : Nat} {R : Option Addr} {l d : Nat} (h : ConfAt w g q L m c R l d) : g < w.heap.size := World.block_lt_of_cell? w _ h.1
theorem ConfAt.below {w w' : World} {g : Nat} {q : Int} {L : Option Addr} {m c : Nat} {R : Option Addr} {l d : Nat} (h : ConfAt w g q L m c R l d) (hb : Below w.heap.size w w') : ConfAt w' g q L m c R l d :=
  ⟨(hb.cell (p := ⟨g, 0, none⟩) h.lt).trans h.1, (hb.cell (p := ⟨g, 1, none⟩) h.lt).trans h.2.1, (hb.cell (p := ⟨g, 2, none⟩) h.lt).trans h.2.2⟩
theorem ConfAt.drewN {w : World} {g : Nat} {q : Int} {L : Option Addr} {m c : Nat} {R : Option Addr} {l d : Nat} (h : ConfAt w g q L m c R l d) (k : Nat) : ConfAt (w.drewN k) g q L m c R l d := h
theorem Blk.confAt {w : World} {g : Nat} {t : TypeId} {q : Int} {L : Option Addr} {m c : Nat} {R : Option Addr} {l d : Nat} (h : Blk w g t #[.int .i64 q, .slice L m c, .slice R l d]) : ConfAt w g q L m c R l d := ⟨h.cell 0, h.cell 1, h.cell 2⟩

set_option maxHeartbeats 1000000 in
theorem l05Good_any (g : Nat) (sy st : Int) (A : Option Addr) (n k : Nat) (f : Nat) (q : Int) (B : Option Addr) (m c : Nat) (xs : List Int) (C : Option Addr) (l d : Nat) (ys : List Int) (w : World) (hm : MachAt w g sy st A n k) (hc : ConfAt w f q B m c C l d) (hx : SI w B m xs) (hy : SI w C l ys) (hml : m ≤ 1048576) (hll : l ≤ 1048576) (h1 : 2 ≤ sy) (h2 : sy ≤ 6) (h3 : 1 ≤ st) (h4 : st ≤ 1000) :
    Calls Tryd.prog 79 #[.pointer (some ⟨g, 0, none⟩), .pointer (some ⟨f, 0, none⟩)] w fun e w' => e = .returned (.bool (confB sy st q xs ys)) ∧ ∃ q, w' = w.drewN q := by
  have hm' := hm
  obtain ⟨q0, q1, q2⟩ := hm'
  have hc' := hc
  obtain ⟨p0, p1, p2⟩ := hc'
  have hwr : IntKind.i64.wrap (st - 1) = st - 1 := IntWalk.i64_in _ (by omega)
  cases a1 : inB q 0 (st - 1)
  · have A1 := Lib.hid a1
    go_enter Tryd.func79, Tryd.ntmps79
    go_wp2_with fail
    go_quiet ((go_at_call 55; exact quiet_left (l00In_any _ _ _ _)))
    go_wp2_with fail
    go_ret
    exact ⟨ret_bool (by unfold confB; rw [A1.out]; rfl), _, rfl⟩
  cases a2 : sideB xs sy 200
  · have A1 := Lib.hid a1
    have A2 := Lib.hid a2
    go_enter Tryd.func79, Tryd.ntmps79
    go_wp2_with fail
    go_quiet ((first
      | (go_at_call 55; exact quiet_left (l00In_any _ _ _ _))
      | (go_at_call 106; exact quiet_1 (l05Cells_is A2.out _ _ _ _ _ _ _ _ _ (hm.drewN _) (hx.drewN _) hml h1 h2))))
    go_wp2_with fail
    go_ret
    exact ⟨ret_bool (by unfold confB; rw [A1.out, A2.out]; rfl), _, rfl⟩
  have A1 := Lib.hid a1
  have A2 := Lib.hid a2
  go_enter Tryd.func79, Tryd.ntmps79
  go_wp2_with fail
  go_quiet ((first
    | (go_at_call 55; exact quiet_left (l00In_any _ _ _ _))
    | (go_at_call_of 106 (Value.slice B m c); exact quiet_1 (l05Cells_is A2.out _ _ _ _ _ _ _ _ _ (hm.drewN _) (hx.drewN _) hml h1 h2))
    | (go_at_call_of 106 (Value.slice C l d); exact quiet_1 (l05Cells_any _ _ _ _ _ _ _ _ _ ys _ (hm.drewN _) (hy.drewN _) hll h1 h2))))
  go_wp2_with fail
  go_ret
  exact ⟨ret_bool (by unfold confB; rw [A1.out, A2.out]; rfl), _, rfl⟩
end Go.Proofs.YtokglpdlhacnaaaDoor

/-
  Contracts of slices.Reverse and impl.reversed.
-/
namespace Go.Proofs.YtokglpdlhacnaaaDoor
open Go.RowKit

/-- The number at a place, or 0. -/
def nth (xs : List Int) (k : Nat) : Int := xs.getD k 0
theorem nth_eq (xs : List Int) (k : Nat) (h : k < xs.length) : nth xs k = xs[k] := by simp [nth, List.getElem?_eq_getElem h]
/-- After a rounds of the reversal in place. -/
def revTo (xs : List Int) (a : Nat) : List Int := (List.range xs.length).map fun k => if k < a ∨ xs.length ≤ k + a then nth xs (xs.length - 1 - k) else nth xs k
theorem length_revTo (xs : List Int) (a : Nat) : (revTo xs a).length = xs.length := by simp [revTo]
theorem revTo_get (xs : List Int) (a k : Nat) (h : k < (revTo xs a).length) : (revTo xs a)[k] = if k < a ∨ xs.length ≤ k + a then nth xs (xs.length - 1 - k) else nth xs k := by simp [revTo]
theorem revTo_zero (xs : List Int) : revTo xs 0 = xs := by
  apply List.ext_getElem (length_revTo xs 0)
  intro k h1 h2
  rw [revTo_get, if_neg (by omega), nth_eq _ _ h2]
theorem revTo_next (xs : List Int) (a : Nat) (h : a + a + 1 < xs.length) : ((revTo xs a).set a (nth xs (xs.length - 1 - a))).set (xs.length - 1 - a) (nth xs a) = revTo xs (a + 1) := by
  apply List.ext_getElem (by simp [length_revTo])
  intro k h1 h2
  rw [length_revTo] at h2
  rw [List.getElem_set, List.getElem_set, revTo_get, revTo_get]
  by_cases e1 : xs.length - 1 - a = k
  · subst e1
    rw [if_pos rfl, if_pos (by omega)]
    congr 1; omega
  · rw [if_neg e1]
    by_cases e2 : a = k
    · subst e2
      rw [if_pos rfl, if_pos (by omega)]
    · rw [if_neg e2]
      by_cases e3 : k < a ∨ xs.length ≤ k + a
      · rw [if_pos e3, if_pos (by omega)]
      · rw [if_neg e3, if_neg (by omega)]
theorem revTo_end (xs : List Int) (a : Nat) (h : xs.length ≤ a + a + 1) : revTo xs a = xs.reverse := by
  apply List.ext_getElem (by simp [length_revTo])
  intro k h1 h2
  rw [length_revTo] at h1
  rw [revTo_get, List.getElem_reverse]
  by_cases e : k < a ∨ xs.length ≤ k + a
  · rw [if_pos e, nth_eq _ _ (by omega)]
  · rw [if_neg e, nth_eq _ _ (by omega)]
    congr 1; omega
theorem revTo_lo (xs : List Int) (a : Nat) (h : a + a + 1 < xs.length) (h1 : a < (ints (revTo xs a)).length) : (ints (revTo xs a))[a] = .int .i64 (nth xs a) := by
  rw [ints_get, revTo_get, if_neg (by omega)]
theorem revTo_hi (xs : List Int) (a : Nat) (h : a + a + 1 < xs.length) (h1 : xs.length - 1 - a < (ints (revTo xs a)).length) : (ints (revTo xs a))[xs.length - 1 - a] = .int .i64 (nth xs (xs.length - 1 - a)) := by
  rw [ints_get, revTo_get, if_neg (by omega)]

def RevP (w : World) (lo : Nat) (A : Option Addr) (n c : Nat) (xs : List Int) (e : Ending) (w' : World) : Prop :=
  e = .returned (.tuple #[]) ∧ Own w' lo 2 1 A n c (ints xs.reverse) ∧ Below lo w w' ∧ ∀ b, blk A ≠ some b → w'.heap[b]? = w.heap[b]?

end Go.Proofs.YtokglpdlhacnaaaDoor

/-
  Contracts of impl's runner: runnerOf, symbol, at, rule, halts.
-/
namespace Go.Proofs.YtokglpdlhacnaaaDoor
open Go.RowKit

/-- The rule's index. -/
def atI (sy q : Int) (ys : List Int) : Int := q * sy + lastI ys

end Go.Proofs.YtokglpdlhacnaaaDoor

/-
  Contracts of impl's runner: rule, halts, pop, push.
-/
namespace Go.Proofs.YtokglpdlhacnaaaDoor
open Go.RowKit

theorem ret_slice {A : Option Addr} {n m c : Nat} (h : n = m) : Ending.returned (.slice A n c) = .returned (.slice A m c) := by rw [h]
theorem ints_snoc (xs : List Int) (x : Int) : ints xs ++ [.int .i64 x] = ints (xs ++ [x]) := by simp [ints]
theorem grown_alloc {w w2 : World} {o : Obj} {row : Option Nat} (h : (w.alloc o).grownBy w2 row) : w.grownBy w2 row :=
  ⟨h.os, h.tape, h.output, Nat.le_trans (by simp) h.size, fun k hk hne => (h.block k (by simp; omega) hne).trans (Below.heap_alloc w o k hk)⟩
theorem far_set {W : World} {p q : Addr} {u v : Value} (hne : ¬ q.block = p.block) (h : W.cell? q = some v) : (W.setCell p u).cell? q = some v :=
  (World.cell?_setCell_other W p q u (fun e => hne (by rw [e]))).trans h

/-- A symbol put on a side. -/
def pushI (xs : List Int) (x : Int) : List Int := if x = 0 ∧ xs = [] then xs else xs ++ [x]

def PushP (w : World) (lo : Nat) (A : Option Addr) (n c : Nat) (xs : List Int) (x : Int) (e : Ending) (w' : World) : Prop :=
  ∃ A2 c2, e = .returned (.slice A2 (pushI xs x).length c2) ∧ Own w' lo 2 1 A2 (pushI xs x).length c2 (ints (pushI xs x)) ∧ w.grownBy w' (blk A) ∧ (blk A2 = blk A ∨ ∀ b, blk A2 = some b → w.heap.size ≤ b) ∧ Own w' lo 2 1 A n c (ints xs)

end Go.Proofs.YtokglpdlhacnaaaDoor

/-
  Contracts of the reference's functions on configurations: l05Head, l05At, l05Halts, l05Rest, l05Trim, l05Push.
-/
namespace Go.Proofs.YtokglpdlhacnaaaDoor
open Go.RowKit

theorem lastI_reverse (ys : List Int) : ys.headD 0 = lastI ys.reverse := by
  unfold lastI; cases ys <;> simp

set_option maxHeartbeats 400000 in
theorem l05Head_any (f : Nat) (q : Int) (B : Option Addr) (m c : Nat) (C : Option Addr) (l d : Nat) (ys : List Int) (w : World) (hc : ConfAt w f q B m c C l d) (hy : SI w C l ys) (hl : l ≤ 1048576) :
    Calls Tryd.prog 138 #[.pointer (some ⟨f, 0, none⟩)] w fun e w' => e = .returned (.int .i64 (lastI ys.reverse)) ∧ w = w' := by
  obtain ⟨p0, p1, p2⟩ := hc
  have HL := Lib.hid hy.len
  have HR := Lib.hid (lastI_reverse ys)
  by_cases hn0 : l = 0
  · subst hn0
    have hx0 : ys = [] := List.eq_nil_of_length_eq_zero HL.out
    subst hx0
    go_enter Tryd.func138, Tryd.ntmps138
    go_wp2
    go_ret
    exact ⟨rfl, rfl⟩
  · obtain ⟨b, off, rfl, _, hc⟩ := hy.at0 (by omega)
    rw [HR.out] at hc
    have g0 : ((l : Int) == 0) = false := by simp; omega
    have i1 : (0 : Int) < (l : Int) := by omega
    go_enter Tryd.func138, Tryd.ntmps138
    go_wp2
    go_ret
    exact ⟨rfl, rfl⟩

set_option maxHeartbeats 400000 in
theorem l05At_any (g : Nat) (sy st : Int) (A : Option Addr) (n k : Nat) (f : Nat) (q : Int) (B : Option Addr) (m c : Nat) (C : Option Addr) (l d : Nat) (ys : List Int) (w : World) (hm : MachAt w g sy st A n k) (hc : ConfAt w f q B m c C l d) (hy : SI w C l ys) (hl : l ≤ 1048576)
    (h1 : 0 ≤ q * sy) (h2 : q * sy ≤ 1000000) (h3 : 0 ≤ lastI ys.reverse) (h4 : lastI ys.reverse ≤ 1000000) :
    Calls Tryd.prog 130 #[.pointer (some ⟨g, 0, none⟩), .pointer (some ⟨f, 0, none⟩)] w fun e w' => e = .returned (.int .i64 (atI sy q ys.reverse)) ∧ ∃ nq, w' = w.drewN nq := by
  have hc' := hc
  obtain ⟨p0, p1, p2⟩ := hc'
  obtain ⟨q0, q1, q2⟩ := hm
  have w1 : IntKind.i64.wrap (q * sy) = q * sy := IntWalk.i64_in _ (by omega)
  have w2 : IntKind.i64.wrap (q * sy + lastI ys.reverse) = q * sy + lastI ys.reverse := IntWalk.i64_in _ (by omega)
  go_enter Tryd.func130, Tryd.ntmps130
  go_wp2_with fail
  go_quiet ((go_at_call 138; exact quiet_left (l05Head_any _ _ _ _ _ _ _ _ ys _ (hc.drewN _) (hy.drewN _) hl)))
  clear w1 w2
  go_wp2_with fail
  go_ret
  exact ⟨rfl, _, rfl⟩

theorem isRuleB_r (r : R3) : isRuleB r = !((r.a == 0) && (r.b == 0) && (r.c == -1)) := isRuleB_eq r.a r.b r.c

set_option maxHeartbeats 2000000 in
theorem l05Halts_any (g : Nat) (sy st : Int) (A : Option Addr) (n k : Nat) (rs : List R3) (f : Nat) (q : Int) (B : Option Addr) (m c : Nat) (C : Option Addr) (l d : Nat) (ys : List Int) (idx : Nat) (r : R3) (w : World) (hm : MachAt w g sy st A n k) (hrs : S3 w A n rs) (hc : ConfAt w f q B m c C l d) (hy : SI w C l ys) (hl : l ≤ 1048576)
    (h1 : 0 ≤ q * sy) (h2 : q * sy ≤ 1000000) (h3 : 0 ≤ lastI ys.reverse) (h4 : lastI ys.reverse ≤ 1000000) (hidx : Hid (atI sy q ys.reverse = (idx : Int))) (hlt : idx < n) (hri : Hid (rs[idx]? = some r)) (_hn : n ≤ 1048576) :
    Calls Tryd.prog 108 #[.pointer (some ⟨g, 0, none⟩), .pointer (some ⟨f, 0, none⟩)] w fun e w' => e = .returned (.bool (!isRuleB r)) ∧ Below w.heap.size w w' := by
  have hm' := hm
  obtain ⟨q0, q1, q2⟩ := hm'
  obtain ⟨r', b, off, hr', _, rfl, hbl, p0, p1, p2⟩ := hrs.pick hlt
  obtain rfl : r = r' := by have e1 := hri.out; have e2 := hr'.out; rw [e1] at e2; simpa using e2
  have i1 : (0 : Int) ≤ (idx : Int) := by omega
  have i2 : (idx : Int) < (n : Int) := by omega
  have hgw := hm.lt
  cases g0 : (r.a == 0) <;> cases g1 : (r.b == 0) <;> cases g2 : (r.c == -1)
  all_goals
    have HE := Lib.hid (isRuleB_r r)
    have H0 := Lib.hid g0
    have H1 := Lib.hid g1
    have H2 := Lib.hid g2
    go_enter Tryd.func108, Tryd.ntmps108
    go_wp2_with fail
    go_region_held3 (fun w' => w'.cell? ⟨g, 2, none⟩ = some (.slice (some ⟨b, off, none⟩) n k) ∧ w'.cell? ⟨b, off + idx * 3, none⟩ = some (.int .i64 r.a) ∧ w'.cell? ⟨b, off + idx * 3 + 1, none⟩ = some (.int .i64 r.b) ∧ w'.cell? ⟨b, off + idx * 3 + 2, none⟩ = some (.int .i64 r.c))
      (first
        | (go_keep; done)
        | (exact ⟨(z2.cell (p := ⟨g, 2, none⟩) hgw).trans q2, (z2.cell (p := ⟨b, off + idx * 3, none⟩) hbl).trans p0, (z2.cell (p := ⟨b, off + idx * 3 + 1, none⟩) hbl).trans p1, (z2.cell (p := ⟨b, off + idx * 3 + 2, none⟩) hbl).trans p2⟩))
      (first
        | (go_at_call 130; refine (l05At_any _ _ _ _ _ _ _ _ _ _ _ _ _ _ ys _ (hm.drewN 1) (hc.drewN 1) (hy.drewN 1) hl h1 h2 h3 h4).mono ?_; rintro e w' ⟨rfl, nq, rfl⟩; rw [hidx.out])
        | (go_at_call 93; refine (l05None_any _).mono ?_; rintro e w2 ⟨rfl, z2'⟩; have z2 : Below w.heap.size w w2 := below_undrew z2'))
    go_wp2_with fail
    go_ret
    exact ⟨ret_bool (by rw [HE.out, H0.out, H1.out, H2.out]; rfl), z2⟩
end Go.Proofs.YtokglpdlhacnaaaDoor

/-
  Contracts of the reference's functions on sides: l05Rest, l05Trim, l05Push.
-/
namespace Go.Proofs.YtokglpdlhacnaaaDoor
open Go.RowKit

theorem rest_si {w : World} {A A' : Option Addr} {n : Nat} {xs : List Int} (h : SI w A n xs) (hn : 0 < n) (hA : 1 < n → ∀ b off, A = some ⟨b, off, none⟩ → A' = some ⟨b, off + 1, none⟩) : SI w A' (n - 1) xs.tail := by
  have hl := h.len
  have := Rd.cut h (i := 1) (j := n) (by omega) (Nat.le_refl _) (A' := A') hA
  rw [ints_take, ints_drop, List.take_of_length_le (by omega), List.drop_one] at this
  exact this

set_option maxHeartbeats 1000000 in
theorem l05Rest_any (A : Option Addr) (n c : Nat) (xs : List Int) (w : World) (hx : SI w A n xs) (hn : n ≤ 1048576) (hcap : n ≤ c) :
    Calls Tryd.prog 131 #[.slice A n c] w (NewI w xs.tail) := by
  have HL := Lib.hid hx.len
  by_cases hn0 : n = 0
  · subst hn0
    have hx0 : xs = [] := List.eq_nil_of_length_eq_zero HL.out
    subst hx0
    go_enter Tryd.func131, Tryd.ntmps131
    go_wp2
    go_ret
    exact ⟨_, _, rfl, Own.lit0 w _ 1, (Below.refl _ _).alloc (Nat.le_refl _) _⟩
  · have g0 : ((n : Int) == 0) = false := by simp; omega
    have i1 : 1 ≤ n := by omega
    have i2 : 1 ≤ c := by omega
    obtain ⟨b, off, rfl, _, _⟩ := hx.at0 (by omega)
    go_enter Tryd.func131, Tryd.ntmps131
    go_wp2_with fail
    · refine (l00Own_any _ _ _ xs.tail _ (rest_si hx (by omega) (fun h => by omega)) (by omega)).mono ?_
      rintro e w2 ⟨A2, c2, rfl, o2, z2⟩
      go_wp2_with fail
      go_ret
      exact ⟨A2, c2, ret_slice (by simp), o2, z2⟩
    · refine (l00Own_any _ _ _ xs.tail _ (rest_si hx (by omega) (fun _ b off e => by cases e; rfl)) (by omega)).mono ?_
      rintro e w2 ⟨A2, c2, rfl, o2, z2⟩
      go_wp2_with fail
      go_ret
      exact ⟨A2, c2, ret_slice (by simp), o2, z2⟩

/-- A side without the zeros at its end. -/
def trimI (xs : List Int) : List Int := (xs.reverse.dropWhile (· == 0)).reverse
theorem trim_snoc0 (xs : List Int) : trimI (xs ++ [0]) = trimI xs := by simp [trimI]
theorem trim_snoc (xs : List Int) {x : Int} (h : (x == 0) = false) : trimI (xs ++ [x]) = xs ++ [x] := by simp [trimI, h]
theorem take_pred {xs : List Int} {k : Nat} (hk : 0 < k) (hl : k ≤ xs.length) : xs.take k = xs.take (k - 1) ++ [nth xs (k - 1)] := by
  rw [nth_eq xs (k - 1) (by omega), ← List.take_succ_eq_append_getElem (by omega), show k - 1 + 1 = k from by omega]
theorem trim_next {xs : List Int} {k : Nat} (hk : 0 < k) (hl : k ≤ xs.length) (h : (nth xs (k - 1) == 0) = true) (he : trimI (xs.take k) = trimI xs) : trimI (xs.take (k - 1)) = trimI xs := by
  rw [take_pred hk hl] at he
  rw [beq_iff_eq] at h
  rw [h, trim_snoc0] at he
  exact he
theorem trim_stop {xs : List Int} {k : Nat} (hk : 0 < k) (hl : k ≤ xs.length) (h : (nth xs (k - 1) == 0) = false) (he : trimI (xs.take k) = trimI xs) : xs.take k = trimI xs := by
  rw [take_pred hk hl] at he ⊢
  rw [trim_snoc _ h] at he
  exact he

set_option maxHeartbeats 1000000 in
theorem l05Trim_any (A : Option Addr) (n c : Nat) (xs : List Int) (w : World) (hx : SI w A n xs) (hn : n ≤ 1048576) (hcap : n ≤ c) :
    Calls Tryd.prog 78 #[.slice A n c] w (NewI w (trimI xs)) := by
  have HL := Lib.hid hx.len
  have hcut : ∀ k, k ≤ n → SI w A k (xs.take k) := fun k hk => by
    have := Rd.cut hx (i := 0) (j := k) (by omega) hk (A' := A) (fun _ b off e => by rw [e]; rfl)
    rw [ints_take] at this
    exact this
  have HC := Lib.hid hcut
  clear hcut
  go_enter Tryd.func78, Tryd.ntmps78
  go_wp2
  go_loop [3] (fun i => ∃ k : Nat, k ≤ n ∧ i = .int .i64 k ∧ Hid (trimI (xs.take k) = trimI xs)) (fun i => (intOf i).toNat)
  case atStart => exact ⟨n, by omega, rfl, by show _ = _; rw [List.take_of_length_le (by rw [HL.out]; omega)]⟩
  case round =>
    obtain ⟨k, hk, rfl, he⟩ := hrel
    have hkc : k ≤ c := by omega
    by_cases hk0 : k = 0
    · subst hk0
      have HT : Hid (trimI xs = []) := by
        show _ = _
        rw [← he.out]; rfl
      go_wp2_with fail
      refine (l00Own_any _ _ _ [] _ SI.nil (by omega)).mono ?_
      rintro e w2 ⟨A2, c2, rfl, o2, z2⟩
      go_wp2_with fail
      go_ret
      exact ⟨A2, c2, by rw [HT.out]; rfl, by rw [HT.out]; exact o2, z2⟩
    · have i0 : (0 : Int) < (k : Int) := by omega
      have i00 : decide ((k : Int) > 0) = true := by simp; omega
      have i1 : (0 : Int) ≤ (k : Int) - 1 := by omega
      have i2 : ((k : Int) - 1).toNat = k - 1 := by omega
      obtain ⟨b, off, rfl, _, hc⟩ := hx.at_ (k := k - 1) (by omega)
      rw [← nth_eq] at hc
      cases hz : (nth xs (k - 1) == 0)
      · have HZ := Lib.hid hz
        have HT := Lib.hid (trim_stop (by omega) (by rw [HL.out]; exact hk) HZ.out he.out)
        go_wp2_with fail
        · refine (l00Own_any _ _ _ (xs.take k) _ (HC.out k hk) (by omega)).mono ?_
          rintro e w2 ⟨A2, c2, rfl, o2, z2⟩
          go_wp2_with fail
          go_ret
          exact ⟨A2, c2, ret_slice (by rw [← HT.out]; simp), by rw [← HT.out]; exact o2, z2⟩
        · omega
      · have HZ := Lib.hid hz
        go_wp2_with fail
        · exact ⟨⟨k - 1, by omega, by go_num, trim_next (by omega) (by rw [HL.out]; exact hk) HZ.out he.out⟩, by simp [intOf]; omega⟩
        · omega

set_option maxHeartbeats 1000000 in
theorem l05Push_any (x : Int) (A : Option Addr) (n c : Nat) (xs : List Int) (w : World) (hx : SI w A n xs) (hn : n ≤ 1048570) :
    Calls Tryd.prog 132 #[.int .i64 x, .slice A n c] w (NewI w (trimI (x :: xs))) := by
  have HL := Lib.hid hx.len
  go_enter Tryd.func132, Tryd.ntmps132
  go_wp2_with (at_builtin; refine wpList_append_Own rfl (.tmp 6) (.tmp 7) rfl elI (lo := w.heap.size) rfl (Own.lit w #[.int .i64 x] 2 1 1 w.heap.size (by simp) (by simp [maxLen]) (Nat.le_refl _)) rfl (Rd.alloc hx _) (ints_one xs) (by omega) (by simp only [maxLen]; omega) (by simp) ?_; intro A2 c2 w2 ho2 hg2 _)
  have hbb := (Own.lit w #[.int .i64 x] 2 1 1 w.heap.size (by simp) (by simp [maxLen]) (Nat.le_refl _)).below_of ((Below.refl _ _).alloc (Nat.le_refl _) _) hg2 (by simp)
  have ho3 : Own w2 w.heap.size 2 1 A2 (1 + n) c2 (ints (x :: xs)) := ho2
  refine (l05Trim_any _ _ _ (x :: xs) _ ho3.rd (by omega) ho3.le).mono ?_
  rintro e w3 ⟨A3, c3, rfl, o3, z3⟩
  go_wp2_with fail
  go_ret
  exact ⟨A3, c3, rfl, o3.mono hbb.size, hbb.trans (z3.mono hbb.size)⟩
end Go.Proofs.YtokglpdlhacnaaaDoor

/-
  Contract of impl's runner: step.
-/
namespace Go.Proofs.YtokglpdlhacnaaaDoor
open Go.RowKit

/-- What a step makes of the two sides (the nearest symbols last). -/
def stepL (r : R3) (ls : List Int) : List Int := if 0 < r.b then pushI ls r.a else ls.dropLast
def stepR (r : R3) (ls rs : List Int) : List Int := if 0 < r.b then rs.dropLast else pushI (pushI rs.dropLast r.a) (lastI ls)
def roomB (ls rs : List Int) : Bool := decide (ls.length ≤ 200) && decide (rs.length ≤ 200)

theorem Blk.ne_own {w : World} {g : Nat} {cs : Array Value} {lo s n' c' : Nat} {X : Option Addr} {xs : List Value} (h : Blk w g 136 cs) (h' : Own w lo 2 s X n' c' xs) : blk X ≠ some g := by
  intro hb
  rcases h'.2 with ⟨rfl, _⟩ | ⟨b, off, cur, rfl, _, hg, _⟩
  · simp [blk] at hb
  · simp [blk] at hb; subst hb
    unfold Blk at h
    rw [hg] at h
    simp at h
theorem dropLast_ints (xs : List Int) : (ints xs).take ((ints xs).length - 1) = ints xs.dropLast := by rw [length_ints, ints_take, List.dropLast_eq_take]
theorem Own.upto {w : World} {lo n c j : Nat} {e : TypeId} {A : Option Addr} {cs : List Value} (h : Own w lo e 1 A n c cs) (hj : j ≤ n) : Own w lo e 1 A j c (cs.take j) := by
  have := h.cut (i := 0) (j := j) (Nat.zero_le _) hj (A' := A) (fun h => h) (fun b off hA => .inl (by rw [hA]; rfl))
  simpa using this

/-- A frame: the blocks of X lie as they lay. -/
structure Fr (X : Nat → Prop) (w w' : World) : Prop where
  size : w.heap.size ≤ w'.heap.size
  same : ∀ b, X b → b < w.heap.size → w'.heap[b]? = w.heap[b]?
section
variable {X : Nat → Prop} {w w1 w2 : World}
theorem Fr.refl (X : Nat → Prop) (w : World) : Fr X w w := ⟨Nat.le_refl _, fun _ _ _ => rfl⟩
theorem Fr.trans (h : Fr X w w1) (k : Fr X w1 w2) : Fr X w w2 := ⟨Nat.le_trans h.size k.size, fun b hb hlt => (k.same b hb (by have := h.size; omega)).trans (h.same b hb hlt)⟩
theorem Fr.of_below (z : Below w.heap.size w w1) : Fr X w w1 := ⟨z.size, fun b _ hlt => z.block b hlt⟩
theorem Fr.below (h : Fr X w w1) (z : Below w1.heap.size w1 w2) : Fr X w w2 := h.trans (Fr.of_below z)
theorem Fr.drewN (h : Fr X w w1) (q : Nat) : Fr X w (w1.drewN q) := ⟨h.size, h.same⟩
theorem Fr.set_ (h : Fr X w w1) {p : Addr} (hp : ¬ X p.block) (u : Value) : Fr X w (w1.setCell p u) :=
  ⟨by have := h.size; simpa [World.setCell] using this, fun b hb hlt => (Below.heap_setCell w1 p u b (fun e => hp (e ▸ hb))).trans (h.same b hb hlt)⟩
theorem Fr.grown {row : Option Nat} (h : Fr X w w1) (hg : w1.grownBy w2 row) (hr : ∀ b, row = some b → ¬ X b) : Fr X w w2 :=
  ⟨Nat.le_trans h.size hg.size, fun b hb hlt => (hg.block b (by have := h.size; omega) (fun e => hr b e.symm hb)).trans (h.same b hb hlt)⟩
end

end Go.Proofs.YtokglpdlhacnaaaDoor

/-
  Contracts of impl's runner.config and StepMachine.
-/
namespace Go.Proofs.YtokglpdlhacnaaaDoor
open Go.RowKit

def NewConf (w : World) (q : Int) (xs ys : List Int) (e : Ending) (w' : World) : Prop :=
  ∃ L c R d, e = .returned (.agg #[.int .i64 q, .slice L xs.length c, .slice R ys.length d]) ∧ Own w' w.heap.size 2 1 L xs.length c (ints xs) ∧ Own w' w.heap.size 2 1 R ys.length d (ints ys) ∧ (∀ b, blk L = some b → blk R ≠ some b) ∧ Below w.heap.size w w'

/-- The rule that a configuration looks at (the sides as they stand in a configuration, the nearest symbols first). -/
def ruleOf (sy : Int) (rs : List R3) (q : Int) (ys : List Int) : R3 := rs.getD (atI sy q ys.reverse).toNat ⟨0, 0, -1⟩
/-- What a step of a machine comes to: a state, two sides, a code. -/
structure Conf where
  q : Int
  xs : List Int
  ys : List Int
def stepC (r : R3) (xs ys : List Int) : Conf := ⟨r.c, (stepL r xs.reverse).reverse, (stepR r xs.reverse ys.reverse).reverse⟩
def roomC (c : Conf) : Bool := roomB c.xs c.ys
def stepMachF (sy st : Int) (rs : List R3) (q : Int) (xs ys : List Int) : Conf × Int :=
  if validConfB sy st rs q xs ys then
    (if isRuleB (ruleOf sy rs q ys) then (if roomC (stepC (ruleOf sy rs q ys) xs ys) then (stepC (ruleOf sy rs q ys) xs ys, 0) else (⟨0, [], []⟩, 5)) else (⟨0, [], []⟩, 6))
  else (⟨0, [], []⟩, 1)

theorem conf_parts {sy st : Int} {rs : List R3} {q : Int} {xs ys : List Int} (h : validConfB sy st rs q xs ys = true) :
    2 ≤ sy ∧ sy ≤ 6 ∧ 1 ≤ st ∧ st ≤ 1000 ∧ (rs.length : Int) = st * sy ∧ 0 ≤ q ∧ q ≤ st - 1 ∧ xs.length ≤ 200 ∧ ys.length ≤ 200 ∧ (∀ x ∈ xs, 0 ≤ x ∧ x ≤ sy - 1) ∧ (∀ y ∈ ys, 0 ≤ y ∧ y ≤ sy - 1) ∧ ∀ r ∈ rs, validRuleB sy st r = true := by
  unfold validConfB at h
  simp only [Bool.and_eq_true] at h
  obtain ⟨hm, hc⟩ := h
  obtain ⟨p1, p2, p3, p4, p5, p6⟩ := machB_parts hm
  unfold confB sideB allIn at hc
  simp only [Bool.and_eq_true, inB_iff, decide_eq_true_eq, List.all_eq_true] at hc
  exact ⟨p1, p2, p3, p4, p5, hc.1.1.1, hc.1.1.2, by omega, by omega, hc.1.2.1.2, hc.2.1.2, p6⟩
theorem lastI_mem {xs : List Int} : lastI xs = 0 ∨ lastI xs ∈ xs := by
  unfold lastI
  rcases List.eq_nil_or_concat xs with rfl | ⟨l, a, rfl⟩
  · exact .inl rfl
  · right; simp
theorem at_parts {sy st q : Int} {ys : List Int} {n : Nat} (h1 : 2 ≤ sy) (h2 : sy ≤ 6) (_h3 : 1 ≤ st) (h4 : st ≤ 1000) (hn : (n : Int) = st * sy) (h5 : 0 ≤ q) (h6 : q ≤ st - 1) (hy : ∀ y ∈ ys, 0 ≤ y ∧ y ≤ sy - 1) :
    0 ≤ q * sy ∧ q * sy ≤ 6000 ∧ 0 ≤ lastI ys ∧ lastI ys ≤ 5 ∧ ∃ idx : Nat, atI sy q ys = (idx : Int) ∧ idx < n := by
  have a1 : 0 ≤ q * sy := Int.mul_nonneg h5 (by omega)
  have a2 : q * sy ≤ (st - 1) * sy := Int.mul_le_mul_of_nonneg_right h6 (by omega)
  have a3 : (st - 1) * sy = st * sy - sy := by rw [Int.sub_mul]; omega
  have a4 : st * sy ≤ 1000 * sy := Int.mul_le_mul_of_nonneg_right h4 (by omega)
  have a5 : 0 ≤ lastI ys ∧ lastI ys ≤ sy - 1 := by
    rcases lastI_mem (xs := ys) with h | h
    · rw [h]; omega
    · exact hy _ h
  refine ⟨a1, by omega, a5.1, by omega, (atI sy q ys).toNat, ?_, ?_⟩
  · unfold atI; omega
  · unfold atI; omega
theorem ruleOf_get {sy q : Int} {rs : List R3} {ys : List Int} {idx : Nat} (h : atI sy q ys.reverse = (idx : Int)) (hlt : idx < rs.length) : rs[idx]? = some (ruleOf sy rs q ys) := by
  unfold ruleOf
  rw [h, Int.toNat_natCast, List.getElem?_eq_getElem hlt]
  simp [List.getElem?_eq_getElem hlt]

/-- A configuration in new memory and a code. -/
def NewConf2 (w : World) (r : Conf × Int) (e : Ending) (w' : World) : Prop :=
  ∃ L c R d, e = .returned (.tuple #[.agg #[.int .i64 r.1.q, .slice L r.1.xs.length c, .slice R r.1.ys.length d], .int .i64 r.2]) ∧ Own w' w.heap.size 2 1 L r.1.xs.length c (ints r.1.xs) ∧ Own w' w.heap.size 2 1 R r.1.ys.length d (ints r.1.ys) ∧ (∀ b, blk L = some b → blk R ≠ some b) ∧ Below w.heap.size w w'
end Go.Proofs.YtokglpdlhacnaaaDoor

/-
  Contract of impl's StepMachine.
-/
namespace Go.Proofs.YtokglpdlhacnaaaDoor
open Go.RowKit

theorem newConf2_zero {w wf : World} {k : Int} {r : Conf × Int} (hr : r = (⟨0, [], []⟩, k)) (hz : Below w.heap.size w wf) : NewConf2 w r (.returned (.tuple #[.agg #[.int .i64 0, .slice none 0 0, .slice none 0 0], .int .i64 k])) wf := by
  subst hr
  exact ⟨none, 0, none, 0, rfl, Own.nil, Own.nil, fun b h => by simp [blk] at h, hz⟩

theorem conf_set {w : World} {g : Nat} {a b c : Value} {t : TypeId} (h : Blk w g t #[a, b, c]) (x y z : Value) : Blk (((w.setCell ⟨g, 0, none⟩ x).setCell ⟨g, 1, none⟩ y).setCell ⟨g, 2, none⟩ z) g t #[x, y, z] := ((h.set_ 0 x).set_ 1 y).set_ 2 z
theorem conf_below {w w' : World} {g lo : Nat} (h : Below lo w w') (hg : lo ≤ g) (x y z : Value) : Below lo w (((w'.setCell ⟨g, 0, none⟩ x).setCell ⟨g, 1, none⟩ y).setCell ⟨g, 2, none⟩ z) := ((h.setCell hg _).setCell hg _).setCell hg _
theorem conf_far {w : World} {g lo s n c : Nat} {t : TypeId} {A : Option Addr} {cs : List Value} (h : Own w lo t s A n c cs) (hg : g < lo) (x y z : Value) : Own (((w.setCell ⟨g, 0, none⟩ x).setCell ⟨g, 1, none⟩ y).setCell ⟨g, 2, none⟩ z) lo t s A n c cs := by
  have hb : blk A ≠ some g := fun e => by have := h.blk_ge _ e; omega
  exact ((h.far (p := ⟨g, 0, none⟩) hb _).far (p := ⟨g, 1, none⟩) hb _).far (p := ⟨g, 2, none⟩) hb _

end Go.Proofs.YtokglpdlhacnaaaDoor
