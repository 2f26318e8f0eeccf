/-
  Contracts of the reference's functions on machines: l05Is, l05Cells, l05Good.
-/
import Derived.Test.YthipbeggaeogcaaMachQ
namespace Go.Proofs.Ythipbeggaeogcaa
open Go.RowKit

theorem all_not {sy st : Int} {rs : List R3} {r : R3} {k : Nat} (hT : rs[k]? = some r) (h : validRuleB sy st r = false) : rs.all (validRuleB sy st) = false := by
  rw [List.all_eq_false]; exact ⟨r, List.mem_of_getElem? hT, by simp [h]⟩
theorem all_next {sy st : Int} {rs : List R3} {r : R3} {k : Nat} (hT : rs[k]? = some r) (h : validRuleB sy st r = true) (he : (rs.take k).all (validRuleB sy st) = true) : (rs.take (k + 1)).all (validRuleB sy st) = true := by
  obtain ⟨hk, rfl⟩ := List.getElem?_eq_some_iff.1 hT
  rw [List.take_succ_eq_append_getElem hk, List.all_append, he]
  simpa using h
theorem machB_of {sy st : Int} {rs : List R3} {n : Nat} {b : Bool} (hl : rs.length = n) (h1 : inB sy 2 6 = true) (h2 : inB st 1 1000 = true) (h3 : ((n : Int) != sy * st) = false) (h : rs.all (validRuleB sy st) = b) : b = machB sy st rs := by
  unfold machB
  rw [h1, h2, hl, h]
  simp at h3
  have : (n : Int) = st * sy := by rw [h3, Int.mul_comm]
  simp [this]

theorem l05Rule_r (sy st : Int) (r : R3) (w : World) (h1 : 1 ≤ sy) (h2 : sy ≤ 100000) (h3 : 1 ≤ st) (h4 : st ≤ 100000) :
    Calls Try.prog 159 #[.agg #[.int .i64 r.a, .int .i64 r.b, .int .i64 r.c], .int .i64 sy, .int .i64 st] w fun e w' => e = .returned (.bool (validRuleB sy st r)) ∧ Below w.heap.size w w' := l05Rule_any sy st r.a r.b r.c w h1 h2 h3 h4

set_option maxHeartbeats 2000000 in
theorem l05Is_any (g : Nat) (sy st : Int) (A : Option Addr) (n k : Nat) (rs : List R3) (w : World) (hm : MachAt w g sy st A n k) (hx : S3 w A n rs) (hn : n ≤ 1048576) :
    Calls Try.prog 117 #[.pointer (some ⟨g, 0, none⟩)] w fun e w' => e = .returned (.bool (machB sy st rs)) ∧ Below w.heap.size w w' := by
  have HL := Lib.hid hx.len
  have hm' := hm
  obtain ⟨q0, q1, q2⟩ := hm'
  cases hs : inB sy 2 6
  · have HS := Lib.hid hs
    go_enter Try.func117, Try.ntmps117
    go_wp2_with fail
    go_quiet ((go_at_call 82; exact quiet_left (l00In_any _ _ _ _)))
    go_wp2_with fail
    go_ret
    exact ⟨ret_bool (by unfold machB; rw [HS.out]; rfl), below_drewN (Below.refl _ _) _⟩
  cases ht : inB st 1 1000
  · have HS := Lib.hid hs
    have HT := Lib.hid ht
    go_enter Try.func117, Try.ntmps117
    go_wp2_with fail
    go_quiet ((go_at_call 82; exact quiet_left (l00In_any _ _ _ _)))
    go_wp2_with fail
    go_ret
    exact ⟨ret_bool (by unfold machB; rw [HS.out, HT.out]; rfl), below_drewN (Below.refl _ _) _⟩
  have hs' := (inB_iff _ _ _).1 hs
  have ht' := (inB_iff _ _ _).1 ht
  have HS := Lib.hid hs
  have HT := Lib.hid ht
  obtain ⟨s1, s2⟩ := hs'
  obtain ⟨t1, t2⟩ := ht'
  have hmul : 0 ≤ sy * st ∧ sy * st ≤ 6000 := by
    rw [Int.mul_comm]
    constructor
    · exact Int.mul_nonneg (by omega) (by omega)
    · have h1 : st * sy ≤ 1000 * sy := Int.mul_le_mul_of_nonneg_right t2 (by omega)
      have h2 : (1000 : Int) * sy ≤ 1000 * 6 := Int.mul_le_mul_of_nonneg_left s2 (by omega)
      omega
  obtain ⟨m1, m2⟩ := hmul
  have hwr : IntKind.i64.wrap (sy * st) = sy * st := IntWalk.i64_in _ (by omega)
  cases hne : ((n : Int) != sy * st)
  · have HNE := Lib.hid hne
    go_enter Try.func117, Try.ntmps117
    go_wp2_with fail
    go_quiet ((go_at_call 82; exact quiet_left (l00In_any _ _ _ _)))
    clear hwr hne hs ht
    go_wp2_with fail
    have yq : Below w.heap.size w (w.drewN nq) := below_drewN (Below.refl _ _) nq
    go_loopw [3] (fun i wr => ∃ j : Nat, j ≤ n ∧ i = .int .i64 j ∧ Hid ((rs.take j).all (validRuleB sy st) = true) ∧ Below w.heap.size w wr) (fun i _ => n - (intOf i).toNat)
    case atStart => exact ⟨0, by omega, rfl, rfl, yq⟩
    case round =>
      clear q0 q1 q2
      obtain ⟨j, hj, rfl, he, hb⟩ := hrel
      obtain ⟨q0, q1, q2⟩ := hm.below hb
      by_cases hlt : j < n
      · obtain ⟨r, b, off, hR, hrm, rfl, hbl, r0, r1, r2⟩ := (hx.below hb).pick hlt
        have hM := hm.below hb
        have hxb := hx.below hb
        go_wp2_with fail
        go_region_held3 (fun w' => w'.cell? ⟨g, 0, none⟩ = some (.int .i64 sy) ∧ w'.cell? ⟨g, 1, none⟩ = some (.int .i64 st) ∧ w'.cell? ⟨g, 2, none⟩ = some (.slice (some ⟨b, off, none⟩) n k) ∧ w'.cell? ⟨b, off + j * 3, none⟩ = some (.int .i64 r.a) ∧ w'.cell? ⟨b, off + j * 3 + 1, none⟩ = some (.int .i64 r.b) ∧ w'.cell? ⟨b, off + j * 3 + 2, none⟩ = some (.int .i64 r.c))
          (first
            | (go_keep; done)
            | (exact ⟨(hM.below z2).1, (hM.below z2).2.1, (hM.below z2).2.2, (z2.cell (p := ⟨b, off + j * 3, none⟩) hbl).trans r0, (z2.cell (p := ⟨b, off + j * 3 + 1, none⟩) hbl).trans r1, (z2.cell (p := ⟨b, off + j * 3 + 2, none⟩) hbl).trans r2⟩))
          (first
            | (go_at_call 159; refine (l05Rule_r _ _ r _ (by omega) (by omega) (by omega) (by omega)).mono ?_; rintro e w2 ⟨rfl, z2'⟩; have z2 : Below wr.heap.size wr w2 := below_undrew z2'))
        have y2 : Below w.heap.size w w2 := hb.trans (z2.mono hb.size)
        cases hv : validRuleB sy st r
        · have HV := Lib.hid hv
          clear hv
          go_wp2_with fail
          go_ret
          exact ⟨ret_bool (machB_of HL.out HS.out HT.out HNE.out (all_not hR.out HV.out)), y2⟩
        · have HV := Lib.hid hv
          clear hv
          go_wp2_with fail
          exact ⟨⟨j + 1, by omega, by go_num, all_next hR.out HV.out he.out, y2⟩, by simp [intOf]; omega⟩
      · go_wp2
        go_ret
        refine ⟨ret_bool (machB_of HL.out HS.out HT.out HNE.out ?_), hb⟩
        have := he.out
        rw [List.take_of_length_le (by rw [HL.out]; omega)] at this
        exact this
  · have HNE := Lib.hid hne
    go_enter Try.func117, Try.ntmps117
    go_wp2_with fail
    go_quiet ((go_at_call 82; exact quiet_left (l00In_any _ _ _ _)))
    clear hwr
    go_wp2_with fail
    go_ret
    exact ⟨ret_bool (by have h := HNE.out; unfold machB; rw [HS.out, HT.out, HL.out]; simp at h; rw [Int.mul_comm] at h; simp [h]), below_drewN (Below.refl _ _) _⟩

theorem side_at {xs : List Int} {sy : Int} {k n : Nat} (hk : k < n) (hl : xs.length = n) (h : (!inB (xs[k]'(by omega)) 0 (sy - 1)) = true) : false = sideB xs sy 200 := by
  have := allIn_at hk hl h
  unfold sideB; rw [← this]; simp

set_option maxHeartbeats 1000000 in
theorem l05Cells_any (g : Nat) (sy st : Int) (A : Option Addr) (n k : Nat) (B : Option Addr) (m c : Nat) (xs : List Int) (w : World) (hm : MachAt w g sy st A n k) (hx : SI w B m xs) (hl : m ≤ 1048576) (h1 : 2 ≤ sy) (h2 : sy ≤ 6) :
    Calls Try.prog 218 #[.pointer (some ⟨g, 0, none⟩), .slice B m c] w fun e w' => e = .returned (.bool (sideB xs sy 200)) ∧ ∃ q, w' = w.drewN q := by
  obtain ⟨q0, q1, q2⟩ := hm
  have HL := Lib.hid hx.len
  have hwr : IntKind.i64.wrap (sy - 1) = sy - 1 := IntWalk.i64_in _ (by omega)
  go_enter Try.func218, Try.ntmps218
  go_wp2
  go_loopw [5] (fun i wr => ∃ j : Nat, j ≤ m ∧ i = .int .i64 j ∧ Hid (allIn (xs.take j) 0 (sy - 1) = true) ∧ ∃ q, wr = w.drewN q) (fun i _ => m - (intOf i).toNat)
  case atStart => exact ⟨0, by omega, rfl, rfl, 0, rfl⟩
  case round =>
    obtain ⟨j, hj, rfl, he, q, rfl⟩ := hrel
    by_cases hlt : j < m
    · obtain ⟨b, off, rfl, _, hc⟩ := hx.at_ hlt
      cases hv : inB (xs[j]'(by rw [HL.out]; omega)) 0 (sy - 1)
      · have HV := Lib.hid hv
        go_wp2_with fail
        go_quiet ((go_at_call 82; exact quiet_add_left (l00In_any _ _ _ _)))
        go_wp2_with fail
        go_ret
        exact ⟨ret_bool (side_at hlt HL.out (by rw [HV.out]; rfl)), _, World.drewN_drewN _ _ _⟩
      · have HV := Lib.hid hv
        go_wp2_with fail
        go_quiet ((go_at_call 82; exact quiet_add_left (l00In_any _ _ _ _)))
        go_wp2_with fail
        exact ⟨⟨j + 1, by omega, by go_num, allIn_next hlt HL.out (by rw [HV.out]; rfl) he.out, _, rfl⟩, by simp [intOf]; omega⟩
    · have HA : Hid (true = allIn xs 0 (sy - 1)) := allIn_end (k := j) (by omega) HL.out he.out
      by_cases hm0 : m = 0
      · subst hm0
        have hx0 : xs = [] := List.eq_nil_of_length_eq_zero HL.out
        subst hx0
        go_wp2
        go_ret
        exact ⟨ret_bool (by unfold sideB; simp [allIn]), _, rfl⟩
      · obtain ⟨b, off, rfl, _, hc⟩ := last_at hx (by omega)
        have hne : xs ≠ [] := by rintro rfl; have := HL.out; simp at this; omega
        have HNE := Lib.hid hne
        clear hne
        have g0 : ((m : Int) == 0) = false := by simp; omega
        have i1 : (0 : Int) ≤ (m : Int) - 1 := by omega
        have i2 : ((m : Int) - 1).toNat = m - 1 := by omega
        cases h200 : decide ((m : Int) ≤ 200)
        all_goals
          have H200 := Lib.hid h200
          go_wp2
          all_goals go_ret
          all_goals refine ⟨ret_bool ?_, _, rfl⟩
          all_goals
            have h1 := HL.out
            have h2 := HNE.out
            have h3 := HA.out
            unfold sideB
            rw [h1, ← h3, H200.out]
            simp [h2]
theorem l05Cells_is {sy : Int} {xs : List Int} {v : Bool} (h : sideB xs sy 200 = v) (g : Nat) (st : Int) (A : Option Addr) (n k : Nat) (B : Option Addr) (m c : Nat) (w : World) (hm : MachAt w g sy st A n k) (hx : SI w B m xs) (hl : m ≤ 1048576) (h1 : 2 ≤ sy) (h2 : sy ≤ 6) :
    Calls Try.prog 218 #[.pointer (some ⟨g, 0, none⟩), .slice B m c] w fun e w' => e = .returned (.bool v) ∧ ∃ q, w' = w.drewN q := h ▸ l05Cells_any g sy st A n k B m c xs w hm hx hl h1 h2

/-- A configuration behind a pointer. -/
def ConfAt (w : World) (g : Nat) (q : Int) (L : Option Addr) (m c : Nat) (R : Option Addr) (l d : Nat) : Prop :=
  w.cell? ⟨g, 0, none⟩ = some (.int .i64 q) ∧ w.cell? ⟨g, 1, none⟩ = some (.slice L m c) ∧ w.cell? ⟨g, 2, none⟩ = some (.slice R l d)
theorem ConfAt.lt {w : World} {g : Nat} {q : Int} {L : Option Addr} {m c : Nat} {R : Option Addr} {l d : Nat} (h : ConfAt w g q L m c R l d) : g < w.heap.size := World.block_lt_of_cell? w _ h.1
theorem ConfAt.below {w w' : World} {g : Nat} {q : Int} {L : Option Addr} {m c : Nat} {R : Option Addr} {l d : Nat} (h : ConfAt w g q L m c R l d) (hb : Below w.heap.size w w') : ConfAt w' g q L m c R l d :=
  ⟨(hb.cell (p := ⟨g, 0, none⟩) h.lt).trans h.1, (hb.cell (p := ⟨g, 1, none⟩) h.lt).trans h.2.1, (hb.cell (p := ⟨g, 2, none⟩) h.lt).trans h.2.2⟩
theorem ConfAt.drewN {w : World} {g : Nat} {q : Int} {L : Option Addr} {m c : Nat} {R : Option Addr} {l d : Nat} (h : ConfAt w g q L m c R l d) (k : Nat) : ConfAt (w.drewN k) g q L m c R l d := h
theorem Blk.confAt {w : World} {g : Nat} {t : TypeId} {q : Int} {L : Option Addr} {m c : Nat} {R : Option Addr} {l d : Nat} (h : Blk w g t #[.int .i64 q, .slice L m c, .slice R l d]) : ConfAt w g q L m c R l d := ⟨h.cell 0, h.cell 1, h.cell 2⟩

set_option maxHeartbeats 1000000 in
theorem l05Good_any (g : Nat) (sy st : Int) (A : Option Addr) (n k : Nat) (f : Nat) (q : Int) (B : Option Addr) (m c : Nat) (xs : List Int) (C : Option Addr) (l d : Nat) (ys : List Int) (w : World) (hm : MachAt w g sy st A n k) (hc : ConfAt w f q B m c C l d) (hx : SI w B m xs) (hy : SI w C l ys) (hml : m ≤ 1048576) (hll : l ≤ 1048576) (h1 : 2 ≤ sy) (h2 : sy ≤ 6) (h3 : 1 ≤ st) (h4 : st ≤ 1000) :
    Calls Try.prog 199 #[.pointer (some ⟨g, 0, none⟩), .pointer (some ⟨f, 0, none⟩)] w fun e w' => e = .returned (.bool (confB sy st q xs ys)) ∧ ∃ q, w' = w.drewN q := by
  have hm' := hm
  obtain ⟨q0, q1, q2⟩ := hm'
  have hc' := hc
  obtain ⟨p0, p1, p2⟩ := hc'
  have hwr : IntKind.i64.wrap (st - 1) = st - 1 := IntWalk.i64_in _ (by omega)
  cases a1 : inB q 0 (st - 1)
  · have A1 := Lib.hid a1
    go_enter Try.func199, Try.ntmps199
    go_wp2_with fail
    go_quiet ((go_at_call 82; exact quiet_left (l00In_any _ _ _ _)))
    go_wp2_with fail
    go_ret
    exact ⟨ret_bool (by unfold confB; rw [A1.out]; rfl), _, rfl⟩
  cases a2 : sideB xs sy 200
  · have A1 := Lib.hid a1
    have A2 := Lib.hid a2
    go_enter Try.func199, Try.ntmps199
    go_wp2_with fail
    go_quiet ((first
      | (go_at_call 82; exact quiet_left (l00In_any _ _ _ _))
      | (go_at_call 218; exact quiet_1 (l05Cells_is A2.out _ _ _ _ _ _ _ _ _ (hm.drewN _) (hx.drewN _) hml h1 h2))))
    go_wp2_with fail
    go_ret
    exact ⟨ret_bool (by unfold confB; rw [A1.out, A2.out]; rfl), _, rfl⟩
  have A1 := Lib.hid a1
  have A2 := Lib.hid a2
  go_enter Try.func199, Try.ntmps199
  go_wp2_with fail
  go_quiet ((first
    | (go_at_call 82; exact quiet_left (l00In_any _ _ _ _))
    | (go_at_call_of 218 (Value.slice B m c); exact quiet_1 (l05Cells_is A2.out _ _ _ _ _ _ _ _ _ (hm.drewN _) (hx.drewN _) hml h1 h2))
    | (go_at_call_of 218 (Value.slice C l d); exact quiet_1 (l05Cells_any _ _ _ _ _ _ _ _ _ ys _ (hm.drewN _) (hy.drewN _) hll h1 h2))))
  go_wp2_with fail
  go_ret
  exact ⟨ret_bool (by unfold confB; rw [A1.out, A2.out]; rfl), _, rfl⟩
end Go.Proofs.Ythipbeggaeogcaa
