/-
  Contracts of the reference's functions on machines: l05None, l05Rule, l05Is.
-/
import Derived.Test.YtbpofkggoolmpaaPbFmAll1
import Derived.Deep.RegionHeld3
import Derived.RegionTactic
import Derived.Deep.RegionLaw
import Derived.Deep.DeepCutAuto
namespace Go.Proofs.Ytbpofkggoolmpaa
open Go.RowKit

theorem l05None_any (w : World) : Calls Try.prog 193 #[] w fun e w' => e = .returned (.agg #[.int .i64 0, .int .i64 0, .int .i64 (-1)]) ∧ Below w.heap.size w w' := by
  go_enter Try.func193, Try.ntmps193
  go_wp2
  exact bodyPost_ret (v := .agg #[.int .i64 0, .int .i64 0, .int .i64 (-1)]) (by simp [results, Try.results193, go_sem]) rfl ⟨rfl, (Below.refl _ _).alloc (Nat.le_refl _) _⟩

theorem validRuleB_no {sy st : Int} {r : R3} (h : isRuleB r = false) : true = validRuleB sy st r := by unfold validRuleB; rw [h]; rfl
theorem validRuleB_eq {sy st a b c : Int} (h : isRuleB ⟨a, b, c⟩ = true) : validRuleB sy st ⟨a, b, c⟩ = (inB a 0 (sy - 1) && ((b == -1) || (b == 1)) && inB c 0 (st - 1)) := by unfold validRuleB; rw [h]; rfl

set_option maxHeartbeats 2000000 in
theorem l05Rule_any (sy st : Int) (a b c : Int) (w : World) (h1 : 1 ≤ sy) (h2 : sy ≤ 100000) (h3 : 1 ≤ st) (h4 : st ≤ 100000) :
    Calls Try.prog 179 #[.agg #[.int .i64 a, .int .i64 b, .int .i64 c], .int .i64 sy, .int .i64 st] w fun e w' => e = .returned (.bool (validRuleB sy st ⟨a, b, c⟩)) ∧ Below w.heap.size w w' := by
  obtain ⟨W, hW⟩ : ∃ W, W = w.alloc (.cells #[.int .i64 a, .int .i64 b, .int .i64 c] 229) := ⟨_, rfl⟩
  have b0 : Blk W w.heap.size 229 #[.int .i64 a, .int .i64 b, .int .i64 c] := by rw [hW]; exact Blk.new w _ _
  have y0 : Below w.heap.size w W := by rw [hW]; exact (Below.refl _ _).alloc (Nat.le_refl _) _
  have HW := Lib.hid hW
  clear hW
  have q0 : W.cell? ⟨w.heap.size, 0, none⟩ = some (.int .i64 a) := b0.cell 0
  have q1 : W.cell? ⟨w.heap.size, 1, none⟩ = some (.int .i64 b) := b0.cell 1
  have q2 : W.cell? ⟨w.heap.size, 2, none⟩ = some (.int .i64 c) := b0.cell 2
  cases g0 : (a == 0) <;> cases g1 : (b == 0) <;> cases g2 : (c == -1)
  all_goals
    have HE := Lib.hid (isRuleB_eq a b c)
    have H0 := Lib.hid g0
    have H1 := Lib.hid g1
    have H2 := Lib.hid g2
    go_enter Try.func179, Try.ntmps179
    go_wp2_with fail
    rw [← HW.out]
    go_region_held3 (fun w' => w'.cell? ⟨w.heap.size, 0, none⟩ = some (.int .i64 a) ∧ w'.cell? ⟨w.heap.size, 1, none⟩ = some (.int .i64 b) ∧ w'.cell? ⟨w.heap.size, 2, none⟩ = some (.int .i64 c))
      (first
        | (go_keep; done)
        | (exact ⟨(b0.below' hb2).cell 0, (b0.below' hb2).cell 1, (b0.below' hb2).cell 2⟩))
      (first
        | (go_at_call 193; refine (l05None_any _).mono ?_; rintro e w2 ⟨rfl, hb2'⟩; have hb2 : Below W.heap.size W w2 := below_undrew hb2'))
    clear g0 g1 g2
  rotate_right
  · go_wp2_with fail
    go_ret
    exact ⟨ret_bool (validRuleB_no (by rw [HE.out, H0.out, H1.out, H2.out]; rfl)), y0.trans (hb2.mono y0.size)⟩
  all_goals
    have HV := Lib.hid (validRuleB_eq (sy := sy) (st := st) (by rw [HE.out, H0.out, H1.out, H2.out]; rfl : isRuleB ⟨a, b, c⟩ = true))
    have c0 := b0.below' hb2
    have q0 : w2.cell? ⟨w.heap.size, 0, none⟩ = some (.int .i64 a) := c0.cell 0
    have q1 : w2.cell? ⟨w.heap.size, 1, none⟩ = some (.int .i64 b) := c0.cell 1
    have q2 : w2.cell? ⟨w.heap.size, 2, none⟩ = some (.int .i64 c) := c0.cell 2
    go_wp2_with (go_at_call 102; refine (l00In_any _ _ _ _).mono ?_; rintro e w' ⟨rfl, rfl⟩)
    all_goals go_ret
    all_goals exact ⟨ret_bool (by rw [HV.out]; simp [*]), y0.trans (hb2.mono y0.size)⟩
end Go.Proofs.Ytbpofkggoolmpaa

/-
  Contracts of the reference's functions on machines: l05Is, l05Cells, l05Good.
-/
namespace Go.Proofs.Ytbpofkggoolmpaa
open Go.RowKit

theorem all_not {sy st : Int} {rs : List R3} {r : R3} {k : Nat} (hT : rs[k]? = some r) (h : validRuleB sy st r = false) : rs.all (validRuleB sy st) = false := by
  rw [List.all_eq_false]; exact ⟨r, List.mem_of_getElem? hT, by simp [h]⟩
theorem all_next {sy st : Int} {rs : List R3} {r : R3} {k : Nat} (hT : rs[k]? = some r) (h : validRuleB sy st r = true) (he : (rs.take k).all (validRuleB sy st) = true) : (rs.take (k + 1)).all (validRuleB sy st) = true := by
  obtain ⟨hk, rfl⟩ := List.getElem?_eq_some_iff.1 hT
  rw [List.take_succ_eq_append_getElem hk, List.all_append, he]
  simpa using h
theorem machB_of {sy st : Int} {rs : List R3} {n : Nat} {b : Bool} (hl : rs.length = n) (h1 : inB sy 2 6 = true) (h2 : inB st 1 1000 = true) (h3 : ((n : Int) != sy * st) = false) (h : rs.all (validRuleB sy st) = b) : b = machB sy st rs := by
  unfold machB
  rw [h1, h2, hl, h]
  simp at h3
  have : (n : Int) = st * sy := by rw [h3, Int.mul_comm]
  simp [this]

theorem l05Rule_r (sy st : Int) (r : R3) (w : World) (h1 : 1 ≤ sy) (h2 : sy ≤ 100000) (h3 : 1 ≤ st) (h4 : st ≤ 100000) :
    Calls Try.prog 179 #[.agg #[.int .i64 r.a, .int .i64 r.b, .int .i64 r.c], .int .i64 sy, .int .i64 st] w fun e w' => e = .returned (.bool (validRuleB sy st r)) ∧ Below w.heap.size w w' := l05Rule_any sy st r.a r.b r.c w h1 h2 h3 h4

set_option maxHeartbeats 2000000 in
theorem l05Is_any (g : Nat) (sy st : Int) (A : Option Addr) (n k : Nat) (rs : List R3) (w : World) (hm : MachAt w g sy st A n k) (hx : S3 w A n rs) (hn : n ≤ 1048576) :
    Calls Try.prog 85 #[.pointer (some ⟨g, 0, none⟩)] w fun e w' => e = .returned (.bool (machB sy st rs)) ∧ Below w.heap.size w w' := by
  have HL := Lib.hid hx.len
  have hm' := hm
  obtain ⟨q0, q1, q2⟩ := hm'
  cases hs : inB sy 2 6
  · have HS := Lib.hid hs
    go_enter Try.func85, Try.ntmps85
    go_wp2_with fail
    go_quiet ((go_at_call 102; exact quiet_left (l00In_any _ _ _ _)))
    go_wp2_with fail
    go_ret
    exact ⟨ret_bool (by unfold machB; rw [HS.out]; rfl), below_drewN (Below.refl _ _) _⟩
  cases ht : inB st 1 1000
  · have HS := Lib.hid hs
    have HT := Lib.hid ht
    go_enter Try.func85, Try.ntmps85
    go_wp2_with fail
    go_quiet ((go_at_call 102; exact quiet_left (l00In_any _ _ _ _)))
    go_wp2_with fail
    go_ret
    exact ⟨ret_bool (by unfold machB; rw [HS.out, HT.out]; rfl), below_drewN (Below.refl _ _) _⟩
  have hs' := (inB_iff _ _ _).1 hs
  have ht' := (inB_iff _ _ _).1 ht
  have HS := Lib.hid hs
  have HT := Lib.hid ht
  obtain ⟨s1, s2⟩ := hs'
  obtain ⟨t1, t2⟩ := ht'
  have hmul : 0 ≤ sy * st ∧ sy * st ≤ 6000 := by
    rw [Int.mul_comm]
    constructor
    · exact Int.mul_nonneg (by omega) (by omega)
    · have h1 : st * sy ≤ 1000 * sy := Int.mul_le_mul_of_nonneg_right t2 (by omega)
      have h2 : (1000 : Int) * sy ≤ 1000 * 6 := Int.mul_le_mul_of_nonneg_left s2 (by omega)
      omega
  obtain ⟨m1, m2⟩ := hmul
  have hwr : IntKind.i64.wrap (sy * st) = sy * st := IntWalk.i64_in _ (by omega)
  cases hne : ((n : Int) != sy * st)
  · have HNE := Lib.hid hne
    go_enter Try.func85, Try.ntmps85
    go_wp2_with fail
    go_quiet ((go_at_call 102; exact quiet_left (l00In_any _ _ _ _)))
    clear hwr hne hs ht
    go_wp2_with fail
    have yq : Below w.heap.size w (w.drewN nq) := below_drewN (Below.refl _ _) nq
    go_loopw [3] (fun i wr => ∃ j : Nat, j ≤ n ∧ i = .int .i64 j ∧ Hid ((rs.take j).all (validRuleB sy st) = true) ∧ Below w.heap.size w wr) (fun i _ => n - (intOf i).toNat)
    case atStart => exact ⟨0, by omega, rfl, rfl, yq⟩
    case round =>
      clear q0 q1 q2
      obtain ⟨j, hj, rfl, he, hb⟩ := hrel
      obtain ⟨q0, q1, q2⟩ := hm.below hb
      by_cases hlt : j < n
      · obtain ⟨r, b, off, hR, hrm, rfl, hbl, r0, r1, r2⟩ := (hx.below hb).pick hlt
        have hM := hm.below hb
        have hxb := hx.below hb
        go_wp2_with fail
        go_region_held3 (fun w' => w'.cell? ⟨g, 0, none⟩ = some (.int .i64 sy) ∧ w'.cell? ⟨g, 1, none⟩ = some (.int .i64 st) ∧ w'.cell? ⟨g, 2, none⟩ = some (.slice (some ⟨b, off, none⟩) n k) ∧ w'.cell? ⟨b, off + j * 3, none⟩ = some (.int .i64 r.a) ∧ w'.cell? ⟨b, off + j * 3 + 1, none⟩ = some (.int .i64 r.b) ∧ w'.cell? ⟨b, off + j * 3 + 2, none⟩ = some (.int .i64 r.c))
          (first
            | (go_keep; done)
            | (exact ⟨(hM.below z2).1, (hM.below z2).2.1, (hM.below z2).2.2, (z2.cell (p := ⟨b, off + j * 3, none⟩) hbl).trans r0, (z2.cell (p := ⟨b, off + j * 3 + 1, none⟩) hbl).trans r1, (z2.cell (p := ⟨b, off + j * 3 + 2, none⟩) hbl).trans r2⟩))
          (first
            | (go_at_call 179; refine (l05Rule_r _ _ r _ (by omega) (by omega) (by omega) (by omega)).mono ?_; rintro e w2 ⟨rfl, z2'⟩; have z2 : Below wr.heap.size wr w2 := below_undrew z2'))
        have y2 : Below w.heap.size w w2 := hb.trans (z2.mono hb.size)
        cases hv : validRuleB sy st r
        · have HV := Lib.hid hv
          clear hv
          go_wp2_with fail
          go_ret
          exact ⟨ret_bool (machB_of HL.out HS.out HT.out HNE.out (all_not hR.out HV.out)), y2⟩
        · have HV := Lib.hid hv
          clear hv
          go_wp2_with fail
          exact ⟨⟨j + 1, by omega, by go_num, all_next hR.out HV.out he.out, y2⟩, by simp [intOf]; omega⟩
      · go_wp2
        go_ret
        refine ⟨ret_bool (machB_of HL.out HS.out HT.out HNE.out ?_), hb⟩
        have := he.out
        rw [List.take_of_length_le (by rw [HL.out]; omega)] at this
        exact this
  · have HNE := Lib.hid hne
    go_enter Try.func85, Try.ntmps85
    go_wp2_with fail
    go_quiet ((go_at_call 102; exact quiet_left (l00In_any _ _ _ _)))
    clear hwr
    go_wp2_with fail
    go_ret
    exact ⟨ret_bool (by have h := HNE.out; unfold machB; rw [HS.out, HT.out, HL.out]; simp at h; rw [Int.mul_comm] at h; simp [h]), below_drewN (Below.refl _ _) _⟩

theorem side_at {xs : List Int} {sy : Int} {k n : Nat} (hk : k < n) (hl : xs.length = n) (h : (!inB (xs[k]'(by omega)) 0 (sy - 1)) = true) : false = sideB xs sy 200 := by
  have := allIn_at hk hl h
  unfold sideB; rw [← this]; simp

/-- A configuration behind a pointer. -/
def ConfAt (w : World) (g : Nat) (q : Int) (L : Option Addr) (m c : Nat) (R : Option Addr) (l d : Nat) : Prop :=
  w.cell? ⟨g, 0, none⟩ = some (.int .i64 q) ∧ w.cell? ⟨g, 1, none⟩ = some (.slice L m c) ∧ w.cell? ⟨g, 2, none⟩ = some (.slice R l d)
theorem ConfAt.lt {w : World} {g : Nat} {q : Int} {L : Option Addr} {m c : Nat} {R : Option Addr} {l d : Nat} (h : ConfAt w g q L m c R l d) : g < w.heap.size := World.block_lt_of_cell? w _ h.1
theorem ConfAt.below {w w' : World} {g : Nat} {q : Int} {L : Option Addr} {m c : Nat} {R : Option Addr} {l d : Nat} (h : ConfAt w g q L m c R l d) (hb : Below w.heap.size w w') : ConfAt w' g q L m c R l d :=
  ⟨(hb.cell (p := ⟨g, 0, none⟩) h.lt).trans h.1, (hb.cell (p := ⟨g, 1, none⟩) h.lt).trans h.2.1, (hb.cell (p := ⟨g, 2, none⟩) h.lt).trans h.2.2⟩
theorem ConfAt.drewN {w : World} {g : Nat} {q : Int} {L : Option Addr} {m c : Nat} {R : Option Addr} {l d : Nat} (h : ConfAt w g q L m c R l d) (k : Nat) : ConfAt (w.drewN k) g q L m c R l d := h
theorem Blk.confAt {w : World} {g : Nat} {t : TypeId} {q : Int} {L : Option Addr} {m c : Nat} {R : Option Addr} {l d : Nat} (h : Blk w g t #[.int .i64 q, .slice L m c, .slice R l d]) : ConfAt w g q L m c R l d := ⟨h.cell 0, h.cell 1, h.cell 2⟩

end Go.Proofs.Ytbpofkggoolmpaa

/-
  Contracts of slices.Reverse and impl.reversed.
-/
namespace Go.Proofs.Ytbpofkggoolmpaa
open Go.RowKit

/-- The number at a place, or 0. -/
def nth (xs : List Int) (k : Nat) : Int := xs.getD k 0
theorem nth_eq (xs : List Int) (k : Nat) (h : k < xs.length) : nth xs k = xs[k] := by simp [nth, List.getElem?_eq_getElem h]
/-- After a rounds of the reversal in place. -/
def revTo (xs : List Int) (a : Nat) : List Int := (List.range xs.length).map fun k => if k < a ∨ xs.length ≤ k + a then nth xs (xs.length - 1 - k) else nth xs k
theorem length_revTo (xs : List Int) (a : Nat) : (revTo xs a).length = xs.length := by simp [revTo]
theorem revTo_get (xs : List Int) (a k : Nat) (h : k < (revTo xs a).length) : (revTo xs a)[k] = if k < a ∨ xs.length ≤ k + a then nth xs (xs.length - 1 - k) else nth xs k := by simp [revTo]
theorem revTo_zero (xs : List Int) : revTo xs 0 = xs := by
  apply List.ext_getElem (length_revTo xs 0)
  intro k h1 h2
  rw [revTo_get, if_neg (by omega), nth_eq _ _ h2]
theorem revTo_next (xs : List Int) (a : Nat) (h : a + a + 1 < xs.length) : ((revTo xs a).set a (nth xs (xs.length - 1 - a))).set (xs.length - 1 - a) (nth xs a) = revTo xs (a + 1) := by
  apply List.ext_getElem (by simp [length_revTo])
  intro k h1 h2
  rw [length_revTo] at h2
  rw [List.getElem_set, List.getElem_set, revTo_get, revTo_get]
  by_cases e1 : xs.length - 1 - a = k
  · subst e1
    rw [if_pos rfl, if_pos (by omega)]
    congr 1; omega
  · rw [if_neg e1]
    by_cases e2 : a = k
    · subst e2
      rw [if_pos rfl, if_pos (by omega)]
    · rw [if_neg e2]
      by_cases e3 : k < a ∨ xs.length ≤ k + a
      · rw [if_pos e3, if_pos (by omega)]
      · rw [if_neg e3, if_neg (by omega)]
theorem revTo_end (xs : List Int) (a : Nat) (h : xs.length ≤ a + a + 1) : revTo xs a = xs.reverse := by
  apply List.ext_getElem (by simp [length_revTo])
  intro k h1 h2
  rw [length_revTo] at h1
  rw [revTo_get, List.getElem_reverse]
  by_cases e : k < a ∨ xs.length ≤ k + a
  · rw [if_pos e, nth_eq _ _ (by omega)]
  · rw [if_neg e, nth_eq _ _ (by omega)]
    congr 1; omega
theorem revTo_lo (xs : List Int) (a : Nat) (h : a + a + 1 < xs.length) (h1 : a < (ints (revTo xs a)).length) : (ints (revTo xs a))[a] = .int .i64 (nth xs a) := by
  rw [ints_get, revTo_get, if_neg (by omega)]
theorem revTo_hi (xs : List Int) (a : Nat) (h : a + a + 1 < xs.length) (h1 : xs.length - 1 - a < (ints (revTo xs a)).length) : (ints (revTo xs a))[xs.length - 1 - a] = .int .i64 (nth xs (xs.length - 1 - a)) := by
  rw [ints_get, revTo_get, if_neg (by omega)]

def RevP (w : World) (lo : Nat) (A : Option Addr) (n c : Nat) (xs : List Int) (e : Ending) (w' : World) : Prop :=
  e = .returned (.tuple #[]) ∧ Own w' lo 2 1 A n c (ints xs.reverse) ∧ Below lo w w' ∧ ∀ b, blk A ≠ some b → w'.heap[b]? = w.heap[b]?

set_option maxHeartbeats 1000000 in
theorem reverse_any (A : Option Addr) (n c : Nat) (xs : List Int) (w : World) (lo : Nat) (hx : Own w lo 2 1 A n c (ints xs)) (hn : n ≤ 1048576) (_hlo : lo ≤ w.heap.size) :
    Calls Try.prog 267 #[.slice A n c] w (RevP w lo A n c xs) := by
  have hl : xs.length = n := by have := hx.1; rw [length_ints] at this; omega
  subst hl
  go_enter Try.func267, Try.ntmps267
  go_wp2_with fail
  go_loopw [2, 3] (fun i j wr => ∃ a : Nat, a ≤ xs.length ∧ i = .int .i64 a ∧ j = .int .i64 ((xs.length : Int) - 1 - a) ∧ Own wr lo 2 1 A xs.length c (ints (revTo xs a)) ∧ Below lo w wr ∧ Hid (∀ b, blk A ≠ some b → wr.heap[b]? = w.heap[b]?)) (fun i _ _ => xs.length - (intOf i).toNat)
  case atStart => exact ⟨0, by omega, rfl, by simp, by rw [revTo_zero]; exact hx, Below.refl _ _, fun _ _ => rfl⟩
  case round =>
    obtain ⟨a, ha, rfl, rfl, ho, hb, hf⟩ := hrel
    by_cases hlt : a + a + 1 < xs.length
    · have hll : (ints (revTo xs a)).length = xs.length := by rw [length_ints, length_revTo]
      have h1 : a < (ints (revTo xs a)).length := by omega
      have h2 : xs.length - 1 - a < (ints (revTo xs a)).length := by omega
      obtain ⟨b, off, rfl, hlob, hbl, hc1, hf1⟩ := ho.at_ h1
      obtain ⟨b', off', he, _, _, hc2, hf2⟩ := ho.at_ h2
      simp only [Option.some.injEq, Addr.mk.injEq, and_true] at he
      obtain ⟨rfl, rfl⟩ := he
      rw [revTo_lo xs a hlt] at hc1
      rw [revTo_hi xs a hlt] at hc2
      have i1 : (a : Int) < (xs.length : Int) - 1 - a := by omega
      have i2 : (0 : Int) ≤ (xs.length : Int) - 1 - a := by omega
      have i3 : ((xs.length : Int) - 1 - a).toNat = xs.length - 1 - a := by omega
      have i4 : (xs.length : Int) - 1 - a < (xs.length : Int) := by omega
      have ne1 : ¬ off + a = off + (xs.length - 1 - a) := by omega
      have ne2 : ¬ off + (xs.length - 1 - a) = off + a := by omega
      have HLL := Lib.hid hll
      clear hll
      have ho2 := (ho.set_ h1 (.int .i64 (nth xs (xs.length - 1 - a)))).set_ (k := xs.length - 1 - a) (by rw [List.length_set]; exact h2) (.int .i64 (nth xs a))
      rw [ints_set, ints_set, revTo_next xs a hlt] at ho2
      have ho3 : Own ((wr.setCell ⟨b, off + a, none⟩ (.int .i64 (nth xs (xs.length - 1 - a)))).setCell ⟨b, off + (xs.length - 1 - a), none⟩ (.int .i64 (nth xs a))).drew lo 2 1 (some ⟨b, off, none⟩) xs.length c (ints (revTo xs (a + 1))) := ho2
      have hb3 : Below lo w ((wr.setCell ⟨b, off + a, none⟩ (.int .i64 (nth xs (xs.length - 1 - a)))).setCell ⟨b, off + (xs.length - 1 - a), none⟩ (.int .i64 (nth xs a))).drew := ((hb.setCell (p := ⟨b, off + a, none⟩) hlob _).setCell (p := ⟨b, off + (xs.length - 1 - a), none⟩) hlob _).drew
      have hf3 : Hid (∀ b', blk (some ⟨b, off, none⟩) ≠ some b' → ((wr.setCell ⟨b, off + a, none⟩ (.int .i64 (nth xs (xs.length - 1 - a)))).setCell ⟨b, off + (xs.length - 1 - a), none⟩ (.int .i64 (nth xs a))).drew.heap[b']? = w.heap[b']?) := fun b' hb' =>
        (Below.heap_setCell _ _ _ _ (fun e => hb' (by rw [e]; rfl))).trans ((Below.heap_setCell _ _ _ _ (fun e => hb' (by rw [e]; rfl))).trans (hf.out b' hb'))
      go_wp2_with fail
      go_region
      go_wp2_with fail
      exact ⟨⟨a + 1, by omega, by go_num, by go_num, ho3, hb3, hf3⟩, by simp [intOf]; omega⟩
    · have i1 : ¬ (a : Int) < (xs.length : Int) - 1 - a := by omega
      go_wp2_with fail
      go_end0
      have e1 := revTo_end xs a (by omega)
      rw [e1] at ho
      exact ⟨rfl, ho, hb, hf.out⟩

set_option maxHeartbeats 400000 in
theorem reversed_any (A : Option Addr) (n c : Nat) (xs : List Int) (w : World) (hx : SI w A n xs) (hn : n ≤ 1048576) :
    Calls Try.prog 199 #[.slice A n c] w (NewI w xs.reverse) := by
  have hl : xs.length ≤ 1048576 := by have := hx.len; omega
  go_enter Try.func199, Try.ntmps199
  go_wp2_with fail
  refine (cloneI_any _ _ _ xs _ hx hn).mono ?_
  rintro e w2 ⟨A2, c2, rfl, ho2, z2⟩
  go_wp2_with fail
  refine (reverse_any _ _ _ xs _ w.heap.size ho2 hl z2.size).mono ?_
  rintro e w3 ⟨rfl, ho3, z3, _⟩
  go_wp2_with fail
  go_ret
  exact ⟨A2, c2, by rw [List.length_reverse]; rfl, by rw [List.length_reverse]; exact ho3, z2.trans z3⟩
end Go.Proofs.Ytbpofkggoolmpaa

/-
  Contracts of impl's runner: runnerOf, symbol, at, rule, halts.
-/
namespace Go.Proofs.Ytbpofkggoolmpaa
open Go.RowKit

/-- A runner in memory. -/
def RunAt (w : World) (g : Nat) (sy st : Int) (A : Option Addr) (n k : Nat) (q : Int) (L : Option Addr) (m c : Nat) (R : Option Addr) (l d : Nat) : Prop :=
  Blk w g 250 #[.int .i64 sy, .int .i64 st, .slice A n k, .int .i64 q, .slice L m c, .slice R l d]

def NewRunner (w : World) (sy st : Int) (A : Option Addr) (n k : Nat) (q : Int) (xs ys : List Int) (e : Ending) (w' : World) : Prop :=
  ∃ g L c R d, e = .returned (.pointer (some ⟨g, 0, none⟩)) ∧ w.heap.size ≤ g ∧ RunAt w' g sy st A n k q L xs.length c R ys.length d ∧ Own w' w.heap.size 2 1 L xs.length c (ints xs.reverse) ∧ Own w' w.heap.size 2 1 R ys.length d (ints ys.reverse) ∧ (∀ b, blk L = some b → blk R ≠ some b) ∧ Below w.heap.size w w'

set_option maxHeartbeats 2000000 in
theorem runnerOf_any (sy st : Int) (A : Option Addr) (n k : Nat) (q : Int) (B : Option Addr) (m c : Nat) (xs : List Int) (C : Option Addr) (l d : Nat) (ys : List Int) (w : World) (hx : SI w B m xs) (hy : SI w C l ys) (hm : m ≤ 1048576) (hl : l ≤ 1048576) :
    Calls Try.prog 113 #[.agg #[.int .i64 sy, .int .i64 st, .slice A n k], .agg #[.int .i64 q, .slice B m c, .slice C l d]] w (NewRunner w sy st A n k q xs ys) := by
  obtain ⟨W, hW⟩ : ∃ W, W = (w.alloc (.cells #[.int .i64 sy, .int .i64 st, .slice A n k] 36)).alloc (.cells #[.int .i64 q, .slice B m c, .slice C l d] 50) := ⟨_, rfl⟩
  have s1 : (w.alloc (.cells #[.int .i64 sy, .int .i64 st, .slice A n k] 36)).heap.size = w.heap.size + 1 := by simp
  have b0 : Blk W w.heap.size 36 #[.int .i64 sy, .int .i64 st, .slice A n k] := by rw [hW]; exact (Blk.new w _ _).alloc _
  have b1 : Blk W (w.heap.size + 1) 50 #[.int .i64 q, .slice B m c, .slice C l d] := by rw [hW, ← s1]; exact Blk.new _ _ _
  have y0 : Below w.heap.size w W := by rw [hW]; exact ((Below.refl _ _).alloc (Nat.le_refl _) _).alloc (by simp) _
  have HW := Lib.hid hW
  clear hW s1
  have q0 : W.cell? ⟨w.heap.size, 0, none⟩ = some (.int .i64 sy) := b0.cell 0
  have q1 : W.cell? ⟨w.heap.size, 1, none⟩ = some (.int .i64 st) := b0.cell 1
  have q2 : W.cell? ⟨w.heap.size, 2, none⟩ = some (.slice A n k) := b0.cell 2
  have q3 : W.cell? ⟨w.heap.size + 1, 0, none⟩ = some (.int .i64 q) := b1.cell 0
  have q4 : W.cell? ⟨w.heap.size + 1, 1, none⟩ = some (.slice B m c) := b1.cell 1
  have q5 : W.cell? ⟨w.heap.size + 1, 2, none⟩ = some (.slice C l d) := b1.cell 2
  have hxW := (hx.below y0).drewN 1
  have hyW := (hy.below y0)
  have hxl : xs.length = m := hx.len
  have hyl : ys.length = l := hy.len
  have HXL := Lib.hid hxl
  have HYL := Lib.hid hyl
  clear hxl hyl
  go_enter Try.func113, Try.ntmps113
  go_wp2_with fail
  rw [← HW.out]
  go_region_held3 (fun w' => w'.cell? ⟨w.heap.size, 0, none⟩ = some (.int .i64 sy) ∧ w'.cell? ⟨w.heap.size, 1, none⟩ = some (.int .i64 st) ∧ w'.cell? ⟨w.heap.size, 2, none⟩ = some (.slice A n k) ∧
      w'.cell? ⟨w.heap.size + 1, 0, none⟩ = some (.int .i64 q) ∧ w'.cell? ⟨w.heap.size + 1, 1, none⟩ = some (.slice B m c) ∧ w'.cell? ⟨w.heap.size + 1, 2, none⟩ = some (.slice C l d))
    (first
      | (go_keep; done)
      | (exact ⟨(b0.below' z3).cell 0, (b0.below' z3).cell 1, (b0.below' z3).cell 2, (b1.below' z3).cell 0, (b1.below' z3).cell 1, (b1.below' z3).cell 2⟩)
      | (exact ⟨(b0.below' z2).cell 0, (b0.below' z2).cell 1, (b0.below' z2).cell 2, (b1.below' z2).cell 0, (b1.below' z2).cell 1, (b1.below' z2).cell 2⟩))
    (first
      | (go_at_call_of 199 (Value.slice B m c); refine (reversed_any _ _ _ xs _ hxW hm).mono ?_; rintro e w2 ⟨L, cl, rfl, ol, z2'⟩; have z2 : Below W.heap.size W w2 := below_undrew z2')
      | (go_at_call_of 199 (Value.slice C l d); refine (reversed_any _ _ _ ys _ (hyW.below z2) hl).mono ?_; rintro e w3 ⟨R, cr, rfl, or_, z3'⟩; have z3 : Below W.heap.size W w3 := z2.trans (z3'.mono z2.size)))
  go_wp2_with fail
  go_ret
  have hz : w.heap.size ≤ W.heap.size := y0.size
  have hz2 : W.heap.size ≤ w2.heap.size := z2.size
  have hz3 : w2.heap.size ≤ w3.heap.size := z3'.size
  rw [List.length_reverse] at ol or_
  have ol2 : Own w3 w.heap.size 2 1 L xs.length cl (ints xs.reverse) := (ol.below z3').mono (by exact hz)
  have or2 : Own w3 w.heap.size 2 1 R ys.length cr (ints ys.reverse) := or_.mono (by omega)
  refine ⟨w3.heap.size, L, cl, R, cr, rfl, by omega, Blk.new w3 _ _, ol2.alloc _, or2.alloc _, fun b h1 h2 => ?_, (y0.trans (z3.mono hz)).alloc (by omega) _⟩
  have h3 := ol.blk_lt b h1
  have h4 := or_.blk_ge b h2
  omega

set_option maxHeartbeats 400000 in
theorem nearest_any (A : Option Addr) (n c : Nat) (xs : List Int) (w : World) (hx : SI w A n xs) (hn : n ≤ 1048576) :
    Calls Try.prog 265 #[.slice A n c] w fun e w' => e = .returned (.int .i64 (lastI xs)) ∧ w = w' := by
  have HL := Lib.hid hx.len
  by_cases hn0 : n = 0
  · subst hn0
    have hx0 : xs = [] := List.eq_nil_of_length_eq_zero HL.out
    subst hx0
    go_enter Try.func265, Try.ntmps265
    go_wp2
    go_ret
    exact ⟨rfl, rfl⟩
  · obtain ⟨b, off, rfl, _, hc⟩ := last_at hx (by omega)
    have g0 : ((n : Int) == 0) = false := by simp; omega
    have i1 : (0 : Int) ≤ (n : Int) - 1 := by omega
    have i2 : ((n : Int) - 1).toNat = n - 1 := by omega
    go_enter Try.func265, Try.ntmps265
    go_wp2
    go_ret
    exact ⟨rfl, rfl⟩

set_option maxHeartbeats 400000 in
theorem symbol_any (g : Nat) (sy st : Int) (A : Option Addr) (n k : Nat) (q : Int) (L : Option Addr) (m c : Nat) (R : Option Addr) (l d : Nat) (ys : List Int) (w : World) (hr : RunAt w g sy st A n k q L m c R l d) (hy : SI w R l ys) (hl : l ≤ 1048576) :
    Calls Try.prog 294 #[.pointer (some ⟨g, 0, none⟩)] w fun e w' => e = .returned (.int .i64 (lastI ys)) ∧ w = w' := by
  have c5 : w.cell? ⟨g, 5, none⟩ = some (.slice R l d) := hr.cell 5
  go_enter Try.func294, Try.ntmps294
  go_wp2_with (go_at_call 265; refine (nearest_any _ _ _ ys _ hy hl).mono ?_; rintro e w' ⟨rfl, rfl⟩)
  go_ret
  exact ⟨rfl, rfl⟩

/-- The rule's index. -/
def atI (sy q : Int) (ys : List Int) : Int := q * sy + lastI ys

set_option maxHeartbeats 400000 in
theorem at_any (g : Nat) (sy st : Int) (A : Option Addr) (n k : Nat) (q : Int) (L : Option Addr) (m c : Nat) (R : Option Addr) (l d : Nat) (ys : List Int) (w : World) (hr : RunAt w g sy st A n k q L m c R l d) (hy : SI w R l ys) (hl : l ≤ 1048576)
    (h1 : 0 ≤ q * sy) (h2 : q * sy ≤ 1000000) (h3 : 0 ≤ lastI ys) (h4 : lastI ys ≤ 1000000) :
    Calls Try.prog 262 #[.pointer (some ⟨g, 0, none⟩)] w fun e w' => e = .returned (.int .i64 (atI sy q ys)) ∧ ∃ nq, w' = w.drewN nq := by
  have c0 : w.cell? ⟨g, 0, none⟩ = some (.int .i64 sy) := hr.cell 0
  have c3 : w.cell? ⟨g, 3, none⟩ = some (.int .i64 q) := hr.cell 3
  have w1 : IntKind.i64.wrap (q * sy) = q * sy := IntWalk.i64_in _ (by omega)
  have w2 : IntKind.i64.wrap (q * sy + lastI ys) = q * sy + lastI ys := IntWalk.i64_in _ (by omega)
  go_enter Try.func262, Try.ntmps262
  go_wp2_with fail
  go_quiet ((go_at_call 294; exact quiet_left (symbol_any _ _ _ _ _ _ _ _ _ _ _ _ _ ys _ (hr.drewN _) (hy.drewN _) hl)))
  clear w1 w2
  go_wp2_with fail
  go_ret
  exact ⟨rfl, _, rfl⟩
end Go.Proofs.Ytbpofkggoolmpaa

/-
  Contracts of impl's runner: rule, halts, pop, push.
-/
namespace Go.Proofs.Ytbpofkggoolmpaa
open Go.RowKit

theorem ret_slice {A : Option Addr} {n m c : Nat} (h : n = m) : Ending.returned (.slice A n c) = .returned (.slice A m c) := by rw [h]
theorem ints_snoc (xs : List Int) (x : Int) : ints xs ++ [.int .i64 x] = ints (xs ++ [x]) := by simp [ints]
theorem grown_alloc {w w2 : World} {o : Obj} {row : Option Nat} (h : (w.alloc o).grownBy w2 row) : w.grownBy w2 row :=
  ⟨h.os, h.tape, h.output, Nat.le_trans (by simp) h.size, fun k hk hne => (h.block k (by simp; omega) hne).trans (Below.heap_alloc w o k hk)⟩
theorem far_set {W : World} {p q : Addr} {u v : Value} (hne : ¬ q.block = p.block) (h : W.cell? q = some v) : (W.setCell p u).cell? q = some v :=
  (World.cell?_setCell_other W p q u (fun e => hne (by rw [e]))).trans h

set_option maxHeartbeats 1000000 in
theorem rule_any (g : Nat) (sy st : Int) (A : Option Addr) (n k : Nat) (rs : List R3) (q : Int) (L : Option Addr) (m c : Nat) (R : Option Addr) (l d : Nat) (ys : List Int) (idx : Nat) (r : R3) (w : World) (hr : RunAt w g sy st A n k q L m c R l d) (hrs : S3 w A n rs) (hy : SI w R l ys) (hl : l ≤ 1048576)
    (h1 : 0 ≤ q * sy) (h2 : q * sy ≤ 1000000) (h3 : 0 ≤ lastI ys) (h4 : lastI ys ≤ 1000000) (hidx : Hid (atI sy q ys = (idx : Int))) (hlt : idx < n) (hri : Hid (rs[idx]? = some r)) (_hn : n ≤ 1048576) :
    Calls Try.prog 196 #[.pointer (some ⟨g, 0, none⟩)] w fun e w' => e = .returned (.agg #[.int .i64 r.a, .int .i64 r.b, .int .i64 r.c]) ∧ Below w.heap.size w w' := by
  obtain ⟨W, hW⟩ : ∃ W, W = w.alloc (.cells #[.int .i64 0, .int .i64 0, .int .i64 0] 229) := ⟨_, rfl⟩
  have b0 : Blk W w.heap.size 229 #[.int .i64 0, .int .i64 0, .int .i64 0] := by rw [hW]; exact Blk.new w _ _
  have y0 : Below w.heap.size w W := by rw [hW]; exact (Below.refl _ _).alloc (Nat.le_refl _) _
  have HW := Lib.hid hW
  clear hW
  have hrW : RunAt W g sy st A n k q L m c R l d := Blk.below' hr y0
  obtain ⟨r', b, off, hr', _, rfl, hbl, p0, p1, p2⟩ := (hrs.below y0).pick hlt
  obtain rfl : r = r' := by have e1 := hri.out; have e2 := hr'.out; rw [e1] at e2; simpa using e2
  have c2 : W.cell? ⟨g, 2, none⟩ = some (.slice (some ⟨b, off, none⟩) n k) := hrW.cell 2
  have i1 : (0 : Int) ≤ (idx : Int) := by omega
  have i2 : (idx : Int) < (n : Int) := by omega
  have hbw : b < w.heap.size := by
    obtain ⟨_, b2, o2, _, _, he, hb2, _⟩ := hrs.pick hlt
    simp only [Option.some.injEq, Addr.mk.injEq, and_true] at he
    omega
  have hgw : g < w.heap.size := hr.lt
  have n1 : ¬ g = w.heap.size := by omega
  have n2 : ¬ b = w.heap.size := by omega
  have e0 : W.cell? ⟨w.heap.size, 0, none⟩ = some (.int .i64 0) := b0.cell 0
  have e1 : W.cell? ⟨w.heap.size, 1, none⟩ = some (.int .i64 0) := b0.cell 1
  have e2 : W.cell? ⟨w.heap.size, 2, none⟩ = some (.int .i64 0) := b0.cell 2
  have f0 := b0.frozen 0
  have f1 := b0.frozen 1
  have f2 := b0.frozen 2
  go_enter Try.func196, Try.ntmps196
  go_wp2_with fail
  rw [← HW.out]
  go_region_held3 (fun w' => w'.cell? ⟨g, 2, none⟩ = some (.slice (some ⟨b, off, none⟩) n k) ∧ w'.cell? ⟨b, off + idx * 3, none⟩ = some (.int .i64 r.a) ∧ w'.cell? ⟨b, off + idx * 3 + 1, none⟩ = some (.int .i64 r.b) ∧ w'.cell? ⟨b, off + idx * 3 + 2, none⟩ = some (.int .i64 r.c))
    (first
      | (go_keep; done)
      | (exact ⟨far_set n1 (far_set n1 (far_set n1 c2)), far_set n2 (far_set n2 (far_set n2 p0)), far_set n2 (far_set n2 (far_set n2 p1)), far_set n2 (far_set n2 (far_set n2 p2))⟩))
    (first
      | (go_at_call 262; refine (at_any _ _ _ _ _ _ _ _ _ _ _ _ _ ys _ (hrW.drewN 1) ((hy.below y0).drewN 1) hl h1 h2 h3 h4).mono ?_; rintro e w' ⟨rfl, nq, rfl⟩; rw [hidx.out]))
  go_wp2_with fail
  have d1 : Blk ((((W.drewN (1 + nq)).setCell ⟨w.heap.size, 0, none⟩ (.int .i64 r.a)).setCell ⟨w.heap.size, 1, none⟩ (.int .i64 r.b)).setCell ⟨w.heap.size, 2, none⟩ (.int .i64 r.c)) w.heap.size 229 #[.int .i64 r.a, .int .i64 r.b, .int .i64 r.c] := (((b0.drewN (1 + nq)).set_ 0 _).set_ 1 _).set_ 2 _
  have yf : Below w.heap.size w ((((W.drewN (1 + nq)).setCell ⟨w.heap.size, 0, none⟩ (.int .i64 r.a)).setCell ⟨w.heap.size, 1, none⟩ (.int .i64 r.b)).setCell ⟨w.heap.size, 2, none⟩ (.int .i64 r.c)) := (((below_drewN y0 (1 + nq)).setCell (Nat.le_refl _) _).setCell (Nat.le_refl _) _).setCell (Nat.le_refl _) _
  generalize (((W.drewN (1 + nq)).setCell ⟨w.heap.size, 0, none⟩ (.int .i64 r.a)).setCell ⟨w.heap.size, 1, none⟩ (.int .i64 r.b)).setCell ⟨w.heap.size, 2, none⟩ (.int .i64 r.c) = wf at *
  have g0 : wf.cell? ⟨w.heap.size, 0, none⟩ = some (.int .i64 r.a) := d1.cell 0
  have g1 : wf.cell? ⟨w.heap.size, 1, none⟩ = some (.int .i64 r.b) := d1.cell 1
  have g2 : wf.cell? ⟨w.heap.size, 2, none⟩ = some (.int .i64 r.c) := d1.cell 2
  exact bodyPost_ret (v := .agg #[.int .i64 r.a, .int .i64 r.b, .int .i64 r.c]) (by simp [results, Try.results196, go_sem, g0, g1, g2]) rfl ⟨rfl, yf⟩

set_option maxHeartbeats 1000000 in
theorem halts_any (g : Nat) (sy st : Int) (A : Option Addr) (n k : Nat) (rs : List R3) (q : Int) (L : Option Addr) (m c : Nat) (R : Option Addr) (l d : Nat) (ys : List Int) (idx : Nat) (r : R3) (w : World) (hr : RunAt w g sy st A n k q L m c R l d) (hrs : S3 w A n rs) (hy : SI w R l ys) (hl : l ≤ 1048576)
    (h1 : 0 ≤ q * sy) (h2 : q * sy ≤ 1000000) (h3 : 0 ≤ lastI ys) (h4 : lastI ys ≤ 1000000) (hidx : Hid (atI sy q ys = (idx : Int))) (hlt : idx < n) (hri : Hid (rs[idx]? = some r)) (hn : n ≤ 1048576) :
    Calls Try.prog 195 #[.pointer (some ⟨g, 0, none⟩)] w fun e w' => e = .returned (.bool (!isRuleB r)) ∧ Below w.heap.size w w' := by
  go_enter Try.func195, Try.ntmps195
  go_wp2_with fail
  refine (rule_any _ _ _ _ _ _ rs _ _ _ _ _ _ _ ys idx r _ hr hrs hy hl h1 h2 h3 h4 hidx hlt hri hn).mono ?_
  rintro e w2 ⟨rfl, z2⟩
  go_wp2_with fail
  refine (isRule_any _ _ _ _).mono ?_
  rintro e w3 ⟨rfl, z3⟩
  go_wp2_with fail
  go_ret
  exact ⟨rfl, z2.trans (z3.mono z2.size)⟩

set_option maxHeartbeats 400000 in
theorem pop_any (A : Option Addr) (n c : Nat) (w : World) (hn : n ≤ 1048576) (hc : n ≤ c) :
    Calls Try.prog 263 #[.slice A n c] w fun e w' => e = .returned (.slice A (n - 1) c) ∧ w = w' := by
  by_cases hn0 : n = 0
  · subst hn0
    go_enter Try.func263, Try.ntmps263
    go_wp2
    go_ret
    exact ⟨rfl, rfl⟩
  · have i1 : (0 : Int) ≤ (n : Int) - 1 := by omega
    go_enter Try.func263, Try.ntmps263
    go_wp2
    · go_ret
      exact ⟨rfl, rfl⟩
    · go_ret
      exact ⟨ret_slice (by omega), rfl⟩

/-- A symbol put on a side. -/
def pushI (xs : List Int) (x : Int) : List Int := if x = 0 ∧ xs = [] then xs else xs ++ [x]

def PushP (w : World) (lo : Nat) (A : Option Addr) (n c : Nat) (xs : List Int) (x : Int) (e : Ending) (w' : World) : Prop :=
  ∃ A2 c2, e = .returned (.slice A2 (pushI xs x).length c2) ∧ Own w' lo 2 1 A2 (pushI xs x).length c2 (ints (pushI xs x)) ∧ w.grownBy w' (blk A) ∧ (blk A2 = blk A ∨ ∀ b, blk A2 = some b → w.heap.size ≤ b) ∧ Own w' lo 2 1 A n c (ints xs)

set_option maxHeartbeats 1000000 in
theorem push_any (A : Option Addr) (n c : Nat) (xs : List Int) (x : Int) (w : World) (lo : Nat) (ho : Own w lo 2 1 A n c (ints xs)) (hlo : lo ≤ w.heap.size) (hn : n ≤ 1048576) :
    Calls Try.prog 264 #[.slice A n c, .int .i64 x] w (PushP w lo A n c xs x) := by
  have hl : xs.length = n := by have := ho.1; rw [length_ints] at this; omega
  have HL := Lib.hid hl
  clear hl
  by_cases hx0 : x = 0
  · by_cases hn0 : n = 0
    · have hxe : xs = [] := List.eq_nil_of_length_eq_zero (by rw [HL.out]; exact hn0)
      subst hxe
      subst hx0
      subst hn0
      go_enter Try.func264, Try.ntmps264
      go_wp2
      go_ret
      exact ⟨A, c, rfl, ho, World.grownBy.refl w _, .inl rfl, ho⟩
    · have HP : Hid (pushI xs x = xs ++ [x]) := by
        show _ = _
        unfold pushI; rw [if_neg]; rintro ⟨_, rfl⟩; have := HL.out; simp at this; omega
      have g0 : ((n : Int) == 0) = false := by simp; omega
      have g1 : (x == 0) = true := by simpa using hx0
      have HX0 := Lib.hid hx0
      clear hx0
      go_enter Try.func264, Try.ntmps264
      go_wp2_with (at_builtin; refine wpList_append_Own rfl (.tmp 13) (.tmp 15) rfl elI (lo := lo) rfl (ho.alloc _) rfl (Rd.new1 w (.int .i64 x) _) (by simp [Value.oneCell']) (by omega) (by simp only [maxLen]; omega) (by simp; omega) ?_; intro A2 c2 w2 ho2 hg2 hw2)
      go_ret
      rw [ints_snoc] at ho2
      refine ⟨A2, c2, ?_, ?_, ?_, ?_, hw2.2⟩
      · rw [HP.out, List.length_append, HL.out]; rfl
      · rw [HP.out, List.length_append, HL.out]; exact ho2
      · exact grown_alloc hg2
      · rcases hw2.1 with h | h
        · exact .inl h
        · exact .inr (fun b hb => by rw [h] at hb; simp at hb; omega)
  · have HP : Hid (pushI xs x = xs ++ [x]) := by
      show _ = _
      unfold pushI; rw [if_neg]; rintro ⟨h, _⟩; exact hx0 h
    have g1 : (x == 0) = false := by simpa using hx0
    clear hx0
    go_enter Try.func264, Try.ntmps264
    go_wp2_with (at_builtin; refine wpList_append_Own rfl (.tmp 13) (.tmp 15) rfl elI (lo := lo) rfl (ho.alloc _) rfl (Rd.new1 w (.int .i64 x) _) (by simp [Value.oneCell']) (by omega) (by simp only [maxLen]; omega) (by simp; omega) ?_; intro A2 c2 w2 ho2 hg2 hw2)
    go_ret
    rw [ints_snoc] at ho2
    refine ⟨A2, c2, ?_, ?_, ?_, ?_, hw2.2⟩
    · rw [HP.out, List.length_append, HL.out]; rfl
    · rw [HP.out, List.length_append, HL.out]; exact ho2
    · exact grown_alloc hg2
    · rcases hw2.1 with h | h
      · exact .inl h
      · exact .inr (fun b hb => by rw [h] at hb; simp at hb; omega)
end Go.Proofs.Ytbpofkggoolmpaa

/-
  Contracts of the reference's functions on configurations: l05Head, l05At, l05Halts, l05Rest, l05Trim, l05Push.
-/
namespace Go.Proofs.Ytbpofkggoolmpaa
open Go.RowKit

theorem lastI_reverse (ys : List Int) : ys.headD 0 = lastI ys.reverse := by
  unfold lastI; cases ys <;> simp

theorem isRuleB_r (r : R3) : isRuleB r = !((r.a == 0) && (r.b == 0) && (r.c == -1)) := isRuleB_eq r.a r.b r.c

end Go.Proofs.Ytbpofkggoolmpaa

/-
  Contracts of the reference's functions on sides: l05Rest, l05Trim, l05Push.
-/
namespace Go.Proofs.Ytbpofkggoolmpaa
open Go.RowKit

theorem rest_si {w : World} {A A' : Option Addr} {n : Nat} {xs : List Int} (h : SI w A n xs) (hn : 0 < n) (hA : 1 < n → ∀ b off, A = some ⟨b, off, none⟩ → A' = some ⟨b, off + 1, none⟩) : SI w A' (n - 1) xs.tail := by
  have hl := h.len
  have := Rd.cut h (i := 1) (j := n) (by omega) (Nat.le_refl _) (A' := A') hA
  rw [ints_take, ints_drop, List.take_of_length_le (by omega), List.drop_one] at this
  exact this

/-- A side without the zeros at its end. -/
def trimI (xs : List Int) : List Int := (xs.reverse.dropWhile (· == 0)).reverse
theorem trim_snoc0 (xs : List Int) : trimI (xs ++ [0]) = trimI xs := by simp [trimI]
theorem trim_snoc (xs : List Int) {x : Int} (h : (x == 0) = false) : trimI (xs ++ [x]) = xs ++ [x] := by simp [trimI, h]
theorem take_pred {xs : List Int} {k : Nat} (hk : 0 < k) (hl : k ≤ xs.length) : xs.take k = xs.take (k - 1) ++ [nth xs (k - 1)] := by
  rw [nth_eq xs (k - 1) (by omega), ← List.take_succ_eq_append_getElem (by omega), show k - 1 + 1 = k from by omega]
theorem trim_next {xs : List Int} {k : Nat} (hk : 0 < k) (hl : k ≤ xs.length) (h : (nth xs (k - 1) == 0) = true) (he : trimI (xs.take k) = trimI xs) : trimI (xs.take (k - 1)) = trimI xs := by
  rw [take_pred hk hl] at he
  rw [beq_iff_eq] at h
  rw [h, trim_snoc0] at he
  exact he
theorem trim_stop {xs : List Int} {k : Nat} (hk : 0 < k) (hl : k ≤ xs.length) (h : (nth xs (k - 1) == 0) = false) (he : trimI (xs.take k) = trimI xs) : xs.take k = trimI xs := by
  rw [take_pred hk hl] at he ⊢
  rw [trim_snoc _ h] at he
  exact he

set_option maxHeartbeats 1000000 in
theorem l05Trim_any (A : Option Addr) (n c : Nat) (xs : List Int) (w : World) (hx : SI w A n xs) (hn : n ≤ 1048576) (hcap : n ≤ c) :
    Calls Try.prog 108 #[.slice A n c] w (NewI w (trimI xs)) := by
  have HL := Lib.hid hx.len
  have hcut : ∀ k, k ≤ n → SI w A k (xs.take k) := fun k hk => by
    have := Rd.cut hx (i := 0) (j := k) (by omega) hk (A' := A) (fun _ b off e => by rw [e]; rfl)
    rw [ints_take] at this
    exact this
  have HC := Lib.hid hcut
  clear hcut
  go_enter Try.func108, Try.ntmps108
  go_wp2
  go_loop [3] (fun i => ∃ k : Nat, k ≤ n ∧ i = .int .i64 k ∧ Hid (trimI (xs.take k) = trimI xs)) (fun i => (intOf i).toNat)
  case atStart => exact ⟨n, by omega, rfl, by show _ = _; rw [List.take_of_length_le (by rw [HL.out]; omega)]⟩
  case round =>
    obtain ⟨k, hk, rfl, he⟩ := hrel
    have hkc : k ≤ c := by omega
    by_cases hk0 : k = 0
    · subst hk0
      have HT : Hid (trimI xs = []) := by
        show _ = _
        rw [← he.out]; rfl
      go_wp2_with fail
      refine (l00Own_any _ _ _ [] _ SI.nil (by omega)).mono ?_
      rintro e w2 ⟨A2, c2, rfl, o2, z2⟩
      go_wp2_with fail
      go_ret
      exact ⟨A2, c2, by rw [HT.out]; rfl, by rw [HT.out]; exact o2, z2⟩
    · have i0 : (0 : Int) < (k : Int) := by omega
      have i00 : decide ((k : Int) > 0) = true := by simp; omega
      have i1 : (0 : Int) ≤ (k : Int) - 1 := by omega
      have i2 : ((k : Int) - 1).toNat = k - 1 := by omega
      obtain ⟨b, off, rfl, _, hc⟩ := hx.at_ (k := k - 1) (by omega)
      rw [← nth_eq] at hc
      cases hz : (nth xs (k - 1) == 0)
      · have HZ := Lib.hid hz
        have HT := Lib.hid (trim_stop (by omega) (by rw [HL.out]; exact hk) HZ.out he.out)
        go_wp2_with fail
        · refine (l00Own_any _ _ _ (xs.take k) _ (HC.out k hk) (by omega)).mono ?_
          rintro e w2 ⟨A2, c2, rfl, o2, z2⟩
          go_wp2_with fail
          go_ret
          exact ⟨A2, c2, ret_slice (by rw [← HT.out]; simp), by rw [← HT.out]; exact o2, z2⟩
        · omega
      · have HZ := Lib.hid hz
        go_wp2_with fail
        · exact ⟨⟨k - 1, by omega, by go_num, trim_next (by omega) (by rw [HL.out]; exact hk) HZ.out he.out⟩, by simp [intOf]; omega⟩
        · omega

end Go.Proofs.Ytbpofkggoolmpaa
