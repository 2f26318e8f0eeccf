/-
  Contracts of slices.Reverse and impl.reversed.
-/
import Derived.Test.YthipbeggaeogcaaBase
import Derived.RegionTactic
namespace Go.Proofs.Ythipbeggaeogcaa
open Go.RowKit

/-- The number at a place, or 0. -/
def nth (xs : List Int) (k : Nat) : Int := xs.getD k 0
theorem nth_eq (xs : List Int) (k : Nat) (h : k < xs.length) : nth xs k = xs[k] := by simp [nth, List.getElem?_eq_getElem h]
/-- After a rounds of the reversal in place. -/
def revTo (xs : List Int) (a : Nat) : List Int := (List.range xs.length).map fun k => if k < a ∨ xs.length ≤ k + a then nth xs (xs.length - 1 - k) else nth xs k
theorem length_revTo (xs : List Int) (a : Nat) : (revTo xs a).length = xs.length := by simp [revTo]
theorem revTo_get (xs : List Int) (a k : Nat) (h : k < (revTo xs a).length) : (revTo xs a)[k] = if k < a ∨ xs.length ≤ k + a then nth xs (xs.length - 1 - k) else nth xs k := by simp [revTo]
theorem revTo_zero (xs : List Int) : revTo xs 0 = xs := by
  apply List.ext_getElem (length_revTo xs 0)
  intro k h1 h2
  rw [revTo_get, if_neg (by omega), nth_eq _ _ h2]
theorem revTo_next (xs : List Int) (a : Nat) (h : a + a + 1 < xs.length) : ((revTo xs a).set a (nth xs (xs.length - 1 - a))).set (xs.length - 1 - a) (nth xs a) = revTo xs (a + 1) := by
  apply List.ext_getElem (by simp [length_revTo])
  intro k h1 h2
  rw [length_revTo] at h2
  rw [List.getElem_set, List.getElem_set, revTo_get, revTo_get]
  by_cases e1 : xs.length - 1 - a = k
  · subst e1
    rw [if_pos rfl, if_pos (by omega)]
    congr 1; omega
  · rw [if_neg e1]
    by_cases e2 : a = k
    · subst e2
      rw [if_pos rfl, if_pos (by omega)]
    · rw [if_neg e2]
      by_cases e3 : k < a ∨ xs.length ≤ k + a
      · rw [if_pos e3, if_pos (by omega)]
      · rw [if_neg e3, if_neg (by omega)]
theorem revTo_end (xs : List Int) (a : Nat) (h : xs.length ≤ a + a + 1) : revTo xs a = xs.reverse := by
  apply List.ext_getElem (by simp [length_revTo])
  intro k h1 h2
  rw [length_revTo] at h1
  rw [revTo_get, List.getElem_reverse]
  by_cases e : k < a ∨ xs.length ≤ k + a
  · rw [if_pos e, nth_eq _ _ (by omega)]
  · rw [if_neg e, nth_eq _ _ (by omega)]
    congr 1; omega
theorem revTo_lo (xs : List Int) (a : Nat) (h : a + a + 1 < xs.length) (h1 : a < (ints (revTo xs a)).length) : (ints (revTo xs a))[a] = .int .i64 (nth xs a) := by
  rw [ints_get, revTo_get, if_neg (by omega)]
theorem revTo_hi (xs : List Int) (a : Nat) (h : a + a + 1 < xs.length) (h1 : xs.length - 1 - a < (ints (revTo xs a)).length) : (ints (revTo xs a))[xs.length - 1 - a] = .int .i64 (nth xs (xs.length - 1 - a)) := by
  rw [ints_get, revTo_get, if_neg (by omega)]

def RevP (w : World) (lo : Nat) (A : Option Addr) (n c : Nat) (xs : List Int) (e : Ending) (w' : World) : Prop :=
  e = .returned (.tuple #[]) ∧ Own w' lo 2 1 A n c (ints xs.reverse) ∧ Below lo w w' ∧ ∀ b, blk A ≠ some b → w'.heap[b]? = w.heap[b]?

set_option maxHeartbeats 1000000 in
theorem reverse_any (A : Option Addr) (n c : Nat) (xs : List Int) (w : World) (lo : Nat) (hx : Own w lo 2 1 A n c (ints xs)) (hn : n ≤ 1048576) (_hlo : lo ≤ w.heap.size) :
    Calls Try.prog 222 #[.slice A n c] w (RevP w lo A n c xs) := by
  have hl : xs.length = n := by have := hx.1; rw [length_ints] at this; omega
  subst hl
  go_enter Try.func222, Try.ntmps222
  go_wp2_with fail
  go_loopw [2, 3] (fun i j wr => ∃ a : Nat, a ≤ xs.length ∧ i = .int .i64 a ∧ j = .int .i64 ((xs.length : Int) - 1 - a) ∧ Own wr lo 2 1 A xs.length c (ints (revTo xs a)) ∧ Below lo w wr ∧ Hid (∀ b, blk A ≠ some b → wr.heap[b]? = w.heap[b]?)) (fun i _ _ => xs.length - (intOf i).toNat)
  case atStart => exact ⟨0, by omega, rfl, by simp, by rw [revTo_zero]; exact hx, Below.refl _ _, fun _ _ => rfl⟩
  case round =>
    obtain ⟨a, ha, rfl, rfl, ho, hb, hf⟩ := hrel
    by_cases hlt : a + a + 1 < xs.length
    · have hll : (ints (revTo xs a)).length = xs.length := by rw [length_ints, length_revTo]
      have h1 : a < (ints (revTo xs a)).length := by omega
      have h2 : xs.length - 1 - a < (ints (revTo xs a)).length := by omega
      obtain ⟨b, off, rfl, hlob, hbl, hc1, hf1⟩ := ho.at_ h1
      obtain ⟨b', off', he, _, _, hc2, hf2⟩ := ho.at_ h2
      simp only [Option.some.injEq, Addr.mk.injEq, and_true] at he
      obtain ⟨rfl, rfl⟩ := he
      rw [revTo_lo xs a hlt] at hc1
      rw [revTo_hi xs a hlt] at hc2
      have i1 : (a : Int) < (xs.length : Int) - 1 - a := by omega
      have i2 : (0 : Int) ≤ (xs.length : Int) - 1 - a := by omega
      have i3 : ((xs.length : Int) - 1 - a).toNat = xs.length - 1 - a := by omega
      have i4 : (xs.length : Int) - 1 - a < (xs.length : Int) := by omega
      have ne1 : ¬ off + a = off + (xs.length - 1 - a) := by omega
      have ne2 : ¬ off + (xs.length - 1 - a) = off + a := by omega
      have HLL := Lib.hid hll
      clear hll
      have ho2 := (ho.set_ h1 (.int .i64 (nth xs (xs.length - 1 - a)))).set_ (k := xs.length - 1 - a) (by rw [List.length_set]; exact h2) (.int .i64 (nth xs a))
      rw [ints_set, ints_set, revTo_next xs a hlt] at ho2
      have ho3 : Own ((wr.setCell ⟨b, off + a, none⟩ (.int .i64 (nth xs (xs.length - 1 - a)))).setCell ⟨b, off + (xs.length - 1 - a), none⟩ (.int .i64 (nth xs a))).drew lo 2 1 (some ⟨b, off, none⟩) xs.length c (ints (revTo xs (a + 1))) := ho2
      have hb3 : Below lo w ((wr.setCell ⟨b, off + a, none⟩ (.int .i64 (nth xs (xs.length - 1 - a)))).setCell ⟨b, off + (xs.length - 1 - a), none⟩ (.int .i64 (nth xs a))).drew := ((hb.setCell (p := ⟨b, off + a, none⟩) hlob _).setCell (p := ⟨b, off + (xs.length - 1 - a), none⟩) hlob _).drew
      have hf3 : Hid (∀ b', blk (some ⟨b, off, none⟩) ≠ some b' → ((wr.setCell ⟨b, off + a, none⟩ (.int .i64 (nth xs (xs.length - 1 - a)))).setCell ⟨b, off + (xs.length - 1 - a), none⟩ (.int .i64 (nth xs a))).drew.heap[b']? = w.heap[b']?) := fun b' hb' =>
        (Below.heap_setCell _ _ _ _ (fun e => hb' (by rw [e]; rfl))).trans ((Below.heap_setCell _ _ _ _ (fun e => hb' (by rw [e]; rfl))).trans (hf.out b' hb'))
      go_wp2_with fail
      go_region
      go_wp2_with fail
      exact ⟨⟨a + 1, by omega, by go_num, by go_num, ho3, hb3, hf3⟩, by simp [intOf]; omega⟩
    · have i1 : ¬ (a : Int) < (xs.length : Int) - 1 - a := by omega
      go_wp2_with fail
      go_end0
      have e1 := revTo_end xs a (by omega)
      rw [e1] at ho
      exact ⟨rfl, ho, hb, hf.out⟩

set_option maxHeartbeats 400000 in
theorem reversed_any (A : Option Addr) (n c : Nat) (xs : List Int) (w : World) (hx : SI w A n xs) (hn : n ≤ 1048576) :
    Calls Try.prog 205 #[.slice A n c] w (NewI w xs.reverse) := by
  have hl : xs.length ≤ 1048576 := by have := hx.len; omega
  go_enter Try.func205, Try.ntmps205
  go_wp2_with fail
  refine (cloneI_any _ _ _ xs _ hx hn).mono ?_
  rintro e w2 ⟨A2, c2, rfl, ho2, z2⟩
  go_wp2_with fail
  refine (reverse_any _ _ _ xs _ w.heap.size ho2 hl z2.size).mono ?_
  rintro e w3 ⟨rfl, ho3, z3, _⟩
  go_wp2_with fail
  go_ret
  exact ⟨A2, c2, by rw [List.length_reverse]; rfl, by rw [List.length_reverse]; exact ho3, z2.trans z3⟩
end Go.Proofs.Ythipbeggaeogcaa
