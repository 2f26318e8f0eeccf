/-
  Contracts of the reference's small functions: l00Has, l00Rises.
-/
import Derived.Test.YthipbeggaeogcaaTagI
import Derived.Test.YthipbeggaeogcaaL00A
namespace Go.Proofs.Ythipbeggaeogcaa
open Go.RowKit

def hasB (xs : List Int) (t : Int) : Bool := decide (t ∈ xs)
theorem hasB_at {xs : List Int} {t : Int} {k n : Nat} (hk : k < n) (hl : xs.length = n) (h : (xs[k]'(by omega) == t) = true) : true = hasB xs t := by
  symm; unfold hasB; rw [decide_eq_true_iff]; simp at h; subst h; exact List.getElem_mem _
theorem hasB_next {xs : List Int} {t : Int} {k n : Nat} (hk : k < n) (hl : xs.length = n) (h : (xs[k]'(by omega) == t) = false) (he : ¬ t ∈ xs.take k) : ¬ t ∈ xs.take (k + 1) := by
  rw [List.take_succ_eq_append_getElem (by omega)]
  simp at h
  rw [List.mem_append]
  rintro (h1 | h1)
  · exact he h1
  · simp at h1; exact h h1.symm
theorem hasB_end {xs : List Int} {t : Int} {k n : Nat} (hk : n ≤ k) (hl : xs.length = n) (he : ¬ t ∈ xs.take k) : false = hasB xs t := by
  rw [List.take_of_length_le (by omega)] at he
  symm; unfold hasB; rw [decide_eq_false_iff_not]; exact he
set_option maxHeartbeats 400000 in
theorem l00Has_any (A : Option Addr) (n c : Nat) (xs : List Int) (t : Int) (w : World) (hx : SI w A n xs) (hn : n ≤ 9223372036854775807) :
    Calls Try.prog 150 #[.slice A n c, .int .i64 t] w fun e w' => e = .returned (.bool (hasB xs t)) ∧ w = w' := by
  go_enter Try.func150, Try.ntmps150
  go_wp2
  go_loop [5] (fun i => ∃ k : Nat, k ≤ n ∧ i = .int .i64 k ∧ Hid (¬ t ∈ xs.take k)) (fun i => n - (intOf i).toNat)
  case atStart => exact ⟨0, by omega, rfl, by simp [Hid]⟩
  case round =>
    obtain ⟨k, hk, rfl, he⟩ := hrel
    by_cases hlt : k < n
    · obtain ⟨b, off, rfl, _, hc⟩ := hx.at_ hlt
      go_wp2
      · go_ret
        exact ⟨ret_bool (hasB_at hlt hx.len (by assumption)), rfl⟩
      · exact ⟨⟨k + 1, by omega, by go_num, hasB_next hlt hx.len (by assumption) he.out⟩, by simp [intOf]; omega⟩
    · go_wp2
      go_ret
      exact ⟨ret_bool (hasB_end (by omega) hx.len he.out), rfl⟩

def risesInB (xs : List Int) (lo hi : Int) : Bool := allIn xs lo hi && risesB xs
/-- After k rounds all is well so far. -/
def risesTo (xs : List Int) (lo hi : Int) (k : Nat) : Prop := allIn (xs.take k) lo hi = true ∧ (xs.take k).Pairwise (· < ·)
theorem risesTo_out {xs : List Int} {lo hi : Int} {k n : Nat} (hk : k < n) (hl : xs.length = n) (h : inB (xs[k]'(by omega)) lo hi = false) : false = risesInB xs lo hi := by
  have := allIn_at hk hl (lo := lo) (hi := hi) (by simpa using h)
  unfold risesInB; rw [← this]; rfl
theorem risesTo_not {xs : List Int} {lo hi : Int} {k n : Nat} (hk : k < n) (hl : xs.length = n) (h0 : 1 ≤ k) (hge : xs[k]'(by omega) ≤ xs[k - 1]'(by omega)) : false = risesInB xs lo hi := by
  have := rises_not h0 (by omega) hge
  unfold risesInB; rw [← this]; simp
theorem risesTo_first {xs : List Int} {lo hi : Int} {n : Nat} (hk : 0 < n) (hl : xs.length = n) (h : inB (xs[0]'(by omega)) lo hi = true) : risesTo xs lo hi (0 + 1) := by
  rcases xs with _ | ⟨x, r⟩
  · simp at hl; omega
  · exact ⟨by simpa [allIn] using h, by simp⟩
theorem risesTo_next {xs : List Int} {lo hi : Int} {k n : Nat} (hk : k < n) (hl : xs.length = n) (h : inB (xs[k]'(by omega)) lo hi = true) (h0 : 1 ≤ k) (hlt : xs[k - 1]'(by omega) < xs[k]'(by omega)) (he : risesTo xs lo hi k) : risesTo xs lo hi (k + 1) :=
  ⟨allIn_next hk hl (by simpa using h) he.1, rises_next he.2 h0 (by omega) hlt⟩
theorem risesTo_end {xs : List Int} {lo hi : Int} {k n : Nat} (hk : n ≤ k) (hl : xs.length = n) (he : risesTo xs lo hi k) : true = risesInB xs lo hi := by
  unfold risesInB; rw [← allIn_end hk hl he.1, ← rises_end hk hl he.2]; rfl

set_option maxHeartbeats 1000000 in
theorem l00Rises_any (A : Option Addr) (n c : Nat) (xs : List Int) (lo hi : Int) (w : World) (hx : SI w A n xs) (hn : n ≤ 9223372036854775800) :
    Calls Try.prog 190 #[.slice A n c, .int .i64 lo, .int .i64 hi] w fun e w' => e = .returned (.bool (risesInB xs lo hi)) ∧ ∃ q, w' = w.drewN q := by
  go_enter Try.func190, Try.ntmps190
  go_wp2
  go_loopw [7] (fun i wr => ∃ k q : Nat, k ≤ n ∧ i = .int .i64 k ∧ Hid (risesTo xs lo hi k) ∧ wr = w.drewN q) (fun i _ => n - (intOf i).toNat)
  case atStart => exact ⟨0, 0, by omega, rfl, by simp [Hid, risesTo, allIn], rfl⟩
  case round =>
    obtain ⟨k, q, hk, rfl, he, rfl⟩ := hrel
    by_cases hlt : k < n
    · obtain ⟨b, off, rfl, _, hc⟩ := hx.at_ hlt
      have HXL := Lib.hid hx.len
      cases hin : inB (xs[k]'(by have := HXL.out; omega)) lo hi
      · have HIN := Lib.hid hin
        clear hin
        go_wp2
        go_quiet ((go_at_call 82; exact quiet_add_left (l00In_is HIN.out _)))
        go_wp2
        go_ret
        exact ⟨ret_bool (risesTo_out hlt HXL.out HIN.out), _, World.drewN_drewN _ _ _⟩
      · have HIN := Lib.hid hin
        clear hin
        by_cases hk0 : k = 0
        · subst hk0
          have g0 : decide ((0 : Int) < ((0 : Nat) : Int)) = false := by decide
          rw [Nat.add_zero] at hc
          go_wp2
          go_quiet ((go_at_call 82; exact quiet_add_left (l00In_is HIN.out _)))
          go_wp2
          exact ⟨⟨0 + 1, _, by omega, rfl, risesTo_first hlt HXL.out HIN.out, rfl⟩, by simp [intOf]; omega⟩
        · have g0 : 0 < k := by omega
          obtain ⟨b', off', he', _, hc'⟩ := hx.at_ (k := k - 1) (by omega)
          simp only [Option.some.injEq, Addr.mk.injEq, and_true] at he'
          obtain ⟨rfl, rfl⟩ := he'
          have i1 : (0 : Int) ≤ (k : Int) - 1 := by omega
          have i2 : ((k : Int) - 1).toNat = k - 1 := by omega
          go_wp2
          go_quiet ((go_at_call 82; exact quiet_add_left (l00In_is HIN.out _)))
          clear i2
          go_wp2
          · go_ret
            exact ⟨ret_bool (risesTo_not hlt HXL.out (by omega) (by assumption)), _, World.drewN_drewN _ _ _⟩
          · exact ⟨⟨k + 1, _, by omega, by go_num, risesTo_next hlt HXL.out HIN.out (by omega) (by omega) he.out, rfl⟩, by simp [intOf]; omega⟩
    · go_wp2
      go_ret
      exact ⟨ret_bool (risesTo_end (by omega) hx.len he.out), _, rfl⟩
theorem l00Rises_is {xs : List Int} {lo hi : Int} {b : Bool} (h : risesInB xs lo hi = b) (A : Option Addr) (n c : Nat) (w : World) (hx : SI w A n xs) (hn : n ≤ 9223372036854775800) :
    Calls Try.prog 190 #[.slice A n c, .int .i64 lo, .int .i64 hi] w fun e w' => e = .returned (.bool b) ∧ ∃ q, w' = w.drewN q := h ▸ l00Rises_any A n c xs lo hi w hx hn
end Go.Proofs.Ythipbeggaeogcaa
