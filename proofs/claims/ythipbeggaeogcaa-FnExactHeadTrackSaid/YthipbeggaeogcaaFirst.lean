/-
  The first row with a property. No program is in sight.
-/
import Derived.Test.YthipbeggaeogcaaWords
namespace Go.Proofs.Ythipbeggaeogcaa
open Go.RowKit

def firstB (p : List Int → Bool) (xss : List (List Int)) : Int := match xss.findIdx? p with | some k => k | none => -1
theorem firstB_at {p : List Int → Bool} {ts : List Sl} {t : Sl} {k : Nat} (hT : ts[k]? = some t) (h : p t.xs = true) (he : ((nums ts).take k).any p = false) : (k : Int) = firstB p (nums ts) := by
  unfold firstB
  obtain ⟨hk, rfl⟩ := List.getElem?_eq_some_iff.1 hT
  have : (nums ts).findIdx? p = some k := by
    rw [List.findIdx?_eq_some_iff_getElem]
    refine ⟨by simpa [nums] using hk, by simpa [nums] using h, fun j hj => ?_⟩
    rw [List.any_eq_false] at he
    have := he ((nums ts)[j]'(by simp [nums]; omega)) (by rw [List.mem_take_iff_getElem]; exact ⟨j, by simp [nums]; omega, rfl⟩)
    simpa using this
  rw [this]
theorem firstB_none {p : List Int → Bool} {ts : List Sl} {k n : Nat} (hk : n ≤ k) (hl : ts.length = n) (he : ((nums ts).take k).any p = false) : -1 = firstB p (nums ts) := by
  unfold firstB
  rw [List.take_of_length_le (by simp [nums]; omega)] at he
  have : (nums ts).findIdx? p = none := by
    rw [List.findIdx?_eq_none_iff]
    intro x hx
    rw [List.any_eq_false] at he
    simpa using he x hx
  rw [this]
theorem firstB_next {p : List Int → Bool} {ts : List Sl} {t : Sl} {k : Nat} (hT : ts[k]? = some t) (h : p t.xs = false) (he : ((nums ts).take k).any p = false) : ((nums ts).take (k + 1)).any p = false := by
  obtain ⟨hk, rfl⟩ := List.getElem?_eq_some_iff.1 hT
  rw [List.take_succ_eq_append_getElem (by simpa [nums] using hk), List.any_append, he]
  simpa [nums] using h
theorem firstB_ge (p : List Int → Bool) (xss : List (List Int)) : decide (0 ≤ firstB p xss) = xss.any p := by
  unfold firstB
  cases h : xss.findIdx? p with
  | some k =>
    obtain ⟨hk, hp, _⟩ := List.findIdx?_eq_some_iff_getElem.1 h
    have : xss.any p = true := List.any_eq_true.2 ⟨_, List.getElem_mem hk, hp⟩
    rw [this]; simp
  | none =>
    have : xss.any p = false := by rw [List.any_eq_false]; intro x hx; simpa using List.findIdx?_eq_none_iff.1 h x hx
    rw [this]; simp
end Go.Proofs.Ythipbeggaeogcaa
