/-
  What StepTag returns, in plain words.
-/
import Derived.Test.YthipbeggaeogcaaTagJ
namespace Go.Proofs.Ythipbeggaeogcaa
open Go.RowKit

/-- What a step of a tag system comes to. -/
def stepTagF (d : Int) (words : List (List Int)) (halting xs : List Int) : List Int × Int :=
  if tagCodeF d words halting xs ≠ 0 then ([], tagCodeF d words halting xs)
  else if haltsB d halting xs then ([], 6)
  else if (xs ++ words.getD (xs.headD 0).toNat []).length ≤ 1000 then ((xs ++ words.getD (xs.headD 0).toNat []).drop d.toNat, 0)
  else ([], 5)

theorem tagCode_parts {d : Int} {words : List (List Int)} {hs xs : List Int} (h : tagCodeF d words hs xs = 0) :
    1 ≤ d ∧ d ≤ 4 ∧ hs.Pairwise (· < ·) ∧ xs.length ≤ 1000 ∧ (∀ x ∈ xs, 0 ≤ x ∧ x < words.length) ∧ 1 ≤ words.length ∧ words.length ≤ 200 ∧ (∀ v ∈ words, v.length ≤ 1000) := by
  unfold tagCodeF at h
  split at h
  · rename_i hv
    simp only [Bool.and_eq_true, validTagB, tagWordB, wordsB, allIn, List.all_eq_true, inB_iff, decide_eq_true_eq, risesB] at hv
    obtain ⟨⟨⟨⟨⟨h1, h2⟩, h3⟩, h4⟩, h5⟩, h6, h7⟩ := hv
    exact ⟨h1.1, h1.2, h4, h6, fun x hx => by have := h7 x hx; omega, by omega, by omega, fun v hv => (h3 v hv).1⟩
  · cases h
theorem tagCode_01 (d : Int) (words : List (List Int)) (hs xs : List Int) : tagCodeF d words hs xs = 0 ∨ tagCodeF d words hs xs = 1 := by
  unfold tagCodeF; split <;> simp
theorem stepTag_bad {d : Int} {words : List (List Int)} {hs xs : List Int} (h : tagCodeF d words hs xs = 1) : stepTagF d words hs xs = ([], 1) := by
  unfold stepTagF; rw [h]; simp
theorem stepTag_halts {d : Int} {words : List (List Int)} {hs xs : List Int} (h : tagCodeF d words hs xs = 0) (h1 : haltsB d hs xs = true) : stepTagF d words hs xs = ([], 6) := by
  unfold stepTagF; rw [h, h1]; simp
theorem stepTag_steps {d : Int} {words : List (List Int)} {hs xs word : List Int} (h : tagCodeF d words hs xs = 0) (h1 : haltsB d hs xs = false) (hw : words.getD (xs.headD 0).toNat [] = word) :
    stepTagF d words hs xs = if (xs ++ word).length ≤ 1000 then ((xs ++ word).drop d.toNat, 0) else ([], 5) := by
  unfold stepTagF; rw [h, h1, hw]; simp
theorem head_letter {xs : List Int} {n : Nat} (h0 : 0 < xs.length) (h : ∀ x ∈ xs, 0 ≤ x ∧ x < (n : Int)) : ∃ x0 : Nat, x0 < n ∧ xs.headD 0 = (x0 : Int) := by
  rcases xs with _ | ⟨x, r⟩
  · simp at h0
  · have := h x (by simp)
    exact ⟨x.toNat, by omega, by simp; omega⟩
theorem haltsB_false {d : Int} {hs xs : List Int} (h : haltsB d hs xs = false) : d ≤ xs.length := by
  unfold haltsB at h; simp at h; omega

end Go.Proofs.Ythipbeggaeogcaa
