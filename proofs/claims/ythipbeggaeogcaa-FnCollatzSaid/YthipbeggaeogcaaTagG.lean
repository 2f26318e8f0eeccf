/-
  A tag system as a system that makes steps. No program is in sight.
-/
import Derived.Test.YthipbeggaeogcaaTagK0
import Derived.Test.YthipbeggaeogcaaSys
namespace Go.Proofs.Ythipbeggaeogcaa
open Go.RowKit

def tagWordOf (words : List (List Int)) (xs : List Int) : List Int := words.getD (xs.headD 0).toNat []
def tagSys (d : Int) (words : List (List Int)) (hs : List Int) : Sys (List Int) := ⟨haltsB d hs, fun xs => (xs ++ tagWordOf words xs).drop d.toNat, fun xs => decide ((xs ++ tagWordOf words xs).length ≤ 1000)⟩
theorem tagCode_zero {d : Int} {words : List (List Int)} {hs xs : List Int} : tagCodeF d words hs xs = 0 ↔ validTagB d words hs = true ∧ tagWordB xs words.length = true := by
  unfold tagCodeF
  split
  · rename_i h; simp only [Bool.and_eq_true] at h; simp [h]
  · rename_i h; simp only [Bool.and_eq_true] at h; constructor
    · intro h1; cases h1
    · intro h1; exact absurd h1 h
theorem tagNext_good {d : Int} {words : List (List Int)} {hs xs : List Int} (h : tagCodeF d words hs xs = 0) (hr : (tagSys d words hs).room xs = true) : tagCodeF d words hs ((tagSys d words hs).next xs) = 0 := by
  rw [tagCode_zero] at h ⊢
  obtain ⟨h1, h2⟩ := h
  refine ⟨h1, ?_⟩
  have hl : (xs ++ tagWordOf words xs).length ≤ 1000 := by simpa [tagSys] using hr
  show tagWordB ((xs ++ tagWordOf words xs).drop d.toNat) words.length = true
  unfold tagWordB allIn at h2 ⊢
  simp only [Bool.and_eq_true, decide_eq_true_eq, List.all_eq_true] at h2 ⊢
  refine ⟨by rw [List.length_drop]; omega, fun x hx => ?_⟩
  rcases List.mem_append.1 (List.mem_of_mem_drop hx) with hx | hx
  · exact h2.2 x hx
  · unfold tagWordOf at hx
    have hw : ∀ v ∈ words, tagWordB v words.length = true := by
      unfold validTagB wordsB at h1
      simp only [Bool.and_eq_true, List.all_eq_true] at h1
      exact h1.1.1.2
    by_cases hlt : (xs.headD 0).toNat < words.length
    · rw [List.getD_eq_getElem?_getD, List.getElem?_eq_getElem hlt] at hx
      have h3 := hw _ (List.getElem_mem hlt)
      unfold tagWordB allIn at h3
      simp only [Bool.and_eq_true, List.all_eq_true] at h3
      exact h3.2 x hx
    · rw [List.getD_eq_getElem?_getD, List.getElem?_eq_none (by omega)] at hx
      simp at hx
theorem tagAlive_good {d : Int} {words : List (List Int)} {hs xs : List Int} (h : tagCodeF d words hs xs = 0) : ∀ {i : Nat}, (tagSys d words hs).Alive xs i → tagCodeF d words hs ((tagSys d words hs).it xs i) = 0 := by
  intro i
  induction i with
  | zero => intro _; exact h
  | succ i ih => intro ha; exact tagNext_good (ih (fun j hj => ha j (by omega))) (ha i (by omega)).2
/-- What RunTag returns. -/
def runTagF (d : Int) (words : List (List Int)) (hs xs : List Int) (b : Int) : List Int × Int × Bool × Int :=
  if tagCodeF d words hs xs = 0 then
    if inB b 1 20000 then
      match (tagSys d words hs).run b.toNat xs with
      | some i => ((tagSys d words hs).it xs i, (i : Int), haltsB d hs ((tagSys d words hs).it xs i), 0)
      | none => ([], 0, false, 5)
    else ([], 0, false, 2)
  else ([], 0, false, 1)
end Go.Proofs.Ythipbeggaeogcaa
