/-
  A cyclic tag system as a system that makes steps. No program is in sight.
-/
import Derived.Test.YthipbeggaeogcaaTagG
namespace Go.Proofs.Ythipbeggaeogcaa
open Go.RowKit

/-- A turn: the place in the words, the queue. -/
structure Tu where
  at_ : Int
  word : List Int
def validCyclB (words : List (List Int)) : Bool := inB words.length 1 400 && wordsB words 2
def validTurnB (words : List (List Int)) (x : Tu) : Bool := validCyclB words && inB x.at_ 0 ((words.length : Int) - 1) && tagWordB x.word 2
def cycWord (words : List (List Int)) (x : Tu) : List Int := if x.word.headD 0 = 1 then words.getD x.at_.toNat [] else []
def cycNext (words : List (List Int)) (x : Tu) : Tu := ⟨(x.at_ + 1).tmod words.length, x.word.tail ++ cycWord words x⟩
/-- Cyclic tag systems halt where the queue is empty. -/
def cycSys (words : List (List Int)) : Sys Tu := ⟨fun x => decide (x.word.length = 0), cycNext words, fun x => decide ((cycNext words x).word.length ≤ 1000)⟩

theorem validTurn_parts {words : List (List Int)} {x : Tu} (h : validTurnB words x = true) : 1 ≤ words.length ∧ words.length ≤ 400 ∧ (∀ v ∈ words, v.length ≤ 1000) ∧ 0 ≤ x.at_ ∧ x.at_ < words.length ∧ x.word.length ≤ 1000 ∧ (∀ y ∈ x.word, 0 ≤ y ∧ y < 2) := by
  unfold validTurnB validCyclB wordsB tagWordB allIn at h
  simp only [Bool.and_eq_true, List.all_eq_true, inB_iff, decide_eq_true_eq] at h
  obtain ⟨⟨⟨h1, h2⟩, h3⟩, h4, h5⟩ := h
  exact ⟨by omega, by omega, fun v hv => (h2 v hv).1, h3.1, by omega, h4, fun y hy => by have := h5 y hy; omega⟩
theorem cycNext_good {words : List (List Int)} {x : Tu} (h : validTurnB words x = true) (hr : (cycSys words).room x = true) : validTurnB words (cycNext words x) = true := by
  obtain ⟨h1, h2, h3, h4, h5, h6, h7⟩ := validTurn_parts h
  have hl : (cycNext words x).word.length ≤ 1000 := by simpa [cycSys] using hr
  unfold validTurnB at h ⊢
  simp only [Bool.and_eq_true] at h ⊢
  obtain ⟨⟨hc, ha⟩, hw⟩ := h
  refine ⟨⟨hc, ?_⟩, ?_⟩
  · rw [inB_iff]
    have h8 := Int.tmod_nonneg (words.length : Int) (show 0 ≤ x.at_ + 1 by omega)
    have h9 := Int.tmod_lt_of_pos (x.at_ + 1) (show (0 : Int) < words.length by omega)
    show 0 ≤ (x.at_ + 1).tmod words.length ∧ (x.at_ + 1).tmod words.length ≤ _
    omega
  · unfold tagWordB allIn at hw ⊢
    simp only [Bool.and_eq_true, decide_eq_true_eq, List.all_eq_true] at hw ⊢
    refine ⟨hl, fun y hy => ?_⟩
    rcases List.mem_append.1 hy with hy | hy
    · exact hw.2 y (List.mem_of_mem_tail hy)
    · unfold cycWord at hy
      split at hy
      · unfold validCyclB wordsB at hc
        simp only [Bool.and_eq_true, List.all_eq_true] at hc
        have hlt : x.at_.toNat < words.length := by omega
        rw [List.getD_eq_getElem?_getD, List.getElem?_eq_getElem hlt] at hy
        have h10 := hc.2 _ (List.getElem_mem hlt)
        unfold tagWordB allIn at h10
        simp only [Bool.and_eq_true, List.all_eq_true] at h10
        exact h10.2 y hy
      · simp at hy
theorem cycAlive_good {words : List (List Int)} {x : Tu} (h : validTurnB words x = true) : ∀ {i : Nat}, (cycSys words).Alive x i → validTurnB words ((cycSys words).it x i) = true := by
  intro i
  induction i with
  | zero => intro _; exact h
  | succ i ih => intro ha; exact cycNext_good (ih (fun j hj => ha j (by omega))) (ha i (by omega)).2
/-- What RunCyclic returns. -/
def runCycF (words : List (List Int)) (x : Tu) (b : Int) : Tu × Int × Bool × Int :=
  if validTurnB words x then
    if inB b 1 20000 then
      match (cycSys words).run b.toNat x with
      | some i => ((cycSys words).it x i, (i : Int), decide (((cycSys words).it x i).word.length = 0), 0)
      | none => (⟨0, []⟩, 0, false, 5)
    else (⟨0, []⟩, 0, false, 2)
  else (⟨0, []⟩, 0, false, 1)
end Go.Proofs.Ythipbeggaeogcaa
