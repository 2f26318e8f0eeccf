/-
  Systems that make steps: runs, how they end. No program is in sight.
-/
import Derived.Test.YthipbeggaeogcaaWords
namespace Go.Proofs.Ythipbeggaeogcaa

/-- A system: whether it halts, the next state, whether there is room for the step. -/
structure Sys (σ : Type) where
  halt : σ → Bool
  next : σ → σ
  room : σ → Bool
section
variable {σ : Type} (s : Sys σ)
def Sys.it (c : σ) : Nat → σ
  | 0 => c
  | i + 1 => s.next (Sys.it c i)
def Sys.Alive (c : σ) (i : Nat) : Prop := ∀ j, j < i → s.halt (s.it c j) = false ∧ s.room (s.it c j) = true
def Sys.Ended (c : σ) (N i : Nat) : Prop := i ≤ N ∧ s.Alive c i ∧ (i = N ∨ s.halt (s.it c i) = true)
def Sys.Full (c : σ) (N i : Nat) : Prop := i < N ∧ s.Alive c i ∧ s.halt (s.it c i) = false ∧ s.room (s.it c i) = false
def Sys.run : Nat → σ → Option Nat
  | 0, _ => some 0
  | N + 1, c => if s.halt c then some 0 else if s.room c then (Sys.run N (s.next c)).map (· + 1) else none
end
section
variable {σ : Type} {s : Sys σ} {c : σ} {i N : Nat}
theorem Sys.Alive.zero (s : Sys σ) (c : σ) : s.Alive c 0 := fun j h => absurd h (Nat.not_lt_zero j)
theorem Sys.Alive.step (h : s.Alive c i) (h1 : s.halt (s.it c i) = false) (h2 : s.room (s.it c i) = true) : s.Alive c (i + 1) := fun j hj => by
  by_cases e : j = i
  · subst e; exact ⟨h1, h2⟩
  · exact h j (by omega)
theorem Sys.it_shift (s : Sys σ) (c : σ) (i : Nat) : s.it (s.next c) i = s.it c (i + 1) := by
  induction i with
  | zero => rfl
  | succ i ih => show s.next (s.it (s.next c) i) = s.next (s.it c (i + 1)); rw [ih]
theorem Sys.it_add (s : Sys σ) (c : σ) (a b : Nat) : s.it (s.it c a) b = s.it c (a + b) := by
  induction b with
  | zero => rfl
  | succ b ih => show s.next (s.it (s.it c a) b) = s.next (s.it c (a + b)); rw [ih]
theorem Sys.Alive.shift (h : s.Alive c (i + 1)) : s.Alive (s.next c) i := fun j hj => by
  rw [Sys.it_shift]; exact h (j + 1) (by omega)
theorem Sys.Alive.cons (h1 : s.halt c = false) (h2 : s.room c = true) (h : s.Alive (s.next c) i) : s.Alive c (i + 1) := fun j hj => by
  cases j with
  | zero => exact ⟨h1, h2⟩
  | succ j => have h3 := h j (by omega); rw [Sys.it_shift] at h3; exact h3
theorem Sys.run_ended : ∀ {N : Nat} {c : σ} {i : Nat}, s.Ended c N i → s.run N c = some i := by
  intro N
  induction N with
  | zero =>
    rintro c i ⟨h1, _, _⟩
    obtain rfl : i = 0 := by omega
    rfl
  | succ N ih =>
    rintro c i ⟨h1, h2, h3⟩
    cases i with
    | zero =>
      rcases h3 with h3 | h3
      · cases h3
      · have h4 : s.halt c = true := h3
        unfold Sys.run; rw [if_pos h4]
    | succ i =>
      have h4 : s.halt c = false ∧ s.room c = true := h2 0 (by omega)
      have h5 := ih (c := s.next c) (i := i) ⟨by omega, h2.shift, by
        rcases h3 with h3 | h3
        · left; omega
        · right; rw [Sys.it_shift]; exact h3⟩
      unfold Sys.run
      rw [if_neg (by simp [h4.1]), if_pos h4.2, h5]; rfl
theorem Sys.run_full : ∀ {N : Nat} {c : σ} {i : Nat}, s.Full c N i → s.run N c = none := by
  intro N
  induction N with
  | zero => rintro c i ⟨h1, _⟩; omega
  | succ N ih =>
    rintro c i ⟨h1, h2, h3, h4⟩
    cases i with
    | zero =>
      have h5 : s.halt c = false := h3
      have h6 : s.room c = false := h4
      unfold Sys.run; rw [if_neg (by simp [h5]), if_neg (by simp [h6])]
    | succ i =>
      have h5 : s.halt c = false ∧ s.room c = true := h2 0 (by omega)
      have h6 := ih (c := s.next c) (i := i) ⟨by omega, h2.shift, by rw [Sys.it_shift]; exact h3, by rw [Sys.it_shift]; exact h4⟩
      unfold Sys.run
      rw [if_neg (by simp [h5.1]), if_pos h5.2, h6]; rfl
theorem Sys.run_alive : ∀ {N : Nat} {c : σ} {i : Nat}, s.run N c = some i → s.Alive c i := by
  intro N
  induction N with
  | zero => intro c i h; unfold Sys.run at h; cases h; exact Sys.Alive.zero _ _
  | succ N ih =>
    intro c i h
    unfold Sys.run at h
    split at h
    · cases h; exact Sys.Alive.zero _ _
    · rename_i h1
      split at h
      · rename_i h2
        cases h3 : s.run N (s.next c) with
        | none => rw [h3] at h; cases h
        | some j =>
          rw [h3] at h
          obtain rfl : j + 1 = i := by simpa using h
          exact (ih h3).cons (by simpa using h1) h2
      · cases h
end
end Go.Proofs.Ythipbeggaeogcaa
