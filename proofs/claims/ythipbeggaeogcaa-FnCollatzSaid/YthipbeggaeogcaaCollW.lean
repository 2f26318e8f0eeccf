/-
  The law of the Collatz numbers, in plain words. No program is in sight.
-/
import Derived.Test.YthipbeggaeogcaaCollZ
namespace Go.Proofs.Ythipbeggaeogcaa
open Go.RowKit

def collOkB (n : Nat) : Bool := match collSys.run 6000 (zeros n) with
  | some i => collSys.halt (collSys.it (zeros n) i)
  | none => false
theorem coll_small : ((List.range 8).all fun k => collOkB (k + 1)) = true := by decide +kernel
theorem zlens_mem {s : Sys (List Int)} {c : List Int} {x : Int} : ∀ {i : Nat}, x ∈ zlens s c i → ∃ j, j < i ∧ x = ((s.it c j).length : Int) := by
  intro i
  induction i with
  | zero => intro h; simp [zlens] at h
  | succ i ih =>
    intro h
    rw [zlens] at h
    split at h
    · rcases List.mem_append.1 h with h | h
      · obtain ⟨j, hj, e⟩ := ih h; exact ⟨j, by omega, e⟩
      · simp at h; exact ⟨i, by omega, h⟩
    · obtain ⟨j, hj, e⟩ := ih h; exact ⟨j, by omega, e⟩
theorem Sys.run_end {σ : Type} {s : Sys σ} : ∀ {N : Nat} {c : σ} {i : Nat}, s.run N c = some i → s.Ended c N i := by
  intro N c i h
  refine ⟨Sys.run_le h, Sys.run_alive h, ?_⟩
  revert c i
  induction N with
  | zero => intro c i h; unfold Sys.run at h; cases h; exact .inl rfl
  | succ N ih =>
    intro c i h
    unfold Sys.run at h
    split at h
    · cases h; exact .inr (by assumption)
    · split at h
      · cases h3 : s.run N (s.next c) with
        | none => rw [h3] at h; cases h
        | some j =>
          rw [h3] at h
          obtain rfl : j + 1 = i := by simpa using h
          rcases ih h3 with h4 | h4
          · exact .inl (by omega)
          · exact .inr (by rw [← Sys.it_shift]; exact h4)
      · cases h
theorem coll_law {n : Nat} (h1 : 1 ≤ n) (h2 : n ≤ 30) : (collF (n : Int) 6000 = ([], 5) ∧ 8 < n) ∨ ∃ l, collF (n : Int) 6000 = (l, 0) ∧ l.head? = some (n : Int) ∧ l.getLast? = some 1 ∧ Chain12 l ∧ (∀ x ∈ l, 0 ≤ x ∧ x ≤ 1000) ∧ l.length ≤ 6001 := by
  have hin : inB (n : Int) 1 1000 = true := (inB_iff _ _ _).2 ⟨by omega, by omega⟩
  have hbu : inB ((6000 : Nat) : Int) 1 20000 = true := by decide
  have small : n ≤ 8 → collOkB n = true := fun h => by
    have := List.all_eq_true.1 coll_small (n - 1) (by simp; omega)
    rwa [show n - 1 + 1 = n from by omega] at this
  have bad : collOkB n = false → 8 < n := fun h => by
    rcases Nat.lt_or_ge 8 n with h8 | h8
    · exact h8
    · rw [small h8] at h; cases h
  cases hr : collSys.run 6000 (zeros n) with
  | none =>
    refine .inl ⟨?_, bad (by unfold collOkB; rw [hr])⟩
    unfold collF
    rw [hin, show (6000 : Int) = ((6000 : Nat) : Int) from rfl, hbu, Int.toNat_natCast, Int.toNat_natCast, hr]; simp
  | some i =>
    have he := Sys.run_end hr
    cases hh : collSys.halt (collSys.it (zeros n) i) with
    | false => exact .inl ⟨collF_runs hin hbu he hh, bad (by unfold collOkB; rw [hr]; exact hh)⟩
    | true =>
      have h7 : i + 1 ≤ 6001 := Nat.succ_le_succ (Sys.run_le hr)
      obtain ⟨q1, q2, q3⟩ := coll_chain i n h1 he.2.1 hh
      refine .inr ⟨_, collF_halt hin hbu he hh, q1, q2, q3, fun x hx => ?_, Nat.le_trans (zlens_le _ _ _) h7⟩
      obtain ⟨j, hj, rfl⟩ := zlens_mem hx
      have hg := tagAlive_good (coll_code hin) (i := j) (fun k hk => he.2.1 k (by omega))
      have : (collSys.it (zeros n) j).length ≤ 1000 := (tagCode_parts hg).2.2.2.1
      omega

end Go.Proofs.Ythipbeggaeogcaa
