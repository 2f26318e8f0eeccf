/-
  The tag system of Collatz numbers: from a word of zeros to the next. No program is in sight.
-/
import Derived.Test.YthipbeggaeogcaaCollP
namespace Go.Proofs.Ythipbeggaeogcaa
open Go.RowKit

def pairs12 : Nat → List Int
  | 0 => []
  | n + 1 => 1 :: 2 :: pairs12 n
theorem pairs12_snoc (n : Nat) : pairs12 n ++ [1, 2] = pairs12 (n + 1) := by
  induction n with
  | zero => rfl
  | succ n ih => show 1 :: 2 :: (pairs12 n ++ [1, 2]) = _; rw [ih]; rfl
theorem zeros_snoc (n k : Nat) : zeros n ++ zeros k = zeros (n + k) := by simp [zeros]
theorem zeros_cons (n : Nat) : zeros (n + 1) = 0 :: zeros n := rfl
theorem coll_next0 (w : List Int) : collSys.next (0 :: 0 :: w) = w ++ [1, 2] := by
  show ((0 :: 0 :: w) ++ tagWordOf collWords (0 :: 0 :: w)).drop 2 = _
  rfl
theorem coll_next01 (w : List Int) (y : Int) : collSys.next (0 :: y :: w) = w ++ [1, 2] := rfl
theorem coll_next1 (w : List Int) (y : Int) : collSys.next (1 :: y :: w) = w ++ [0] := rfl
theorem coll_next2 (w : List Int) (y : Int) : collSys.next (2 :: y :: w) = w ++ [0, 0, 0] := rfl
theorem coll_it_succ (c : List Int) (i : Nat) : collSys.it c (i + 1) = collSys.next (collSys.it c i) := rfl
/-- The first steps, away from zeros. -/
theorem coll_phase1 (m r : Nat) : ∀ j, j ≤ m → collSys.it (zeros (2 * m + r)) j = zeros (2 * (m - j) + r) ++ pairs12 j := by
  intro j
  induction j with
  | zero => intro _; simp [Sys.it, pairs12]
  | succ j ih =>
    intro hj
    rw [coll_it_succ, ih (by omega), show 2 * (m - j) + r = (2 * (m - (j + 1)) + r) + 1 + 1 from by omega, zeros_cons, zeros_cons]
    show collSys.next (0 :: 0 :: (zeros _ ++ pairs12 j)) = _
    rw [coll_next0, List.append_assoc, pairs12_snoc]
theorem coll_phase2 (m : Nat) : ∀ j, j ≤ m → collSys.it (pairs12 m) j = pairs12 (m - j) ++ zeros j := by
  intro j
  induction j with
  | zero => intro _; simp [Sys.it, zeros]
  | succ j ih =>
    intro hj
    rw [coll_it_succ, ih (by omega), show m - j = (m - (j + 1)) + 1 from by omega]
    show collSys.next (1 :: 2 :: (pairs12 _ ++ zeros j)) = _
    rw [coll_next1, List.append_assoc, show ([0] : List Int) = zeros 1 from rfl, zeros_snoc]
theorem coll_phase3 (m : Nat) : ∀ j, j ≤ m → collSys.it (2 :: pairs12 m) j = 2 :: (pairs12 (m - j) ++ zeros (3 * j)) := by
  intro j
  induction j with
  | zero => intro _; simp [Sys.it, zeros]
  | succ j ih =>
    intro hj
    rw [coll_it_succ, ih (by omega), show m - j = (m - (j + 1)) + 1 from by omega]
    show collSys.next (2 :: 1 :: (2 :: (pairs12 _ ++ zeros (3 * j)))) = _
    rw [coll_next2]
    show 2 :: ((pairs12 _ ++ zeros (3 * j)) ++ [0, 0, 0]) = _
    rw [List.append_assoc, show ([0, 0, 0] : List Int) = zeros 3 from rfl, zeros_snoc, Nat.mul_succ]
/-- The number behind n, and after how many steps. -/
def colN (n : Nat) : Nat := if n % 2 = 0 then n / 2 else (3 * n + 1) / 2
def colT (n : Nat) : Nat := if n % 2 = 0 then n else n + 1
theorem zeroB_mem {xs : List Int} {y : Int} (h : y ∈ xs) (hy : y ≠ 0) : zeroB xs = false := by
  unfold zeroB allIn
  rw [List.all_eq_false]
  refine ⟨y, h, ?_⟩
  unfold inB
  simp; omega
theorem zeroB_zeros (n : Nat) : zeroB (zeros n) = true := by unfold zeroB allIn zeros inB; simp
theorem pairs12_len (n : Nat) : (pairs12 n).length = 2 * n := by
  induction n with
  | zero => rfl
  | succ n ih => show (pairs12 n).length + 1 + 1 = _; omega
theorem one_mem {n : Nat} (h : 1 ≤ n) : (1 : Int) ∈ pairs12 n := by
  cases n with
  | zero => omega
  | succ n => simp [pairs12]
/-- From one word of zeros to the next. -/
theorem coll_seg {n : Nat} (hn : 2 ≤ n) : collSys.it (zeros n) (colT n) = zeros (colN n) ∧ ∀ j, j < colT n → (1 ≤ j → zeroB (collSys.it (zeros n) j) = false) ∧ 2 ≤ (collSys.it (zeros n) j).length := by
  by_cases he : n % 2 = 0
  · obtain ⟨m, rfl⟩ : ∃ m, n = 2 * m + 0 := ⟨n / 2, by omega⟩
    have p1 := coll_phase1 m 0
    have h1 : collSys.it (zeros (2 * m + 0)) m = pairs12 m := by rw [p1 m (Nat.le_refl _)]; simp [zeros]
    have p2 : ∀ j, j ≤ m → collSys.it (zeros (2 * m + 0)) (m + j) = pairs12 (m - j) ++ zeros j := fun j hj => by rw [← Sys.it_add, h1, coll_phase2 m j hj]
    unfold colT colN
    rw [if_pos he, if_pos he]
    refine ⟨?_, fun j hj => ?_⟩
    · rw [show 2 * m + 0 = m + m from by omega, show (m + m) / 2 = m from by omega]
      have := p2 m (Nat.le_refl _)
      rw [show 2 * m + 0 = m + m from by omega] at this
      rw [this]; simp [pairs12]
    · by_cases hjm : j ≤ m
      · rw [p1 j hjm]
        refine ⟨fun h => zeroB_mem (List.mem_append_right _ (one_mem h)) (by decide), ?_⟩
        rw [List.length_append, zeros_len, pairs12_len]; omega
      · obtain ⟨t, rfl⟩ : ∃ t, j = m + t := ⟨j - m, by omega⟩
        rw [p2 t (by omega)]
        refine ⟨fun _ => zeroB_mem (List.mem_append_left _ (one_mem (by omega))) (by decide), ?_⟩
        rw [List.length_append, zeros_len, pairs12_len]; omega
  · obtain ⟨m, rfl⟩ : ∃ m, n = 2 * m + 1 := ⟨n / 2, by omega⟩
    have hm : 1 ≤ m := by omega
    have p1 := coll_phase1 m 1
    have h1 : collSys.it (zeros (2 * m + 1)) (m + 1) = 2 :: pairs12 m := by
      rw [coll_it_succ, p1 m (Nat.le_refl _)]
      obtain ⟨k, rfl⟩ : ∃ k, m = k + 1 := ⟨m - 1, by omega⟩
      rw [show 2 * (k + 1 - (k + 1)) + 1 = 0 + 1 from by omega, zeros_cons]
      show collSys.next (0 :: 1 :: (2 :: pairs12 k)) = _
      rw [coll_next01]
      show 2 :: (pairs12 k ++ [1, 2]) = _
      rw [pairs12_snoc]
    have p2 : ∀ j, j ≤ m → collSys.it (zeros (2 * m + 1)) (m + 1 + j) = 2 :: (pairs12 (m - j) ++ zeros (3 * j)) := fun j hj => by rw [← Sys.it_add, h1, coll_phase3 m j hj]
    unfold colT colN
    rw [if_neg he, if_neg he]
    refine ⟨?_, fun j hj => ?_⟩
    · rw [show 2 * m + 1 + 1 = (m + 1 + m) + 1 from by omega, coll_it_succ, p2 m (Nat.le_refl _), show (3 * (2 * m + 1) + 1) / 2 = 3 * m + 2 from by omega]
      obtain ⟨k, rfl⟩ : ∃ k, m = k + 1 := ⟨m - 1, by omega⟩
      rw [Nat.sub_self, show 3 * (k + 1) = (3 * k + 2) + 1 from by omega, zeros_cons]
      show collSys.next (2 :: 0 :: zeros (3 * k + 2)) = _
      rw [coll_next2, show ([0, 0, 0] : List Int) = zeros 3 from rfl, zeros_snoc]
    · by_cases hjm : j ≤ m
      · rw [p1 j hjm]
        refine ⟨fun h => zeroB_mem (List.mem_append_right _ (one_mem h)) (by decide), ?_⟩
        rw [List.length_append, zeros_len, pairs12_len]; omega
      · obtain ⟨t, rfl⟩ : ∃ t, j = m + 1 + t := ⟨j - m - 1, by omega⟩
        rw [p2 t (by omega)]
        refine ⟨fun _ => zeroB_mem (y := 2) (by simp) (by decide), ?_⟩
        rw [List.length_cons, List.length_append, zeros_len, pairs12_len]; omega

theorem zlens_add (s : Sys (List Int)) (c : List Int) (a b : Nat) : zlens s c (a + b) = zlens s c a ++ zlens s (s.it c a) b := by
  induction b with
  | zero => simp [zlens]
  | succ b ih =>
    rw [← Nat.add_assoc, zlens, zlens, Sys.it_add, ih]
    split <;> simp
theorem zlens_seg {n : Nat} (hn : 2 ≤ n) : ∀ {j : Nat}, j < colT n → zlens collSys (zeros n) (j + 1) = [(n : Int)] := by
  intro j
  induction j with
  | zero => intro _; rw [zlens_yes (by exact zeroB_zeros n)]; simp [zlens, Sys.it, zeros_len]
  | succ j ih => intro hj; rw [zlens_no ((coll_seg hn).2 (j + 1) hj |>.1 (by omega)), ih (by omega)]
/-- Each number is followed by the next one. -/
def Chain12 (l : List Int) : Prop := ∀ k, ∀ x y, l[k]? = some x → l[k + 1]? = some y → y = (if x % 2 = 1 then 3 * x + 1 else x) / 2
theorem coll_chain : ∀ i n : Nat, 1 ≤ n → collSys.Alive (zeros n) i → collSys.halt (collSys.it (zeros n) i) = true → (zlens collSys (zeros n) (i + 1)).head? = some (n : Int) ∧ (zlens collSys (zeros n) (i + 1)).getLast? = some 1 ∧ Chain12 (zlens collSys (zeros n) (i + 1)) := by
  intro i
  induction i using Nat.strongRecOn with
  | ind i ih =>
    intro n hn hal hh
    by_cases h1 : n = 1
    · subst h1
      have hi : i = 0 := by
        rcases Nat.eq_zero_or_pos i with h | h
        · exact h
        · have := (hal 0 h).1
          exact absurd this (by decide)
      subst hi
      refine ⟨by decide, by decide, ?_⟩
      intro k x y h1 h2
      have : zlens collSys (zeros 1) (0 + 1) = [1] := by decide
      rw [this] at h2
      simp at h2
    · have h2 : 2 ≤ n := by omega
      obtain ⟨s1, s2⟩ := coll_seg h2
      have hT : colT n ≤ i := by
        rcases Nat.lt_or_ge i (colT n) with h | h
        · have h3 := (s2 i h).2
          rw [coll_halt _ (by omega)] at hh
          simp at hh
          omega
        · exact h
      have hTp : 1 ≤ colT n := by unfold colT; split <;> omega
      obtain ⟨j, rfl⟩ : ∃ j, i = colT n + j := ⟨i - colT n, by omega⟩
      have hm1 : 1 ≤ colN n := by unfold colN; split <;> omega
      have hal2 : collSys.Alive (zeros (colN n)) j := fun t ht => by
        have := hal (colT n + t) (by omega)
        rw [← Sys.it_add, s1] at this
        exact this
      have hh2 : collSys.halt (collSys.it (zeros (colN n)) j) = true := by rw [← Sys.it_add, s1] at hh; exact hh
      obtain ⟨q1, q2, q3⟩ := ih j (by omega) (colN n) hm1 hal2 hh2
      have e1 : zlens collSys (zeros n) (colT n + j + 1) = (n : Int) :: zlens collSys (zeros (colN n)) (j + 1) := by
        rw [Nat.add_assoc, zlens_add, s1]
        obtain ⟨t, ht⟩ : ∃ t, colT n = t + 1 := ⟨colT n - 1, by omega⟩
        have := zlens_seg h2 (j := t) (by omega)
        rw [ht, this]; rfl
      rw [e1]
      refine ⟨by simp, ?_, ?_⟩
      · rw [List.getLast?_cons, q2]; rfl
      · intro k x y hx hy
        cases k with
        | zero =>
          simp at hx hy
          subst hx
          rw [List.head?_eq_getElem?] at q1
          rw [q1] at hy
          simp only [Option.some.injEq] at hy
          subst hy
          unfold colN
          split <;> split <;> omega
        | succ k => exact q3 k x y (by simpa using hx) (by simpa using hy)
end Go.Proofs.Ythipbeggaeogcaa
