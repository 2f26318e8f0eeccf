/-
  What CollatzNumbers returns; the tag system of Collatz; words of zeros.
-/
import Derived.Test.YthipbeggaeogcaaRunTagI
import Derived.Test.YthipbeggaeogcaaTraceTagP
namespace Go.Proofs.Ythipbeggaeogcaa
open Go.RowKit

def collWords : List (List Int) := [[1, 2], [0], [0, 0, 0]]
def collSys : Sys (List Int) := tagSys 2 collWords []
def zeros (n : Nat) : List Int := List.replicate n 0
theorem zeros_len (n : Nat) : (zeros n).length = n := by simp [zeros]
def zeroB (xs : List Int) : Bool := allIn xs 0 0
/-- The lengths of the words of zeros among the first i words. -/
def zlens (s : Sys (List Int)) (xs : List Int) : Nat → List Int
  | 0 => []
  | i + 1 => if zeroB (s.it xs i) = true then zlens s xs i ++ [((s.it xs i).length : Int)] else zlens s xs i
theorem zlens_le (s : Sys (List Int)) (xs : List Int) (i : Nat) : (zlens s xs i).length ≤ i := by
  induction i with
  | zero => simp [zlens]
  | succ i ih =>
    rw [zlens]
    split
    · rw [List.length_append]; simp only [List.length_cons, List.length_nil]; omega
    · omega
theorem zlens_yes {s : Sys (List Int)} {xs : List Int} {i : Nat} (h : zeroB (s.it xs i) = true) : zlens s xs (i + 1) = zlens s xs i ++ [((s.it xs i).length : Int)] := by rw [zlens, if_pos h]
theorem zlens_no {s : Sys (List Int)} {xs : List Int} {i : Nat} (h : zeroB (s.it xs i) = false) : zlens s xs (i + 1) = zlens s xs i := by rw [zlens, if_neg (by simp [h])]
def collF (n b : Int) : List Int × Int :=
  if inB n 1 1000 then
    if inB b 1 20000 then
      match collSys.run b.toNat (zeros n.toNat) with
      | some i => if collSys.halt (collSys.it (zeros n.toNat) i) then (zlens collSys (zeros n.toNat) (i + 1), 0) else ([], 5)
      | none => ([], 5)
    else ([], 2)
  else ([], 2)
theorem collF_n {n b : Int} (h : inB n 1 1000 = false) : collF n b = ([], 2) := by unfold collF; rw [h]; simp
theorem collF_b {n b : Int} (h : inB b 1 20000 = false) : collF n b = ([], 2) := by unfold collF; rw [h]; simp
theorem collF_halt {n N i : Nat} (h : inB (n : Int) 1 1000 = true) (h1 : inB (N : Int) 1 20000 = true) (h2 : collSys.Ended (zeros n) N i) (h3 : collSys.halt (collSys.it (zeros n) i) = true) : collF n N = (zlens collSys (zeros n) (i + 1), 0) := by
  unfold collF; rw [h, h1, Int.toNat_natCast, Int.toNat_natCast, Sys.run_ended h2]; simp [h3]
theorem collF_runs {n N i : Nat} (h : inB (n : Int) 1 1000 = true) (h1 : inB (N : Int) 1 20000 = true) (h2 : collSys.Ended (zeros n) N i) (h3 : collSys.halt (collSys.it (zeros n) i) = false) : collF n N = ([], 5) := by
  unfold collF; rw [h, h1, Int.toNat_natCast, Int.toNat_natCast, Sys.run_ended h2]; simp [h3]
theorem collF_full {n N i : Nat} (h : inB (n : Int) 1 1000 = true) (h1 : inB (N : Int) 1 20000 = true) (h2 : collSys.Full (zeros n) N i) : collF n N = ([], 5) := by
  unfold collF; rw [h, h1, Int.toNat_natCast, Int.toNat_natCast, Sys.run_full h2]; simp
theorem collF_len (n b : Int) : (collF n b).1.length ≤ 1048576 := by
  unfold collF
  split
  · split
    · rename_i h1 h2
      have hb := (inB_iff _ _ _).1 h2
      cases hi : collSys.run b.toNat (zeros n.toNat) with
      | none => simp
      | some i =>
        have h3 := Sys.run_le hi
        have h4 := zlens_le collSys (zeros n.toNat) (i + 1)
        dsimp only
        split
        · dsimp only; omega
        · simp
    · simp
  · simp
theorem coll_code {n : Nat} (h : inB (n : Int) 1 1000 = true) : tagCodeF 2 collWords [] (zeros n) = 0 := by
  rw [tagCode_zero]
  have hb := (inB_iff _ _ _).1 h
  refine ⟨by decide, ?_⟩
  unfold tagWordB allIn zeros
  simp [collWords, inB]
  omega
/-- No word of a run is empty. -/
theorem coll_pos {n i : Nat} (h : inB (n : Int) 1 1000 = true) (hal : collSys.Alive (zeros n) i) : 1 ≤ (collSys.it (zeros n) i).length := by
  have hb := (inB_iff _ _ _).1 h
  induction i with
  | zero => show 1 ≤ (zeros n).length; rw [zeros_len]; omega
  | succ i ih =>
    have hal' : collSys.Alive (zeros n) i := fun j hj => hal j (by omega)
    have hg : tagCodeF 2 collWords [] (collSys.it (zeros n) i) = 0 := tagAlive_good (coll_code h) hal'
    have hh := (hal i (by omega)).1
    have h2 : (2 : Int) ≤ (collSys.it (zeros n) i).length := haltsB_false hh
    have hx := (tagCode_parts hg).2.2.2.2.1
    generalize hxs : collSys.it (zeros n) i = xs at *
    have hnx : collSys.it (zeros n) (i + 1) = (xs ++ tagWordOf collWords xs).drop 2 := by
      show collSys.next (collSys.it (zeros n) i) = _
      rw [hxs]; rfl
    rw [hnx, List.length_drop, List.length_append]
    have hw : 1 ≤ (tagWordOf collWords xs).length := by
      obtain ⟨x0, h3, h4⟩ := head_letter (xs := xs) (n := 3) (by omega) (fun x hx' => by have := hx x hx'; simp [collWords] at this; omega)
      unfold tagWordOf
      rw [h4, Int.toNat_natCast]
      have : x0 = 0 ∨ x0 = 1 ∨ x0 = 2 := by omega
      rcases this with rfl | rfl | rfl <;> decide
    omega
theorem coll_halt (xs : List Int) (h : 1 ≤ xs.length) : collSys.halt xs = decide ((xs.length : Int) = 1) := by
  show haltsB 2 [] xs = _
  unfold haltsB
  simp only [List.not_mem_nil, decide_false, Bool.or_false, decide_eq_decide]
  omega
theorem made_zeros (n : Nat) : (madeCells (Value.int .i64 0).cells (n * 1)).toList = ints (zeros n) := by
  rw [made_ints n (zeros n) (zeros_len n)]
  congr 1
  unfold copied zeros
  simp
end Go.Proofs.Ythipbeggaeogcaa
