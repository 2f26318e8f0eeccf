/-
  Slices of structs of three numbers.
-/
import Derived.Test.YtfheepjfpgiaoaaWords
namespace Go.Proofs.Ytfheepjfpgiaoaa
open Go.RowKit

/-- Three numbers. -/
structure R3 where
  a : Int
  b : Int
  c : Int
  deriving DecidableEq
def R3.cells (r : R3) : List Value := [.int .i64 r.a, .int .i64 r.b, .int .i64 r.c]
def cells3 (rs : List R3) : List Value := rs.flatMap R3.cells
theorem length_cells3 (rs : List R3) : (cells3 rs).length = rs.length * 3 := by
  induction rs with
  | nil => rfl
  | cons r rs ih => simp [cells3, R3.cells] at ih ⊢; omega
theorem cells3_get : ∀ (rs : List R3) (k : Nat) (r : R3), rs[k]? = some r → (cells3 rs)[k * 3]? = some (.int .i64 r.a) ∧ (cells3 rs)[k * 3 + 1]? = some (.int .i64 r.b) ∧ (cells3 rs)[k * 3 + 2]? = some (.int .i64 r.c)
  | [], k, r, h => by simp at h
  | s :: rs, 0, r, h => by simp at h; subst h; simp [cells3, R3.cells]
  | s :: rs, k + 1, r, h => by
    have ih := cells3_get rs k r (by simpa using h)
    have e : cells3 (s :: rs) = .int .i64 s.a :: .int .i64 s.b :: .int .i64 s.c :: cells3 rs := by simp [cells3, R3.cells]
    rw [e, show (k + 1) * 3 = k * 3 + 3 from by omega]
    simpa using ih
theorem cells3_one (rs : List R3) : ∀ u ∈ cells3 rs, u.oneCell' = true := by
  intro u hu
  simp [cells3, R3.cells] at hu
  obtain ⟨r, _, h | h | h⟩ := hu <;> subst h <;> rfl
theorem cells3_set : ∀ (rs : List R3) (k : Nat) (r : R3), k < rs.length → (((cells3 rs).set (k * 3) (.int .i64 r.a)).set (k * 3 + 1) (.int .i64 r.b)).set (k * 3 + 2) (.int .i64 r.c) = cells3 (rs.set k r)
  | [], k, r, h => by simp at h
  | s :: rs, 0, r, h => by simp [cells3, R3.cells]
  | s :: rs, k + 1, r, h => by
    have ih := cells3_set rs k r (by simpa using h)
    have e : cells3 (s :: rs) = .int .i64 s.a :: .int .i64 s.b :: .int .i64 s.c :: cells3 rs := by simp [cells3, R3.cells]
    have e2 : cells3 ((s :: rs).set (k + 1) r) = .int .i64 s.a :: .int .i64 s.b :: .int .i64 s.c :: cells3 (rs.set k r) := by simp [cells3, R3.cells]
    rw [e, e2, ← ih, show (k + 1) * 3 = k * 3 + 3 from by omega]
    simp
theorem cells3_append (xs ys : List R3) : cells3 xs ++ cells3 ys = cells3 (xs ++ ys) := by simp [cells3]

/-- A slice that reads as a list of triples. -/
def S3 (w : World) (A : Option Addr) (n : Nat) (rs : List R3) : Prop := Rd w 3 A n (cells3 rs)
section
variable {w w' : World} {A : Option Addr} {n : Nat} {rs : List R3}
theorem S3.len (h : S3 w A n rs) : rs.length = n := by have := h.1; rw [length_cells3] at this; omega
theorem S3.pick (h : S3 w A n rs) {k : Nat} (hk : k < n) : ∃ r b off, Hid (rs[k]? = some r) ∧ r ∈ rs ∧ A = some ⟨b, off, none⟩ ∧ b < w.heap.size ∧
    w.cell? ⟨b, off + k * 3, none⟩ = some (.int .i64 r.a) ∧ w.cell? ⟨b, off + k * 3 + 1, none⟩ = some (.int .i64 r.b) ∧ w.cell? ⟨b, off + k * 3 + 2, none⟩ = some (.int .i64 r.c) := by
  have hl := h.len
  have hr : rs[k]? = some (rs[k]'(by omega)) := List.getElem?_eq_getElem (by omega)
  obtain ⟨h0, h1, h2⟩ := cells3_get rs k _ hr
  obtain ⟨b, off, e, hc⟩ := h.2 (by rw [length_cells3]; omega)
  obtain ⟨l0, g0⟩ := List.getElem?_eq_some_iff.1 h0
  obtain ⟨l1, g1⟩ := List.getElem?_eq_some_iff.1 h1
  obtain ⟨l2, g2⟩ := List.getElem?_eq_some_iff.1 h2
  have k0 := hc _ l0
  have k1 := hc _ l1
  have k2 := hc _ l2
  rw [g0] at k0
  rw [g1] at k1
  rw [g2] at k2
  exact ⟨_, b, off, hr, List.getElem_mem _, e, World.block_lt_of_cell? w _ k0, k0, by rw [Nat.add_assoc]; exact k1, by rw [Nat.add_assoc]; exact k2⟩
theorem S3.below (h : S3 w A n rs) (hb : Below w.heap.size w w') : S3 w' A n rs := Rd.below h hb
theorem S3.drewN (h : S3 w A n rs) (k : Nat) : S3 (w.drewN k) A n rs := h
theorem S3.alloc (h : S3 w A n rs) (o : Obj) : S3 (w.alloc o) A n rs := Rd.alloc h o
end
/-- After k copies into a list of zeros. -/
def copied3 (rs : List R3) (k : Nat) : List R3 := rs.take k ++ List.replicate (rs.length - k) ⟨0, 0, 0⟩
theorem copied3_end (rs : List R3) {k : Nat} (h : rs.length ≤ k) : copied3 rs k = rs := by
  unfold copied3
  rw [List.take_of_length_le h, show rs.length - k = 0 from by omega]; simp
theorem length_copied3 (rs : List R3) (k : Nat) (h : k ≤ rs.length) : (copied3 rs k).length = rs.length := by simp [copied3]; omega
theorem copied3_next (rs : List R3) (k : Nat) (r : R3) (h : rs[k]? = some r) : (copied3 rs k).set k r = copied3 rs (k + 1) := by
  obtain ⟨hk, rfl⟩ := List.getElem?_eq_some_iff.1 h
  unfold copied3
  have e1 : (rs.take k).length = k := by simp; omega
  rw [List.set_append_right _ _ (by omega), e1, Nat.sub_self, List.take_succ_eq_append_getElem hk, show rs.length - k = (rs.length - (k + 1)) + 1 from by omega, List.replicate_succ]
  simp only [List.set_cons_zero, List.append_assoc, List.singleton_append]
theorem made_cells3 (n : Nat) (rs : List R3) (h : rs.length = n) : (madeCells (Value.agg #[.int .i64 0, .int .i64 0, .int .i64 0]).cells (n * 3)).toList = cells3 (copied3 rs 0) := by
  show (madeCells #[Value.int .i64 0, .int .i64 0, .int .i64 0] (n * 3)).toList = _
  have e : copied3 rs 0 = List.replicate n ⟨0, 0, 0⟩ := by simp [copied3, h]
  rw [e]
  apply List.ext_getElem?
  intro j
  by_cases hj : j < n * 3
  · obtain ⟨q, r, rfl, hr⟩ : ∃ q r, j = q * 3 + r ∧ r < 3 := ⟨j / 3, j % 3, by omega, by omega⟩
    have hq : (List.replicate n (⟨0, 0, 0⟩ : R3))[q]? = some ⟨0, 0, 0⟩ := by rw [List.getElem?_replicate, if_pos (by omega)]
    obtain ⟨h0, h1, h2⟩ := cells3_get _ q _ hq
    have hm : (q * 3 + r) % 3 = r := by omega
    match r, hr with
    | 0, _ => simp only [Nat.add_zero] at hj hm ⊢; rw [h0]; simp [madeCells, hj]
    | 1, _ => rw [h1]; simp [madeCells, hj, hm]
    | 2, _ => rw [h2]; simp [madeCells, hj, hm]
  · have hl : (cells3 (List.replicate n (⟨0, 0, 0⟩ : R3))).length = n * 3 := by rw [length_cells3]; simp
    rw [List.getElem?_eq_none (by simp [size_madeCells]; omega), List.getElem?_eq_none (by omega)]
def same3 (xs ys : List R3) : Bool := decide (xs = ys)
theorem same3_self (xs : List R3) : same3 xs xs = true := by simp [same3]
def sameR (x y : R3) : Bool := decide (x = y)
theorem same3_ne {xs ys : List R3} {x y : R3} {k : Nat} (hx : xs[k]? = some x) (hy : ys[k]? = some y) (h : (!sameR x y) = true) : false = same3 xs ys := by
  unfold same3; symm; rw [decide_eq_false_iff_not]; rintro rfl
  rw [hx] at hy
  simp at hy
  simp [sameR, hy] at h
theorem same3_len {xs ys : List R3} {n m : Nat} (h : ¬ n = m) (hx : xs.length = n) (hy : ys.length = m) : false = same3 xs ys := by
  unfold same3; symm; rw [decide_eq_false_iff_not]; rintro rfl; omega
theorem same3_eq {xs ys : List R3} {n k : Nat} (hk : n ≤ k) (hx : xs.length = n) (hy : ys.length = n) (h : xs.take k = ys.take k) : true = same3 xs ys := by
  rw [List.take_of_length_le (by omega), List.take_of_length_le (by omega)] at h
  unfold same3; symm; rw [decide_eq_true_iff]; exact h
theorem same3_next {xs ys : List R3} {x y : R3} {k : Nat} (hx : xs[k]? = some x) (hy : ys[k]? = some y) (h : xs.take k = ys.take k) (h1 : (!sameR x y) = false) : xs.take (k + 1) = ys.take (k + 1) := by
  obtain ⟨hk, rfl⟩ := List.getElem?_eq_some_iff.1 hx
  obtain ⟨hk', rfl⟩ := List.getElem?_eq_some_iff.1 hy
  rw [List.take_succ_eq_append_getElem hk, List.take_succ_eq_append_getElem hk', h]
  simp [sameR] at h1
  rw [h1]
end Go.Proofs.Ytfheepjfpgiaoaa
