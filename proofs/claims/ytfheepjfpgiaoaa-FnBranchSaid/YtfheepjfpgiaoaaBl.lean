/-
  Words for slices of Bools, and for slices of such slices: read, owned, marked.
-/
import Derived.Test.YtfheepjfpgiaoaaBools
namespace Go.Proofs.Ytfheepjfpgiaoaa
open Go.RowKit

theorem bools_get (xs : List Bool) (k : Nat) (h : k < (bools xs).length) : (bools xs)[k] = .bool (xs[k]'(by rw [length_bools] at h; exact h)) := by simp [bools]
theorem SB.at_ {w : World} {A : Option Addr} {n : Nat} {xs : List Bool} (h : SB w A n xs) {k : Nat} (hk : k < n) : ∃ b off, A = some ⟨b, off, none⟩ ∧ b < w.heap.size ∧ w.cell? ⟨b, off + k, none⟩ = some (.bool (xs[k]'(by have := h.len; omega))) := by
  have hl := h.len
  obtain ⟨b, off, e, hlt, hc⟩ := Rd.at_ h (k := k) (by rw [length_bools]; omega)
  exact ⟨b, off, e, hlt, by rw [hc, bools_get]⟩
/-- Whether two lists are equal, as a value that the walk does not open. -/
def sameBo (xs ys : List Bool) : Bool := decide (xs = ys)
theorem sameBo_len {xs ys : List Bool} {n m : Nat} (h : ¬ n = m) (hx : xs.length = n) (hy : ys.length = m) : false = sameBo xs ys := by
  unfold sameBo; symm; rw [decide_eq_false_iff_not]; rintro rfl; omega
theorem sameBo_ne {xs ys : List Bool} {n k : Nat} (hk : k < n) (hx : xs.length = n) (hy : ys.length = n) (h : (xs[k]'(by omega) != ys[k]'(by omega)) = true) : false = sameBo xs ys := by
  unfold sameBo; symm; rw [decide_eq_false_iff_not]; rintro rfl; simp at h
theorem sameBo_eq {xs ys : List Bool} {n k : Nat} (hk : n ≤ k) (hx : xs.length = n) (hy : ys.length = n) (h : xs.take k = ys.take k) : true = sameBo xs ys := by
  rw [List.take_of_length_le (by omega), List.take_of_length_le (by omega)] at h
  unfold sameBo; symm; rw [decide_eq_true_iff]; exact h
theorem takeB_next {xs ys : List Bool} {n k : Nat} (hk : k < n) (hx : xs.length = n) (hy : ys.length = n) (h : xs.take k = ys.take k) (h1 : (xs[k]'(by omega) != ys[k]'(by omega)) = false) : xs.take (k + 1) = ys.take (k + 1) := by
  rw [List.take_succ_eq_append_getElem (by omega), List.take_succ_eq_append_getElem (by omega), h]
  simp at h1; rw [h1]
theorem sameBo_self (xs : List Bool) : sameBo xs xs = true := by simp [sameBo]
/-- After k copies into a list of zeros. -/
def copiedB (xs : List Bool) (k : Nat) : List Bool := xs.take k ++ List.replicate (xs.length - k) false
theorem copiedB_end (xs : List Bool) {k : Nat} (h : xs.length ≤ k) : copiedB xs k = xs := by
  unfold copiedB
  rw [List.take_of_length_le h, show xs.length - k = 0 from by omega]; simp
theorem length_copiedB (xs : List Bool) (k : Nat) (h : k ≤ xs.length) : (copiedB xs k).length = xs.length := by simp [copiedB]; omega
theorem copiedB_next (xs : List Bool) (k : Nat) (h : k < xs.length) : (copiedB xs k).set k xs[k] = copiedB xs (k + 1) := by
  unfold copiedB
  have e1 : (xs.take k).length = k := by simp; omega
  rw [List.set_append_right _ _ (by omega), e1, Nat.sub_self, List.take_succ_eq_append_getElem h, show xs.length - k = (xs.length - (k + 1)) + 1 from by omega, List.replicate_succ]
  simp only [List.set_cons_zero, List.append_assoc, List.singleton_append]
theorem made_boolsC (n : Nat) (xs : List Bool) (h : xs.length = n) : (madeCells (Value.bool false).cells (n * 1)).toList = bools (copiedB xs 0) := by
  rw [made_bools]; simp [copiedB, h]
/-- The marks of a list of Bools. -/
def markAt (m : Int) (k : Nat) : Bool := (m + (k : Int)) % 3 == 0
def marksB (m : Int) (n : Nat) : List Bool := (List.range n).map (markAt m)
theorem length_marksB (m : Int) (n : Nat) : (marksB m n).length = n := by simp [marksB]
/-- What 'held' gives: the number behind the last mark, or -1. -/
def heldBF (m : Int) (xs : List Bool) : Int := if xs = marksB m xs.length then m + xs.length else -1
theorem heldBF_marks (m : Int) (n : Nat) : heldBF m (marksB m n) = m + n := by simp [heldBF, length_marksB]
theorem marksB_get (m : Int) (n k : Nat) (h : k < (marksB m n).length) : (marksB m n)[k] = markAt m k := by simp [marksB]
theorem heldBF_ne {m : Int} {xs : List Bool} {n k : Nat} (hk : k < n) (hx : xs.length = n) (h : (xs[k]'(by omega) != markAt m k) = true) : -1 = heldBF m xs := by
  unfold heldBF
  rw [if_neg]
  intro he
  have h2 : xs[k]'(by omega) = (marksB m xs.length)[k]'(by rw [length_marksB]; omega) := by congr 1
  rw [marksB_get] at h2
  simp [h2] at h
theorem heldBF_eq {m : Int} {xs : List Bool} {n k : Nat} (hk : n ≤ k) (hx : xs.length = n) (h : xs.take k = (marksB m n).take k) (hkn : k ≤ n) : m + (k : Int) = heldBF m xs := by
  rw [List.take_of_length_le (by omega), List.take_of_length_le (by rw [length_marksB]; omega)] at h
  unfold heldBF
  rw [if_pos (by rw [hx]; exact h), hx]
  omega
theorem heldB_next {m : Int} {xs : List Bool} {n k : Nat} (hk : k < n) (hx : xs.length = n) (h : xs.take k = (marksB m n).take k) (h1 : (xs[k]'(by omega) != markAt m k) = false) : xs.take (k + 1) = (marksB m n).take (k + 1) := by
  rw [List.take_succ_eq_append_getElem (by omega), List.take_succ_eq_append_getElem (by rw [length_marksB]; omega), h, marksB_get]
  have h2 : xs[k]'(by omega) = markAt m k := by simpa using h1
  rw [h2]
/-- After k marks. -/
def markedB (m : Int) (xs : List Bool) (k : Nat) : List Bool := marksB m k ++ xs.drop k
theorem markedB_zero (m : Int) (xs : List Bool) : markedB m xs 0 = xs := by simp [markedB, marksB]
theorem markedB_end (m : Int) (xs : List Bool) : markedB m xs xs.length = marksB m xs.length := by simp [markedB]
theorem length_markedB (m : Int) (xs : List Bool) (k : Nat) (h : k ≤ xs.length) : (markedB m xs k).length = xs.length := by simp [markedB, length_marksB]; omega
theorem markedB_next (m : Int) (xs : List Bool) (k : Nat) (h : k < xs.length) : (markedB m xs k).set k (markAt m k) = markedB m xs (k + 1) := by
  have e1 : marksB m (k + 1) = marksB m k ++ [markAt m k] := by simp [marksB, List.range_succ]
  unfold markedB
  rw [List.set_append_right _ _ (by rw [length_marksB]; omega), length_marksB, Nat.sub_self, e1, List.drop_eq_getElem_cons h]
  simp only [List.set_cons_zero, List.append_assoc, List.singleton_append]
/-- Owned, or empty (then nothing is said). -/
def OwnBo (w : World) (lo : Nat) (e : TypeId) (A : Option Addr) (n c : Nat) (xs : List Bool) : Prop := (n = 0 ∧ xs = []) ∨ Own w lo e 1 A n c (bools xs)
theorem OwnBo.si {w : World} {lo n c : Nat} {e : TypeId} {A : Option Addr} {xs : List Bool} (h : OwnBo w lo e A n c xs) : SB w A n xs := by
  rcases h with ⟨rfl, rfl⟩ | h
  · exact Rd.nil
  · exact h.rd
theorem OwnBo.kept {w w' : World} {lo n c : Nat} {e : TypeId} {A : Option Addr} {xs : List Bool} (h : OwnBo w lo e A n c xs) (hk : ∀ b, blk A = some b → lo ≤ b → b < w.heap.size → w'.heap[b]? = w.heap[b]?) : OwnBo w' lo e A n c xs := by
  rcases h with h | h
  · exact .inl h
  · exact .inr (h.kept hk)
theorem OwnBo.below {w w' : World} {lo n c : Nat} {e : TypeId} {A : Option Addr} {xs : List Bool} (h : OwnBo w lo e A n c xs) (hb : Below w.heap.size w w') : OwnBo w' lo e A n c xs := h.kept fun b _ _ hlt => hb.block b hlt
theorem OwnBo.touch {w w' : World} {lo n c l hh : Nat} {e : TypeId} {A : Option Addr} {xs : List Bool} (h : OwnBo w lo e A n c xs) (ht : Tch l hh w w') (hd : ∀ b, blk A = some b → b < l ∨ hh ≤ b) : OwnBo w' lo e A n c xs :=
  h.kept fun b hb _ hlt => ht.block b hlt (hd b hb)
/-- A row of numbers: its place, its capacity, its numbers. -/
structure Bl where
  A : Option Addr
  c : Nat
  xs : List Bool
def Bl.val (t : Bl) : Value := .slice t.A t.xs.length t.c
/-- Two rows that share no block. -/
def AptB (t u : Bl) : Prop := ∀ b, blk t.A = some b → blk u.A ≠ some b

/-- A slice of slices of numbers, read. -/
def SBB (w : World) (A : Option Addr) (n : Nat) (ts : List Bl) : Prop := Rd w 1 A n (ts.map Bl.val) ∧ ∀ t ∈ ts, SB w t.A t.xs.length t.xs
/-- A slice of slices of numbers, owned. -/
def OBB (w : World) (lo : Nat) (e2 e1 : TypeId) (A : Option Addr) (n c : Nat) (ts : List Bl) : Prop :=
  Own w lo e2 1 A n c (ts.map Bl.val) ∧ (∀ t ∈ ts, Own w lo e1 1 t.A t.xs.length t.c (bools t.xs)) ∧ ts.Pairwise AptB
section
variable {w w' : World} {A : Option Addr} {n c lo : Nat} {e1 e2 : TypeId} {ts : List Bl}
theorem SBB.len (h : SBB w A n ts) : ts.length = n := by have := h.1.1; simp at this; omega
theorem SBB.below (h : SBB w A n ts) (hb : Below w.heap.size w w') : SBB w' A n ts := ⟨h.1.below hb, fun t ht => (h.2 t ht).below hb⟩
theorem SBB.drewN (h : SBB w A n ts) (k : Nat) : SBB (w.drewN k) A n ts := h
theorem SBB.alloc (h : SBB w A n ts) (o : Obj) : SBB (w.alloc o) A n ts := ⟨h.1.alloc o, fun t ht => (h.2 t ht).alloc o⟩
theorem SBB.at_ (h : SBB w A n ts) {k : Nat} (hk : k < n) : ∃ b off, A = some ⟨b, off, none⟩ ∧ b < w.heap.size ∧ w.cell? ⟨b, off + k, none⟩ = some (.slice (ts[k]'(by have := h.len; omega)).A (ts[k]'(by have := h.len; omega)).xs.length (ts[k]'(by have := h.len; omega)).c) := by
  have hl := h.len
  obtain ⟨b, off, e, hlt, hc⟩ := h.1.at_ (k := k) (by simp; omega)
  refine ⟨b, off, e, hlt, ?_⟩
  rw [hc]; simp [Bl.val]
theorem SBB.row (h : SBB w A n ts) {k : Nat} (hk : k < n) : SB w (ts[k]'(by have := h.len; omega)).A (ts[k]'(by have := h.len; omega)).xs.length (ts[k]'(by have := h.len; omega)).xs := h.2 _ (List.getElem_mem _)
theorem SBB.pick (h : SBB w A n ts) {k : Nat} (hk : k < n) : ∃ t b off, Hid (ts[k]? = some t) ∧ t ∈ ts ∧ A = some ⟨b, off, none⟩ ∧ b < w.heap.size ∧ w.cell? ⟨b, off + k, none⟩ = some (.slice t.A t.xs.length t.c) ∧ SB w t.A t.xs.length t.xs := by
  have hl := h.len
  obtain ⟨b, off, e, hlt, hc⟩ := h.at_ hk
  exact ⟨ts[k]'(by omega), b, off, List.getElem?_eq_getElem (by omega), List.getElem_mem _, e, hlt, hc, h.row hk⟩
theorem OBB.sii (h : OBB w lo e2 e1 A n c ts) : SBB w A n ts := ⟨h.1.rd, fun t ht => (h.2.1 t ht).rd⟩
theorem OBB.below (h : OBB w lo e2 e1 A n c ts) (hb : Below w.heap.size w w') : OBB w' lo e2 e1 A n c ts := ⟨h.1.below hb, fun t ht => (h.2.1 t ht).below hb, h.2.2⟩
theorem OBB.far (h : OBB w lo e2 e1 A n c ts) {p : Addr} (hp : ∀ b, lo ≤ b → b ≠ p.block) (u : Value) : OBB (w.setCell p u) lo e2 e1 A n c ts :=
  ⟨h.1.far (fun e => hp _ (h.1.blk_ge _ e) rfl) u, fun t ht => (h.2.1 t ht).far (fun e => hp _ ((h.2.1 t ht).blk_ge _ e) rfl) u, h.2.2⟩
theorem OBB.drewN (h : OBB w lo e2 e1 A n c ts) (k : Nat) : OBB (w.drewN k) lo e2 e1 A n c ts := h
end
/-- The numbers of all rows. -/
def numsB (ts : List Bl) : List (List Bool) := ts.map Bl.xs
def totalB (ts : List Bl) : Nat := (ts.map (fun t => t.xs.length)).sum
def sameBB (xs ys : List (List Bool)) : Bool := decide (xs = ys)
theorem szRowsB_at {z : Int} {ts : List Bl} {t : Bl} {k : Nat} (h : ts[k]? = some t) : szRows z ((ts.drop k).map (fun t => t.xs.length)) = if z < (t.xs.length : Int) then -1 else szRows (z - (t.xs.length : Int)) ((ts.drop (k + 1)).map (fun t => t.xs.length)) := by
  obtain ⟨hk, rfl⟩ := List.getElem?_eq_some_iff.1 h
  rw [List.drop_eq_getElem_cons hk, List.map_cons, szRows]
theorem sameBB_ne {ts us : List Bl} {t u : Bl} {k : Nat} (ht : ts[k]? = some t) (hu : us[k]? = some u) (h : (!sameBo t.xs u.xs) = true) : false = sameBB (numsB ts) (numsB us) := by
  unfold sameBB; symm; rw [decide_eq_false_iff_not]; intro he
  have := congrArg (·[k]?) he
  simp [numsB, ht, hu] at this
  simp [this, sameBo] at h
theorem sameBB_eq {ts us : List Bl} {n k : Nat} (hk : n ≤ k) (hx : ts.length = n) (hy : us.length = n) (h : (numsB ts).take k = (numsB us).take k) : true = sameBB (numsB ts) (numsB us) := by
  rw [List.take_of_length_le (by simp [numsB]; omega), List.take_of_length_le (by simp [numsB]; omega)] at h
  unfold sameBB; symm; rw [decide_eq_true_iff]; exact h
theorem numsB_next {ts us : List Bl} {t u : Bl} {k : Nat} (ht : ts[k]? = some t) (hu : us[k]? = some u) (h : (numsB ts).take k = (numsB us).take k) (h1 : (!sameBo t.xs u.xs) = false) : (numsB ts).take (k + 1) = (numsB us).take (k + 1) := by
  obtain ⟨hk, rfl⟩ := List.getElem?_eq_some_iff.1 ht
  obtain ⟨hk', rfl⟩ := List.getElem?_eq_some_iff.1 hu
  rw [List.take_succ_eq_append_getElem (by simpa [numsB] using hk), List.take_succ_eq_append_getElem (by simpa [numsB] using hk'), h]
  simp [sameBo] at h1
  simp [numsB, h1]
/-- After k rows of a copy, the rest nil. -/
def halfB (us : List Bl) (r : Nat) : List Value := us.map Bl.val ++ List.replicate r (.slice none 0 0)
theorem halfB_len (us : List Bl) (r : Nat) : (halfB us r).length = us.length + r := by simp [halfB]
theorem halfB_next (us : List Bl) (r : Nat) (u : Bl) : (halfB us (r + 1)).set us.length u.val = halfB (us ++ [u]) r := by
  unfold halfB
  rw [List.set_append_right _ _ (by simp), List.replicate_succ]
  simp
theorem halfB_end (us : List Bl) : halfB us 0 = us.map Bl.val := by simp [halfB]
theorem madeB_rows (n : Nat) : (madeCells (Value.slice none 0 0).cells (n * 1)).toList = halfB [] n := by
  show (madeCells #[Value.slice none 0 0] (n * 1)).toList = _
  rw [toList_madeCells_one]
  simp [halfB]
theorem numsB_append (us : List Bl) (u : Bl) : numsB (us ++ [u]) = numsB us ++ [u.xs] := by simp [numsB]
theorem numsB_takeB_next {ts us : List Bl} {t u : Bl} {k : Nat} (ht : ts[k]? = some t) (h : numsB us = (numsB ts).take k) (hu : u.xs = t.xs) : numsB (us ++ [u]) = (numsB ts).take (k + 1) := by
  obtain ⟨hk, rfl⟩ := List.getElem?_eq_some_iff.1 ht
  rw [numsB_append, h, List.take_succ_eq_append_getElem (by simpa [numsB] using hk), hu]
  simp [numsB]
theorem AptB.snoc {us : List Bl} {u : Bl} (h : us.Pairwise AptB) (hu : ∀ t ∈ us, AptB t u) : (us ++ [u]).Pairwise AptB := by
  rw [List.pairwise_append]
  exact ⟨h, by simp, fun a ha b hb => by simp at hb; subst hb; exact hu a ha⟩
/-- A slice of slices of numbers that may be markedB. -/
def MkBB (w : World) (lo hi : Nat) (e2 e1 : TypeId) (A : Option Addr) (n c : Nat) (ts : List Bl) : Prop := Own w lo e2 1 A n c (ts.map Bl.val) ∧ ∀ t ∈ ts, Mk w lo hi e1 1 t.A t.xs.length
theorem MkBB.mkf {T : List TypeId} {l h lo hi n c : Nat} {e2 e1 : TypeId} {A : Option Addr} {ts : List Bl} {w w' : World} (hm : MkBB w lo hi e2 e1 A n c ts) (hf : MkF T l h w w') (he : e2 ∉ T) : MkBB w' lo hi e2 e1 A n c ts :=
  ⟨hm.1.mkf hf he, fun t ht => (hm.2 t ht).mkf hf⟩
theorem MkBB.below {lo hi n c : Nat} {e2 e1 : TypeId} {A : Option Addr} {ts : List Bl} {w w' : World} (hm : MkBB w lo hi e2 e1 A n c ts) (hb : Below w.heap.size w w') : MkBB w' lo hi e2 e1 A n c ts :=
  ⟨hm.1.below hb, fun t ht => (hm.2 t ht).below hb⟩
theorem OBB.mk {w : World} {lo hi n c : Nat} {e2 e1 : TypeId} {A : Option Addr} {ts : List Bl} (h : OBB w lo e2 e1 A n c ts) (hh : w.heap.size ≤ hi) : MkBB w lo hi e2 e1 A n c ts :=
  ⟨h.1, fun t ht => (h.2.1 t ht).mk (fun b hb => by have := (h.2.1 t ht).blk_lt b hb; omega)⟩
end Go.Proofs.Ytfheepjfpgiaoaa
