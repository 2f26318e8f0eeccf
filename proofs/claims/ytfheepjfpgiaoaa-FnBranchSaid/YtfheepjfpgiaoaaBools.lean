/-
  Slices of Bools: made, stored into, read.
-/
import Derived.Test.YtfheepjfpgiaoaaHelpA
namespace Go.Proofs.Ytfheepjfpgiaoaa
open Go.RowKit

theorem elBool : Elem Try.prog 43 4 1 1 (.bool false) := ⟨Try.underlying43, by kernel_rfl, rfl, by decide⟩
def bools (bs : List Bool) : List Value := bs.map Value.bool
theorem length_bools (bs : List Bool) : (bools bs).length = bs.length := by simp [bools]
theorem bools_one (bs : List Bool) : ∀ u ∈ bools bs, u.oneCell' = true := by
  intro u hu; simp [bools] at hu; rcases hu with ⟨_, rfl⟩ | ⟨_, rfl⟩ <;> rfl
theorem bools_set (bs : List Bool) (k : Nat) (b : Bool) : (bools bs).set k (.bool b) = bools (bs.set k b) := by simp [bools, List.map_set]
theorem bools_append (xs ys : List Bool) : bools xs ++ bools ys = bools (xs ++ ys) := by simp [bools]
theorem made_bools (n : Nat) : (madeCells (Value.bool false).cells (n * 1)).toList = bools (List.replicate n false) := by
  show (madeCells #[Value.bool false] (n * 1)).toList = _
  rw [toList_madeCells_one]
  simp [bools]
/-- A slice that reads as a list of Bools. -/
def SB (w : World) (A : Option Addr) (n : Nat) (bs : List Bool) : Prop := Rd w 1 A n (bools bs)
section
variable {w w' : World} {A : Option Addr} {n : Nat} {bs : List Bool}
theorem SB.len (h : SB w A n bs) : bs.length = n := by have := h.1; rw [length_bools] at this; omega
theorem SB.pick (h : SB w A n bs) {k : Nat} (hk : k < n) : ∃ x b off, Hid (bs[k]? = some x) ∧ A = some ⟨b, off, none⟩ ∧ b < w.heap.size ∧ w.cell? ⟨b, off + k, none⟩ = some (.bool x) := by
  have hl := h.len
  obtain ⟨b, off, e, hlt, hc⟩ := Rd.at_ h (k := k) (by rw [length_bools]; omega)
  exact ⟨bs[k]'(by omega), b, off, List.getElem?_eq_getElem (by omega), e, hlt, by rw [hc]; simp [bools]⟩
theorem SB.below (h : SB w A n bs) (hb : Below w.heap.size w w') : SB w' A n bs := Rd.below h hb
theorem SB.drewN (h : SB w A n bs) (k : Nat) : SB (w.drewN k) A n bs := h
theorem SB.alloc (h : SB w A n bs) (o : Obj) : SB (w.alloc o) A n bs := Rd.alloc h o
end
/-- The indices below k at which a list holds true. -/
def trueTo (bs : List Bool) (k : Nat) : List Int := ((List.range k).filter (fun i => bs.getD i false)).map (fun i : Nat => (i : Int))
def trueF (bs : List Bool) : List Int := trueTo bs bs.length
theorem trueTo_yes {bs : List Bool} {k : Nat} (h : bs[k]? = some true) : trueTo bs (k + 1) = trueTo bs k ++ [(k : Int)] := by
  unfold trueTo; rw [List.range_succ]; simp [List.filter_append, h]
theorem trueTo_no {bs : List Bool} {k : Nat} (h : bs[k]? = some false) : trueTo bs (k + 1) = trueTo bs k := by
  unfold trueTo; rw [List.range_succ]; simp [List.filter_append, h]
theorem trueTo_len (bs : List Bool) (k : Nat) : (trueTo bs k).length ≤ k := by
  unfold trueTo; rw [List.length_map]
  exact Nat.le_trans (List.length_filter_le _ _) (by simp)
theorem trueTo_zero (bs : List Bool) : trueTo bs 0 = [] := by simp [trueTo]
end Go.Proofs.Ytfheepjfpgiaoaa
