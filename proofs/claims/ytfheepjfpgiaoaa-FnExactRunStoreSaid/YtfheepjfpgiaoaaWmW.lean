/-
  Contracts of impl's runInput and RunWhile.
-/
import Derived.Test.YtfheepjfpgiaoaaWmT
namespace Go.Proofs.Ytfheepjfpgiaoaa
open Go.RowKit

theorem budgetOkW {b : Int} {r : Bool} (h : inB b 1 20000 = r) (w : World) : Calls Try.prog 70 #[.int .i64 b] w fun e w' => e = .returned (.bool r) ∧ w = w' := by
  go_enter Try.func70, Try.ntmps70
  go_wp2_with (go_at_call 109; refine (within_is h _).mono ?_; rintro e w' ⟨rfl, rfl⟩)
  go_ret
  exact ⟨rfl, rfl⟩
def InpP (w : World) (r : Option (List Tr × Nat × Bool)) (e : Ending) (w' : World) : Prop :=
  Below w.heap.size w w' ∧ match r with
  | some (s, k, d) => ∃ q, e = .returned (.tuple #[.pointer q, .int .i64 (k : Int), .bool d, .int .i64 0]) ∧ TrAt w' (s.getD 0 .nil) q
  | none => ∃ q, e = .returned (.tuple #[.pointer q, .int .i64 0, .bool false, .int .i64 5])
theorem StOwn.cell {w : World} {lo : Nat} {b off sc : Nat} {s : List Tr} (h : StOwn w lo (some ⟨b, off, none⟩) sc s) {k : Nat} (hk : k < 6) : ∃ p, w.cell? ⟨b, off + k, none⟩ = some (.pointer p) ∧ TrAt w (s.getD k .nil) p := by
  obtain ⟨ps, h1, h2, h3, h4⟩ := h
  obtain ⟨b', off', e, _, _, hc, _⟩ := h3.at_ (k := k) (by rw [List.length_map]; omega)
  cases e
  obtain ⟨p, h5, h6⟩ := h4 k (s[k]'(by omega)) (List.getElem?_eq_getElem (by omega))
  obtain ⟨h7, h8⟩ := List.getElem?_eq_some_iff.1 h5
  refine ⟨p, ?_, ?_⟩
  · rw [hc, List.getElem_map, h8]
  · rw [List.getD_eq_getElem?_getD, List.getElem?_eq_getElem (by omega : k < s.length)]; exact h6
/-- A slice of Bools in new memory, two numbers and a Bool. -/
def NewBo4 (w : World) (r : List Bool × Int × Bool × Int) (e : Ending) (w' : World) : Prop :=
  ∃ A c, e = .returned (.tuple #[.slice A r.1.length c, .int .i64 r.2.1, .bool r.2.2.1, .int .i64 r.2.2.2]) ∧ Own w' w.heap.size 4 1 A r.1.length c (bools r.1) ∧ Below w.heap.size w w'
end Go.Proofs.Ytfheepjfpgiaoaa
