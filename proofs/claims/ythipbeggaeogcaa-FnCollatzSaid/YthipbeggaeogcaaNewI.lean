/-
  Results: a new slice of numbers and a code.
-/
import Derived.Test.YthipbeggaeogcaaHelpA
namespace Go.Proofs.Ythipbeggaeogcaa
open Go.RowKit
theorem i2_nil {w wf : World} {k : Int} {r : List Int × Int} (hr : r = ([], k)) (hz : Below w.heap.size w wf) : NewI2 w r (.returned (.tuple #[.slice none 0 0, .int .i64 k])) wf := by
  subst hr
  exact ⟨none, 0, rfl, Own.nil, hz⟩
theorem i2_of {w wf : World} {k : Int} {r : List Int × Int} {xs : List Int} {A : Option Addr} {n c : Nat} (hr : r = (xs, k)) (hn : n = xs.length) (ho : Own wf w.heap.size 2 1 A n c (ints xs)) (hz : Below w.heap.size w wf) : NewI2 w r (.returned (.tuple #[.slice A n c, .int .i64 k])) wf := by
  subst hr; subst hn
  exact ⟨A, c, rfl, ho, hz⟩
theorem i2_lit0 {w : World} {g lo s : Nat} {t : TypeId} (h : Blk w g t #[]) (hl : lo ≤ g) : Own w lo t s (some ⟨g, 0, none⟩) 0 0 [] :=
  ⟨by simp, .inr ⟨g, 0, #[], rfl, hl, h, Nat.le_refl _, by simp [maxLen], by simp, fun k hk => by simp at hk⟩⟩
end Go.Proofs.Ythipbeggaeogcaa
