/-
  Contract of impl's StepMachine.
-/
import Derived.Test.YthipbeggaeogcaaMachO
namespace Go.Proofs.Ythipbeggaeogcaa
open Go.RowKit

theorem newConf2_zero {w wf : World} {k : Int} {r : Conf × Int} (hr : r = (⟨0, [], []⟩, k)) (hz : Below w.heap.size w wf) : NewConf2 w r (.returned (.tuple #[.agg #[.int .i64 0, .slice none 0 0, .slice none 0 0], .int .i64 k])) wf := by
  subst hr
  exact ⟨none, 0, none, 0, rfl, Own.nil, Own.nil, fun b h => by simp [blk] at h, hz⟩

theorem conf_set {w : World} {g : Nat} {a b c : Value} {t : TypeId} (h : Blk w g t #[a, b, c]) (x y z : Value) : Blk (((w.setCell ⟨g, 0, none⟩ x).setCell ⟨g, 1, none⟩ y).setCell ⟨g, 2, none⟩ z) g t #[x, y, z] := ((h.set_ 0 x).set_ 1 y).set_ 2 z
theorem conf_below {w w' : World} {g lo : Nat} (h : Below lo w w') (hg : lo ≤ g) (x y z : Value) : Below lo w (((w'.setCell ⟨g, 0, none⟩ x).setCell ⟨g, 1, none⟩ y).setCell ⟨g, 2, none⟩ z) := ((h.setCell hg _).setCell hg _).setCell hg _
theorem conf_far {w : World} {g lo s n c : Nat} {t : TypeId} {A : Option Addr} {cs : List Value} (h : Own w lo t s A n c cs) (hg : g < lo) (x y z : Value) : Own (((w.setCell ⟨g, 0, none⟩ x).setCell ⟨g, 1, none⟩ y).setCell ⟨g, 2, none⟩ z) lo t s A n c cs := by
  have hb : blk A ≠ some g := fun e => by have := h.blk_ge _ e; omega
  exact ((h.far (p := ⟨g, 0, none⟩) hb _).far (p := ⟨g, 1, none⟩) hb _).far (p := ⟨g, 2, none⟩) hb _

end Go.Proofs.Ythipbeggaeogcaa
