/-
  The reference's draw of a word: l10DrawWord.
-/
import Derived.Test.YtfheepjfpgiaoaaSrc
import Derived.Deep.CutBlock
namespace Go.Proofs.Ytfheepjfpgiaoaa
open Go.RowKit

theorem Src.more {b lo s n0 c0 : Nat} {e : TypeId} {E : Option Addr} {xs : List Value} {A : Option Addr} {n c T : Nat} {W W' : World} (h : Src b A n c T W) (ho : Own W lo e s E n0 c0 xs) (hb : b < lo) (hg : W.grownBy W' (blk E)) : Src b A n c T W' := by
  obtain ⟨a, s, h1, h2, h3, h4⟩ := h
  exact ⟨a, s, h1, h2, h3, (hg.block b h4.lt (fun e => by have := ho.blk_ge b e.symm; omega)).trans h4⟩
theorem Blk.ownz {w : World} {g : Nat} {t : TypeId} {s lo : Nat} (h : Blk w g t #[]) (hlo : lo ≤ g) : Own w lo t s (some ⟨g, 0, none⟩) 0 0 [] := by
  refine ⟨by simp, .inr ⟨g, 0, #[], rfl, hlo, h, Nat.le_refl _, by simp [maxLen], by simp, fun k hk => ?_⟩⟩
  simp at hk
/-- A word was drawn. -/
def DrewL (b : Nat) (A : Option Addr) (n c T most : Nat) (L : Int) (w : World) (e : Ending) (w' : World) : Prop :=
  ∃ D d ys, e = .returned (.slice D ys.length d) ∧ Own w' w.heap.size 2 1 D ys.length d (ints ys) ∧ ys.length ≤ most ∧ (∀ x ∈ ys, 0 ≤ x ∧ x < L) ∧ Src b A n c T w' ∧ Kb b w w'
end Go.Proofs.Ytfheepjfpgiaoaa
