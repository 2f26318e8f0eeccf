/-
  Frames: a set X of blocks that stay as they are.
-/
import Derived.Test.YthipbeggaeogcaaWords
namespace Go.Proofs.Ythipbeggaeogcaa
open Go.RowKit

/-- The blocks of X are in w' as in w. -/
structure Fr (X : Nat → Prop) (w w' : World) : Prop where
  size : w.heap.size ≤ w'.heap.size
  same : ∀ b, X b → b < w.heap.size → w'.heap[b]? = w.heap[b]?
section
variable {X : Nat → Prop} {w w1 w2 : World}
theorem Fr.refl (X : Nat → Prop) (w : World) : Fr X w w := ⟨Nat.le_refl _, fun _ _ _ => rfl⟩
theorem Fr.trans (h : Fr X w w1) (k : Fr X w1 w2) : Fr X w w2 := ⟨Nat.le_trans h.size k.size, fun b hb hlt => (k.same b hb (by have := h.size; omega)).trans (h.same b hb hlt)⟩
theorem Fr.of_below (z : Below w.heap.size w w1) : Fr X w w1 := ⟨z.size, fun b _ hlt => z.block b hlt⟩
theorem Fr.below (h : Fr X w w1) (z : Below w1.heap.size w1 w2) : Fr X w w2 := h.trans (Fr.of_below z)
theorem Fr.drewN (h : Fr X w w1) (q : Nat) : Fr X w (w1.drewN q) := ⟨h.size, h.same⟩
theorem Fr.set_ (h : Fr X w w1) {p : Addr} (hp : ¬ X p.block) (u : Value) : Fr X w (w1.setCell p u) :=
  ⟨by simpa [World.setCell] using h.size, fun b hb hlt => (Below.heap_setCell w1 p u b (fun e => hp (e ▸ hb))).trans (h.same b hb hlt)⟩
theorem Fr.grown {row : Option Nat} (h : Fr X w w1) (hg : w1.grownBy w2 row) (hr : ∀ b, row = some b → ¬ X b) : Fr X w w2 :=
  ⟨Nat.le_trans h.size hg.size, fun b hb hlt => (hg.block b (by have := h.size; omega) (fun e => hr b e.symm hb)).trans (h.same b hb hlt)⟩
end
theorem Own.fr {X : Nat → Prop} {w w' : World} {A : Option Addr} {n c s lo : Nat} {e : TypeId} {cs : List Value} (h : Own w lo e s A n c cs) (hf : Fr X w w') (hX : ∀ b, blk A = some b → X b) : Own w' lo e s A n c cs :=
  h.kept (fun b hb _ hlt => hf.same b (hX b hb) hlt)
theorem Blk.fr {X : Nat → Prop} {w w' : World} {g : Nat} {t : TypeId} {cs : Array Value} (h : Blk w g t cs) (hf : Fr X w w') (hX : X g) : Blk w' g t cs := (hf.same g hX h.lt).trans h
end Go.Proofs.Ythipbeggaeogcaa
