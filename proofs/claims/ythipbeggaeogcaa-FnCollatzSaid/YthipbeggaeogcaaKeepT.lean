/-
  Rounds that write into blocks of the caller's own, for tag systems.
-/
import Derived.Test.YthipbeggaeogcaaTagR
namespace Go.Proofs.Ythipbeggaeogcaa
open Go.RowKit

/-- Blocks outside Y are as they were. -/
structure Keep (Y : Nat → Prop) (W W' : World) : Prop where
  os : W'.os = W.os
  tape : W'.tape = W.tape
  output : W'.output = W.output
  size : W.heap.size ≤ W'.heap.size
  block : ∀ b, b < W.heap.size → ¬ Y b → W'.heap[b]? = W.heap[b]?
section
variable {Y : Nat → Prop} {a W W' : World}
theorem Keep.refl (Y : Nat → Prop) (W : World) : Keep Y W W := ⟨rfl, rfl, rfl, Nat.le_refl _, fun _ _ _ => rfl⟩
theorem Keep.drewN (h : Keep Y a W) (n : Nat) : Keep Y a (W.drewN n) := ⟨h.os, h.tape, h.output, h.size, h.block⟩
theorem Keep.below (h : Keep Y a W) (z : Below W.heap.size W W') : Keep Y a W' := ⟨z.os.trans h.os, z.tape.trans h.tape, z.output.trans h.output, Nat.le_trans h.size z.size, fun b hb hy => (z.block b (by have := h.size; omega)).trans (h.block b hb hy)⟩
theorem Keep.set (h : Keep Y a W) {b o : Nat} (hb : Y b) (u : Value) : Keep Y a (W.setCell ⟨b, o, none⟩ u) :=
  ⟨h.os, h.tape, h.output, by simpa [World.setCell] using h.size, fun k hk hy => (Below.heap_setCell W ⟨b, o, none⟩ u k (fun e => hy (by rw [e]; exact hb))).trans (h.block k hk hy)⟩
theorem Keep.alloc (h : Keep Y a W) (o : Obj) : Keep Y a (W.alloc o) := ⟨h.os, h.tape, h.output, Nat.le_trans h.size (by simp), fun k hk hy => (Below.heap_alloc W o k (by have := h.size; omega)).trans (h.block k hk hy)⟩
theorem Keep.grown {row : Option Nat} (h : Keep Y a W) (hg : W.grownBy W' row) (hr : ∀ b, row = some b → Y b) : Keep Y a W' :=
  ⟨hg.os.trans h.os, hg.tape.trans h.tape, hg.output.trans h.output, Nat.le_trans h.size hg.size, fun k hk hy => (hg.block k (by have := h.size; omega) (fun e => hy (hr k e.symm))).trans (h.block k hk hy)⟩
theorem Keep.blk {b : Nat} {t : TypeId} {cs : Array Value} (k : Keep Y W W') (h : Blk W b t cs) (hn : ¬ Y b) : Blk W' b t cs := (k.block b h.lt hn).trans h
end
/-- The blocks of X, and new ones. -/
def XGrow (X : Nat → Prop) (s e : Nat) (b : Nat) : Prop := X b ∨ (s ≤ b ∧ b < e)
theorem TgO.turn {p : Tg} {i r : Nat} {Q : Option Addr} {X Y : Nat → Prop} {W W' : World} (h : TgO p i Q r X W) (k : Keep Y W W') (hY : ∀ b, Y b → X b ∧ p.w0.heap.size ≤ b) : TgO p i Q r (XGrow X W.heap.size W'.heap.size) W' := by
  have hg : p.g < W.heap.size := (Array.getElem?_eq_some_iff.1 h.run).1
  refine ⟨?_, ?_, ?_, ?_, ?_, ?_⟩
  · rintro (h1 | ⟨h1, _⟩)
    · exact h.ng h1
    · omega
  · rintro b (h1 | ⟨_, h1⟩)
    · have := h.lt b h1; have := k.size; omega
    · exact h1
  · exact (k.block p.g hg (fun hy => h.ng (hY _ hy).1)).trans h.run
  · exact h.own.kept fun b hb _ hlt => k.block b hlt (fun hy => h.nq b hb (hY b hy).1)
  · rintro b hb (h1 | ⟨h1, _⟩)
    · exact h.nq b hb h1
    · have := h.own.blk_lt b hb; omega
  · exact ⟨k.os.trans h.low.os, k.tape.trans h.low.tape, k.output.trans h.low.output, Nat.le_trans h.low.size k.size, fun b hb => (k.block b (by have := h.low.size; omega) (fun hy => by have := (hY b hy).2; omega)).trans (h.low.block b hb)⟩
end Go.Proofs.Ythipbeggaeogcaa
