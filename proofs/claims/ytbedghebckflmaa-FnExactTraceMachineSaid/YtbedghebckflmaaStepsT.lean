/-
  Callers of runner.steps: the state ahead of the first round, and a round that writes into the caller's own blocks.
-/
import Derived.Test.YtbedghebckflmaaRunU
import Derived.Test.YtbedghebckflmaaRecs
import Derived.RegionIn
import Derived.OwnWalkIn
namespace Go.Proofs.Ytbedghebckflmaa
open Go.RowKit Go.Shelf

/-- The state of the runner, X the caller's blocks. -/
structure StO (p : Rn) (i : Nat) (X : Nat → Prop) (W : World) : Prop where
  ng : ¬ X p.g
  mb : X p.mb
  rb : X p.rb
  xc : XC X W
  run : RunC X W p.w0.heap.size p.g p.sy p.st p.A p.n p.k (p.it i)
  low : Below p.w0.heap.size p.w0 W
  bm : Blk W p.mb 2 #[.int .i64 (p.most : Int)]
  br : Blk W p.rb 98 #[.pointer (some ⟨p.g, 0, none⟩)]
theorem StS.op {p : Rn} {i : Nat} {D : (Nat → Prop) → World → Prop} {W : World} (h : StS p i D W) : ∃ X, StO p i X W ∧ D X W := by
  obtain ⟨X, h1, h2, h3, h4, h5, h6, h7, h8, h9⟩ := h
  exact ⟨X, ⟨h1, h2, h3, h4, h5, h6, h7, h8⟩, h9⟩
theorem StO.st {p : Rn} {i : Nat} {X : Nat → Prop} {D : (Nat → Prop) → World → Prop} {W : World} (h : StO p i X W) (hd : D X W) : StS p i D W := ⟨X, h.ng, h.mb, h.rb, h.xc, h.run, h.low, h.bm, h.br, hd⟩

theorem Own.cells_at {w : World} {lo n c s b : Nat} {e : TypeId} {A : Option Addr} {cs : List Value} (h : Own w lo e s A n c cs) (hb : blk A = some b) : ∃ o : Obj, w.heap[b]? = some o ∧ o.isCells = true := by
  rcases h.2 with ⟨rfl, _⟩ | ⟨b', off, cur, rfl, _, hg, _⟩
  · simp [blk] at hb
  · simp [blk] at hb; subst hb; exact ⟨_, hg, rfl⟩
/-- The blocks that a call made, from s on, or that lie below lo, and that hold cells. -/
def XNew (lo s : Nat) (W : World) (b : Nat) : Prop := (b < lo ∨ s ≤ b) ∧ ∃ o : Obj, W.heap[b]? = some o ∧ o.isCells = true
theorem XNew.of_blk {lo s b : Nat} {W : World} {t : TypeId} {cs : Array Value} (h : Blk W b t cs) (hb : b < lo ∨ s ≤ b) : XNew lo s W b := ⟨hb, _, h, rfl⟩
theorem XNew.of_own {lo s l n c sz b : Nat} {W : World} {e : TypeId} {A : Option Addr} {cs : List Value} (h : Own W l e sz A n c cs) (hb : blk A = some b) (hl : s ≤ l) : XNew lo s W b := by
  refine ⟨.inr (by have := h.blk_ge b hb; omega), ?_⟩
  rcases h.2 with ⟨rfl, _⟩ | ⟨b', off, cur, rfl, _, hg, _⟩
  · simp [blk] at hb
  · simp [blk] at hb; subst hb; exact ⟨_, hg, rfl⟩
theorem StO.start {p : Rn} {w W : World} {lo : Nat} (hrun : RunC (fun _ => False) w lo p.g p.sy p.st p.A p.n p.k p.c) (hlo : p.w0.heap.size ≤ lo) (hg : lo ≤ p.g) (hz : Below p.w0.heap.size p.w0 W) (z : Below w.heap.size w W)
    (m : Blk W p.mb 2 #[.int .i64 (p.most : Int)]) (r : Blk W p.rb 98 #[.pointer (some ⟨p.g, 0, none⟩)]) (hm : w.heap.size ≤ p.mb) (hr : w.heap.size ≤ p.rb) : StO p 0 (XNew lo w.heap.size W) W := by
  obtain ⟨L, cl, R, d, hra, ol, or_, hap, _, _⟩ := hrun
  have hgw : p.g < w.heap.size := Blk.lt hra
  refine ⟨?_, XNew.of_blk m (.inr hm), XNew.of_blk r (.inr hr), fun b hb => hb.2, ⟨L, cl, R, d, Blk.below' hra z, (ol.below z).mono hlo, (or_.below z).mono hlo, hap, ?_, ?_⟩, hz, m, r⟩
  · rintro ⟨h, _⟩; omega
  · rintro b hb ⟨h, _⟩
    have h1 := ol.blk_lt b hb
    have h2 := ol.blk_ge b hb
    omega
  · rintro b hb ⟨h, _⟩
    have h1 := or_.blk_lt b hb
    have h2 := or_.blk_ge b hb
    omega
/-- Blocks outside Y are as they were. -/
structure Keep (Y : Nat → Prop) (W W' : World) : Prop where
  os : W'.os = W.os
  tape : W'.tape = W.tape
  output : W'.output = W.output
  size : W.heap.size ≤ W'.heap.size
  block : ∀ b, b < W.heap.size → ¬ Y b → W'.heap[b]? = W.heap[b]?
section
variable {Y : Nat → Prop} {a W W' : World}
theorem Keep.refl (Y : Nat → Prop) (W : World) : Keep Y W W := ⟨rfl, rfl, rfl, Nat.le_refl _, fun _ _ _ => rfl⟩
theorem Keep.drewN (h : Keep Y a W) (n : Nat) : Keep Y a (W.drewN n) := ⟨h.os, h.tape, h.output, h.size, h.block⟩
theorem Keep.below (h : Keep Y a W) (z : Below W.heap.size W W') : Keep Y a W' := ⟨z.os.trans h.os, z.tape.trans h.tape, z.output.trans h.output, Nat.le_trans h.size z.size, fun b hb hy => (z.block b (by have := h.size; omega)).trans (h.block b hb hy)⟩
theorem Keep.set (h : Keep Y a W) {b o : Nat} (hb : Y b) (u : Value) : Keep Y a (W.setCell ⟨b, o, none⟩ u) :=
  ⟨h.os, h.tape, h.output, by simpa [World.setCell] using h.size, fun k hk hy => (Below.heap_setCell W ⟨b, o, none⟩ u k (fun e => hy (by rw [e]; exact hb))).trans (h.block k hk hy)⟩
theorem Keep.alloc (h : Keep Y a W) (o : Obj) : Keep Y a (W.alloc o) := ⟨h.os, h.tape, h.output, Nat.le_trans h.size (by simp), fun k hk hy => (Below.heap_alloc W o k (by have := h.size; omega)).trans (h.block k hk hy)⟩
theorem Keep.grown {row : Option Nat} (h : Keep Y a W) (hg : W.grownBy W' row) (hr : ∀ b, row = some b → Y b) : Keep Y a W' :=
  ⟨hg.os.trans h.os, hg.tape.trans h.tape, hg.output.trans h.output, Nat.le_trans h.size hg.size, fun k hk hy => (hg.block k (by have := h.size; omega) (fun e => hy (hr k e.symm))).trans (h.block k hk hy)⟩
end
/-- The blocks of X, and new blocks with cells. -/
def XMore (X : Nat → Prop) (s : Nat) (W : World) (b : Nat) : Prop := X b ∨ (s ≤ b ∧ ∃ o : Obj, W.heap[b]? = some o ∧ o.isCells = true)
theorem XMore.of_blk {X : Nat → Prop} {s b : Nat} {W : World} {t : TypeId} {cs : Array Value} (h : Blk W b t cs) (hb : s ≤ b) : XMore X s W b := .inr ⟨hb, _, h, rfl⟩
theorem XMore.of_own {X : Nat → Prop} {s n c sz l b : Nat} {W : World} {e : TypeId} {A : Option Addr} {cs : List Value} (h : Own W l e sz A n c cs) (hb : blk A = some b) (hs : X b ∨ s ≤ b) : XMore X s W b := by
  rcases hs with hs | hs
  · exact .inl hs
  · rcases h.2 with ⟨rfl, _⟩ | ⟨b', off, cur, rfl, _, hg, _⟩
    · simp [blk] at hb
    · simp [blk] at hb; subst hb; exact .inr ⟨hs, _, hg, rfl⟩
theorem StO.turn {p : Rn} {i : Nat} {X Y : Nat → Prop} {W W' : World} (h : StO p i X W) (k : Keep Y W W') (hY : ∀ b, Y b → X b ∧ b ≠ p.mb ∧ b ≠ p.rb ∧ p.w0.heap.size ≤ b) (hc : ∀ b, Y b → ∃ o : Obj, W'.heap[b]? = some o ∧ o.isCells = true) :
    StO p i (XMore X W.heap.size W') W' ∧ KeepsOthers W W' := by
  obtain ⟨ng, mb, rb, xc, ⟨L, cl, R, d, hra, ol, or_, hap, hXl, hXr⟩, low, bm, br⟩ := h
  have hgl : p.g < W.heap.size := Blk.lt hra
  have own : ∀ {A : Option Addr} {n c : Nat} {cs : List Value}, Own W p.w0.heap.size 2 1 A n c cs → (∀ b, blk A = some b → ¬ X b) → Own W' p.w0.heap.size 2 1 A n c cs := fun ho hx => ho.kept fun b hb _ hlt => k.block b hlt (fun hy => hx b hb (hY b hy).1)
  refine ⟨⟨?_, .inl mb, .inl rb, ?_, ⟨L, cl, R, d, (k.block p.g hgl (fun hy => ng (hY _ hy).1)).trans hra, own ol hXl, own or_ hXr, hap, ?_, ?_⟩, ?_, (k.block _ bm.lt (fun hy => (hY _ hy).2.1 rfl)).trans bm, (k.block _ br.lt (fun hy => (hY _ hy).2.2.1 rfl)).trans br⟩, ⟨k.size, ?_⟩⟩
  · rintro (h | ⟨h, _⟩)
    · exact ng h
    · omega
  · rintro b (hb | ⟨_, hb⟩)
    · by_cases hy : Y b
      · exact hc b hy
      · obtain ⟨o, ho, hcl⟩ := xc b hb
        exact ⟨o, (k.block b (Array.getElem?_eq_some_iff.1 ho).1 hy).trans ho, hcl⟩
    · exact hb
  · rintro b hb (h | ⟨h, _⟩)
    · exact hXl b hb h
    · have := ol.blk_lt b hb; omega
  · rintro b hb (h | ⟨h, _⟩)
    · exact hXr b hb h
    · have := or_.blk_lt b hb; omega
  · exact ⟨k.os.trans low.os, k.tape.trans low.tape, k.output.trans low.output, Nat.le_trans low.size k.size, fun b hb => (k.block b (by have := low.size; omega) (fun hy => by have := (hY b hy).2.2.2; omega)).trans (low.block b hb)⟩
  · intro b o hb ho
    by_cases hy : Y b
    · obtain ⟨o2, ho2, hc2⟩ := xc b (hY b hy).1
      rw [hb] at ho2; cases ho2; rw [ho] at hc2; cases hc2
    · exact (k.block b (Array.getElem?_eq_some_iff.1 hb).1 hy).trans hb
theorem Recs.put {W : World} {l lo n c s : Nat} {e : TypeId} {A : Option Addr} {cs : List Value} {rows : List Rw} {o : Obj} (h : Recs W lo e s A n c cs rows) (o' : Obj) (hl : W.heap[l]? = some o) (ho : o.isCells = false) : Recs (W.putObj l o') lo e s A n c cs rows :=
  ⟨h.spine.put o' hl ho, fun r hr => Own.put (h.each r hr) o' hl ho, h.apt, h.types⟩
/-- An append inside a fence. -/
theorem wpIn_append_Own {F : Fence} {n0 : Nat} {P : Program} {t e : TypeId} {s bytes : Nat} {z : Value} {o : Oper} {a : Act} {K : Act → World → Prop} {Q : Exit → Act → World → Prop} (sl x : Operand) (ho : o.op = .call { callee := .builtin .append, args := #[sl, x], argTypes := #[t, t] })
    (E : Elem P t e s bytes z) {w : World} {lo : Nat} {A : Option Addr} {n c : Nat} {xs : List Value} (hs : a.eval sl = .slice A n c) (h : Own w lo e s A n c xs)
    {A' : Option Addr} {m c' : Nat} {news : List Value} (hx : a.eval x = .slice A' m c') (hr : Rd w s A' m news) (h1 : ∀ u ∈ news, u.oneCell' = true) (hb : (n + m) * bytes ≤ 140737488355328) (hm : n + m ≤ maxLen) (hlo : lo ≤ w.heap.size)
    (hK : ∀ A2 c2 w2, Own w2 lo e s A2 (n + m) c2 (xs ++ news) → w.grownBy w2 (blk A) → (blk A2 = blk A ∨ blk A2 = some w.heap.size) ∧ Own w2 lo e s A n c xs → K (a.put o.dst (.slice A2 (n + m) c2)) w2) : o.wpIn F n0 P a w K Q := by
  obtain ⟨A2, c2, w2, hrun, h2, h3, h4⟩ := run_append_Own E w o.type h hr (c' := c') h1 hb hm hlo
  unfold Oper.wpIn
  refine ⟨?_, ?_⟩
  · simp [Oper.about, ho, resolve, Target.leads, Sem.run_pure]
  · rw [Oper.semAt_plain F _ _ (by rw [ho]; intro c hc'; cases hc')]
    simp [execOp, ho, resolve, invoke, builtin, hs, hx, hrun, Result.andThen]
    exact hK A2 c2 w2 h2 h3 h4
end Go.Proofs.Ytbedghebckflmaa
