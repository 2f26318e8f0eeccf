/-
  Slices of turns.
-/
import Derived.Test.YthipbeggaeogcaaCyclP
import Derived.Test.YthipbeggaeogcaaRecs
namespace Go.Proofs.Ythipbeggaeogcaa
open Go.RowKit

theorem elTurn : Elem Try.prog 41 30 2 32 (.agg #[.int .i64 0, .slice none 0 0]) := ⟨Try.underlying41, by kernel_rfl, rfl, by decide⟩
/-- A turn in memory. -/
structure Tm where
  q : Int
  L : Option Addr
  a : Nat
  xs : List Int
def Tm.cells (t : Tm) : List Value := [.int .i64 t.q, .slice t.L t.xs.length t.a]
def Tm.rows (t : Tm) : List Rw := [Rw.i 2 t.L t.a t.xs]
def Tm.tu (t : Tm) : Tu := ⟨t.q, t.xs⟩
theorem Tm.cells_len (t : Tm) : t.cells.length = 2 := rfl
theorem Tm.one (ts : List Tm) : ∀ u ∈ ts.flatMap Tm.cells, u.oneCell' = true := by
  intro u hu
  simp only [List.mem_flatMap, Tm.cells, List.mem_cons, List.not_mem_nil, or_false] at hu
  obtain ⟨t, _, h | h⟩ := hu <;> subst h <;> rfl
/-- An owned slice of configurations, all rows apart. -/
def OTs (w : World) (lo : Nat) (A : Option Addr) (n c : Nat) (ts : List Tm) : Prop := Recs w lo 30 2 A n c (ts.flatMap Tm.cells) (ts.flatMap Tm.rows)
def tus (ts : List Tm) : List Tu := ts.map Tm.tu
section
variable {w w' w2 : World} {lo lo' n c : Nat} {A : Option Addr} {ts : List Tm}
theorem OTs.len (h : OTs w lo A n c ts) : ts.length = n := by have := h.spine.1; rw [flat_len Tm.cells_len] at this; omega
theorem OTs.below (h : OTs w lo A n c ts) (z : Below w.heap.size w w') : OTs w' lo A n c ts := Recs.below h z
theorem OTs.mono (h : OTs w lo A n c ts) (hl : lo' ≤ lo) : OTs w lo' A n c ts := Recs.mono h hl
theorem OTs.drewN (h : OTs w lo A n c ts) (k : Nat) : OTs (w.drewN k) lo A n c ts := Recs.drewN h k
theorem OTs.alloc (h : OTs w lo A n c ts) (o : Obj) : OTs (w.alloc o) lo A n c ts := Recs.alloc h o
/-- The k-th configuration. -/
theorem OTs.pick (h : OTs w lo A n c ts) {k : Nat} (hk : k < n) : ∃ t b off, Hid (ts[k]? = some t) ∧ A = some ⟨b, off, none⟩ ∧ b < w.heap.size ∧ lo ≤ b ∧ w.cell? ⟨b, off + k * 2, none⟩ = some (.int .i64 t.q) ∧ w.cell? ⟨b, off + k * 2 + 1, none⟩ = some (.slice t.L t.xs.length t.a) ∧
    Own w lo 2 1 t.L t.xs.length t.a (ints t.xs) ∧ (∀ j, w.frozen? ⟨b, j, none⟩ = false) := by
  have hl := h.len
  have hT : ts[k]? = some (ts[k]'(by omega)) := List.getElem?_eq_getElem (by omega)
  have hmem : ts[k]'(by omega) ∈ ts := List.getElem_mem _
  revert hT hmem
  generalize ts[k]'(by omega) = t
  intro hT hmem
  have hfl : (ts.flatMap Tm.cells).length = n * 2 := by rw [flat_len Tm.cells_len, hl]
  rcases h.spine.2 with ⟨_, h1, _⟩ | ⟨b, off, cur, hA, hb, hg, hnc, hcm, hfit, hc⟩
  · omega
  · have cell : ∀ j, (hj : j < 2) → w.cell? ⟨b, off + (k * 2 + j), none⟩ = some (t.cells[j]'(by rw [Tm.cells_len]; exact hj)) := by
      intro j hj
      have h1 := flat_get Tm.cells_len hT hj
      rw [List.getElem?_eq_getElem (l := t.cells) (i := j) (by rw [Tm.cells_len]; exact hj)] at h1
      obtain ⟨h2, h3⟩ := List.getElem?_eq_some_iff.1 h1
      have h4 := hc (k * 2 + j) h2
      rw [h3] at h4
      rw [← h4]; simp [World.cell?, hg]
    refine ⟨t, b, off, hT, hA, (Array.getElem?_eq_some_iff.1 hg).1, hb, cell 0 (by omega), ?_, ?_, fun j => by simp [World.frozen?, hg]⟩
    · rw [Nat.add_assoc]; exact cell 1 (by omega)
    · exact h.each (Rw.i 2 t.L t.a t.xs) (List.mem_flatMap.2 ⟨t, hmem, by simp [Tm.rows]⟩)
theorem OTs.set_blk {g i : Nat} {t : TypeId} {cur : Array Value} (h : OTs w lo A n c ts) (hb : Blk w g t cur) (h1 : t ≠ 30) (h2 : t ≠ 2) (u : Value) : OTs (w.setCell ⟨g, i, none⟩ u) lo A n c ts :=
  Recs.set_blk h hb h1 (fun r hr => by
    obtain ⟨x, _, hx⟩ := List.mem_flatMap.1 hr
    simp only [Tm.rows, List.mem_cons, List.not_mem_nil, or_false] at hx
    subst hx; exact h2) u
theorem OTs.set_far {g i : Nat} (h : OTs w lo A n c ts) (hg : g < lo) (u : Value) : OTs (w.setCell ⟨g, i, none⟩ u) lo A n c ts := Recs.set_far h hg u
theorem OTs.nil (h : Own w lo 30 2 A 0 c []) : OTs w lo A 0 c [] := Recs.nil h
/-- The cells of a configuration's box. -/
theorem Tm.new (w : World) (t : Tm) : Rd (w.alloc (.cells #[.int .i64 t.q, .slice t.L t.xs.length t.a] 30)) 2 (some ⟨w.heap.size, 0, none⟩) 1 t.cells := by
  refine ⟨rfl, fun _ => ⟨_, 0, rfl, fun k hk => ?_⟩⟩
  rw [cell_of_row _ w.heap.size (0 + k) _ 30 (0, 0) (heap_alloc_new w _)]
  rw [Tm.cells_len] at hk
  match k, hk with
  | 0, _ => rfl
  | 1, _ => rfl
theorem OTs.one {t : Tm} {c1 : Nat} (hs : Own w lo 30 2 A 1 c1 ([t].flatMap Tm.cells)) (hL : Own w lo 2 1 t.L t.xs.length t.a (ints t.xs)) : OTs w lo A 1 c1 [t] := by
  have e2 : [t].flatMap Tm.rows = t.rows := by simp
  unfold OTs
  rw [e2]
  refine ⟨hs, fun r hr => ?_, List.pairwise_singleton _ _, fun r hr => ?_⟩
  · simp only [Tm.rows, List.mem_cons, List.not_mem_nil, or_false] at hr
    subst hr
    exact hL
  · simp only [Tm.rows, List.mem_cons, List.not_mem_nil, or_false] at hr
    subst hr
    show 2 ≠ 30; decide
/-- A store into a configuration's box that is no part of the slice. -/
theorem OTs.set_cfg {g i : Nat} {cur : Array Value} (h : OTs w lo A n c ts) (hb : Blk w g 30 cur) (hA : blk A ≠ some g) (u : Value) : OTs (w.setCell ⟨g, i, none⟩ u) lo A n c ts :=
  ⟨h.spine.far (p := ⟨g, i, none⟩) hA u, fun r hr => Own.far (h.each r hr) (p := ⟨g, i, none⟩) (hb.apt (h.each r hr) (fun e => h.types r hr e.symm)) u, h.apt, h.types⟩
/-- One configuration more, whose rows lie from k on, above all that was. -/
theorem OTs.snoc {A2 : Option Addr} {c2 k : Nat} {t : Tm} {wa : World} (h : OTs wa lo A n c ts) (hk : wa.heap.size ≤ k) (hw : OTs w lo A n c ts) (hs : Own w2 lo 30 2 A2 (n + 1) c2 (ts.flatMap Tm.cells ++ t.cells)) (hg : w.grownBy w2 (blk A))
    (hL : Own w k 2 1 t.L t.xs.length t.a (ints t.xs)) (hlk : lo ≤ k) : OTs w2 lo A2 (n + 1) c2 (ts ++ [t]) := by
  have e1 : (ts ++ [t]).flatMap Tm.cells = ts.flatMap Tm.cells ++ t.cells := by simp
  have e2 : (ts ++ [t]).flatMap Tm.rows = ts.flatMap Tm.rows ++ t.rows := by simp
  unfold OTs
  rw [e1, e2]
  refine Recs.append hw hs hg ?_ (List.pairwise_singleton _ _) ?_ ?_
  · intro r hr
    simp only [Tm.rows, List.mem_cons, List.not_mem_nil, or_false] at hr
    subst hr
    exact hL.mono hlk
  · intro r hr
    simp only [Tm.rows, List.mem_cons, List.not_mem_nil, or_false] at hr
    subst hr
    show 2 ≠ 30; decide
  · refine Recs.apart h hk ?_
    intro r hr b hb
    simp only [Tm.rows, List.mem_cons, List.not_mem_nil, or_false] at hr
    subst hr
    exact hL.blk_ge b hb
end
end Go.Proofs.Ythipbeggaeogcaa
