/-
  Slices of configurations.
-/
import Derived.Test.YthipbeggaeogcaaMachO
import Derived.Test.YthipbeggaeogcaaRecs
namespace Go.Proofs.Ythipbeggaeogcaa
open Go.RowKit

theorem elCfg : Elem Try.prog 190 172 3 56 (.agg #[.int .i64 0, .slice none 0 0, .slice none 0 0]) := ⟨Try.underlying190, by kernel_rfl, rfl, by decide⟩
/-- A configuration in memory. -/
structure Cf where
  q : Int
  L : Option Addr
  a : Nat
  xs : List Int
  R : Option Addr
  d : Nat
  ys : List Int
def Cf.cells (t : Cf) : List Value := [.int .i64 t.q, .slice t.L t.xs.length t.a, .slice t.R t.ys.length t.d]
def Cf.rows (t : Cf) : List Rw := [Rw.i 2 t.L t.a t.xs, Rw.i 2 t.R t.d t.ys]
def Cf.conf (t : Cf) : Conf := ⟨t.q, t.xs, t.ys⟩
theorem Cf.cells_len (t : Cf) : t.cells.length = 3 := rfl
theorem Cf.one (ts : List Cf) : ∀ u ∈ ts.flatMap Cf.cells, u.oneCell' = true := by
  intro u hu
  simp only [List.mem_flatMap, Cf.cells, List.mem_cons, List.not_mem_nil, or_false] at hu
  obtain ⟨t, _, h | h | h⟩ := hu <;> subst h <;> rfl
/-- An owned slice of configurations, all rows apart. -/
def OCs (w : World) (lo : Nat) (A : Option Addr) (n c : Nat) (ts : List Cf) : Prop := Recs w lo 172 3 A n c (ts.flatMap Cf.cells) (ts.flatMap Cf.rows)
def confs (ts : List Cf) : List Conf := ts.map Cf.conf
section
variable {w w' w2 : World} {lo lo' n c : Nat} {A : Option Addr} {ts : List Cf}
theorem OCs.len (h : OCs w lo A n c ts) : ts.length = n := by have := h.spine.1; rw [flat_len Cf.cells_len] at this; omega
theorem OCs.below (h : OCs w lo A n c ts) (z : Below w.heap.size w w') : OCs w' lo A n c ts := Recs.below h z
theorem OCs.mono (h : OCs w lo A n c ts) (hl : lo' ≤ lo) : OCs w lo' A n c ts := Recs.mono h hl
theorem OCs.drewN (h : OCs w lo A n c ts) (k : Nat) : OCs (w.drewN k) lo A n c ts := Recs.drewN h k
theorem OCs.alloc (h : OCs w lo A n c ts) (o : Obj) : OCs (w.alloc o) lo A n c ts := Recs.alloc h o
/-- The k-th configuration. -/
theorem OCs.pick (h : OCs w lo A n c ts) {k : Nat} (hk : k < n) : ∃ t b off, Hid (ts[k]? = some t) ∧ A = some ⟨b, off, none⟩ ∧ b < w.heap.size ∧ lo ≤ b ∧ w.cell? ⟨b, off + k * 3, none⟩ = some (.int .i64 t.q) ∧ w.cell? ⟨b, off + k * 3 + 1, none⟩ = some (.slice t.L t.xs.length t.a) ∧ w.cell? ⟨b, off + k * 3 + 2, none⟩ = some (.slice t.R t.ys.length t.d) ∧
    Own w lo 2 1 t.L t.xs.length t.a (ints t.xs) ∧ Own w lo 2 1 t.R t.ys.length t.d (ints t.ys) ∧ (∀ j, w.frozen? ⟨b, j, none⟩ = false) := by
  have hl := h.len
  have hT : ts[k]? = some (ts[k]'(by omega)) := List.getElem?_eq_getElem (by omega)
  have hmem : ts[k]'(by omega) ∈ ts := List.getElem_mem _
  revert hT hmem
  generalize ts[k]'(by omega) = t
  intro hT hmem
  have hfl : (ts.flatMap Cf.cells).length = n * 3 := by rw [flat_len Cf.cells_len, hl]
  rcases h.spine.2 with ⟨_, h1, _⟩ | ⟨b, off, cur, hA, hb, hg, hnc, hcm, hfit, hc⟩
  · omega
  · have cell : ∀ j, (hj : j < 3) → w.cell? ⟨b, off + (k * 3 + j), none⟩ = some (t.cells[j]'(by rw [Cf.cells_len]; exact hj)) := by
      intro j hj
      have h1 := flat_get Cf.cells_len hT hj
      rw [List.getElem?_eq_getElem (l := t.cells) (i := j) (by rw [Cf.cells_len]; exact hj)] at h1
      obtain ⟨h2, h3⟩ := List.getElem?_eq_some_iff.1 h1
      have h4 := hc (k * 3 + j) h2
      rw [h3] at h4
      rw [← h4]; simp [World.cell?, hg]
    refine ⟨t, b, off, hT, hA, (Array.getElem?_eq_some_iff.1 hg).1, hb, cell 0 (by omega), ?_, ?_, ?_, ?_, fun j => by simp [World.frozen?, hg]⟩
    · rw [Nat.add_assoc]; exact cell 1 (by omega)
    · rw [Nat.add_assoc]; exact cell 2 (by omega)
    · exact h.each (Rw.i 2 t.L t.a t.xs) (List.mem_flatMap.2 ⟨t, hmem, by simp [Cf.rows]⟩)
    · exact h.each (Rw.i 2 t.R t.d t.ys) (List.mem_flatMap.2 ⟨t, hmem, by simp [Cf.rows]⟩)
theorem OCs.set_blk {g i : Nat} {t : TypeId} {cur : Array Value} (h : OCs w lo A n c ts) (hb : Blk w g t cur) (h1 : t ≠ 172) (h2 : t ≠ 2) (u : Value) : OCs (w.setCell ⟨g, i, none⟩ u) lo A n c ts :=
  Recs.set_blk h hb h1 (fun r hr => by
    obtain ⟨x, _, hx⟩ := List.mem_flatMap.1 hr
    simp only [Cf.rows, List.mem_cons, List.not_mem_nil, or_false] at hx
    rcases hx with rfl | rfl <;> exact h2) u
theorem OCs.set_far {g i : Nat} (h : OCs w lo A n c ts) (hg : g < lo) (u : Value) : OCs (w.setCell ⟨g, i, none⟩ u) lo A n c ts := Recs.set_far h hg u
theorem OCs.nil (h : Own w lo 172 3 A 0 c []) : OCs w lo A 0 c [] := Recs.nil h
/-- The cells of a configuration's box. -/
theorem Cf.new (w : World) (t : Cf) : Rd (w.alloc (.cells #[.int .i64 t.q, .slice t.L t.xs.length t.a, .slice t.R t.ys.length t.d] 172)) 3 (some ⟨w.heap.size, 0, none⟩) 1 t.cells := by
  refine ⟨rfl, fun _ => ⟨_, 0, rfl, fun k hk => ?_⟩⟩
  rw [cell_of_row _ w.heap.size (0 + k) _ 172 (0, 0) (heap_alloc_new w _)]
  rw [Cf.cells_len] at hk
  match k, hk with
  | 0, _ => rfl
  | 1, _ => rfl
  | 2, _ => rfl
theorem OCs.one {t : Cf} {c1 : Nat} (hs : Own w lo 172 3 A 1 c1 ([t].flatMap Cf.cells)) (hL : Own w lo 2 1 t.L t.xs.length t.a (ints t.xs)) (hR : Own w lo 2 1 t.R t.ys.length t.d (ints t.ys)) (hap : ∀ b, blk t.L = some b → blk t.R ≠ some b) : OCs w lo A 1 c1 [t] := by
  have e2 : [t].flatMap Cf.rows = t.rows := by simp
  unfold OCs
  rw [e2]
  refine ⟨hs, fun r hr => ?_, ?_, fun r hr => ?_⟩
  · simp only [Cf.rows, List.mem_cons, List.not_mem_nil, or_false] at hr
    rcases hr with rfl | rfl
    · exact hL
    · exact hR
  · refine List.Pairwise.cons ?_ (List.pairwise_singleton _ _)
    intro r hr
    simp only [List.mem_cons, List.not_mem_nil, or_false] at hr
    subst hr
    exact hap
  · simp only [Cf.rows, List.mem_cons, List.not_mem_nil, or_false] at hr
    rcases hr with rfl | rfl <;> (show 2 ≠ 172; decide)
/-- A store into a configuration's box that is no part of the slice. -/
theorem OCs.set_cfg {g i : Nat} {cur : Array Value} (h : OCs w lo A n c ts) (hb : Blk w g 172 cur) (hA : blk A ≠ some g) (u : Value) : OCs (w.setCell ⟨g, i, none⟩ u) lo A n c ts :=
  ⟨h.spine.far (p := ⟨g, i, none⟩) hA u, fun r hr => Own.far (h.each r hr) (p := ⟨g, i, none⟩) (hb.apt (h.each r hr) (fun e => h.types r hr e.symm)) u, h.apt, h.types⟩
/-- One configuration more, whose rows lie from k on, above all that was. -/
theorem OCs.snoc {A2 : Option Addr} {c2 k : Nat} {t : Cf} {wa : World} (h : OCs wa lo A n c ts) (hk : wa.heap.size ≤ k) (hw : OCs w lo A n c ts) (hs : Own w2 lo 172 3 A2 (n + 1) c2 (ts.flatMap Cf.cells ++ t.cells)) (hg : w.grownBy w2 (blk A))
    (hL : Own w k 2 1 t.L t.xs.length t.a (ints t.xs)) (hR : Own w k 2 1 t.R t.ys.length t.d (ints t.ys)) (hap : ∀ b, blk t.L = some b → blk t.R ≠ some b) (hlk : lo ≤ k) : OCs w2 lo A2 (n + 1) c2 (ts ++ [t]) := by
  have e1 : (ts ++ [t]).flatMap Cf.cells = ts.flatMap Cf.cells ++ t.cells := by simp
  have e2 : (ts ++ [t]).flatMap Cf.rows = ts.flatMap Cf.rows ++ t.rows := by simp
  unfold OCs
  rw [e1, e2]
  refine Recs.append hw hs hg ?_ ?_ ?_ ?_
  · intro r hr
    simp only [Cf.rows, List.mem_cons, List.not_mem_nil, or_false] at hr
    rcases hr with rfl | rfl
    · exact hL.mono hlk
    · exact hR.mono hlk
  · refine List.Pairwise.cons ?_ (List.pairwise_singleton _ _)
    intro r hr
    simp only [List.mem_cons, List.not_mem_nil, or_false] at hr
    subst hr
    exact hap
  · intro r hr
    simp only [Cf.rows, List.mem_cons, List.not_mem_nil, or_false] at hr
    rcases hr with rfl | rfl <;> (show 2 ≠ 172; decide)
  · refine Recs.apart h hk ?_
    intro r hr b hb
    simp only [Cf.rows, List.mem_cons, List.not_mem_nil, or_false] at hr
    rcases hr with rfl | rfl
    · exact hL.blk_ge b hb
    · exact hR.blk_ge b hb
end
end Go.Proofs.Ythipbeggaeogcaa
