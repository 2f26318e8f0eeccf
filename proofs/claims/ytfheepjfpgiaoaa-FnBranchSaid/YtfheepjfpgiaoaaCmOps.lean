/-
  Rows of commands that grow.
-/
import Derived.Test.YtfheepjfpgiaoaaCm
namespace Go.Proofs.Ytfheepjfpgiaoaa
open Go.RowKit

section
variable {w w' : World} {A : Option Addr} {n c lo : Nat} {ts us : List Ce}
theorem OC.alloc (h : OC w lo A n c ts) (o : Obj) : OC (w.alloc o) lo A n c ts := h.below ((Below.refl _ _).alloc (Nat.le_refl _) _)
theorem OC.none (w : World) (lo : Nat) : OC w lo none 0 0 [] := ⟨Own.nil, by simp⟩
theorem OC.len (h : OC w lo A n c ts) : ts.length = n := h.sc.len
/-- Rows that stand in blocks of other types stay where the row of commands grows. -/
theorem OC.app {A2 : Option Addr} {m c2 : Nat} (h : OC w lo A n c us) (h2 : ∀ t ∈ ts, Own w lo 118 2 t.A t.e.length t.c (cells2 t.e)) (hs : Own w' lo 99 4 A2 m c2 (us.flatMap Ce.cells ++ ts.flatMap Ce.cells)) (hg : w.grownBy w' (blk A)) : OC w' lo A2 m c2 (us ++ ts) := by
  refine ⟨by rw [List.flatMap_append]; exact hs, fun t ht => ?_⟩
  rcases List.mem_append.1 ht with h1 | h1
  · exact (h.2 t h1).grown_apt h.1 hg (by decide)
  · exact (h2 t h1).grown_apt h.1 hg (by decide)
theorem OC.push {A2 : Option Addr} {m c2 : Nat} {t : Ce} (h : OC w lo A n c us) (h2 : Own w lo 118 2 t.A t.e.length t.c (cells2 t.e)) (hs : Own w' lo 99 4 A2 m c2 (us.flatMap Ce.cells ++ t.cells)) (hg : w.grownBy w' (blk A)) : OC w' lo A2 m c2 (us ++ [t]) :=
  h.app (ts := [t]) (fun x hx => by rw [List.mem_singleton.1 hx]; exact h2) (by simpa using hs) hg
theorem OC.pushR {A2 : Option Addr} {m c2 q d : Nat} {k v l : Int} {E : Option Addr} {rs : List R2} (h : OC w lo A n c us) (hl : rs.length = q) (h2 : Own w lo 118 2 E q d (cells2 rs)) (hs : Own w' lo 99 4 A2 m c2 (us.flatMap Ce.cells ++ [.int .i64 k, .int .i64 v, .int .i64 l, .slice E q d])) (hg : w.grownBy w' (blk A)) : OC w' lo A2 m c2 (us ++ [⟨k, v, l, E, d, rs⟩]) := by
  subst hl
  exact h.push (t := ⟨k, v, l, E, d, rs⟩) h2 hs hg
theorem cmds_app (us ts : List Ce) : cmds (us ++ ts) = cmds us ++ cmds ts := by simp [cmds]
/-- One command behind a place. -/
theorem rd_cmd (w : World) (k v l : Int) (A : Option Addr) (n c : Nat) : Rd (w.alloc (.cells #[.int .i64 k, .int .i64 v, .int .i64 l, .slice A n c] 99)) 4 (some ⟨w.heap.size, 0, none⟩) 1 [.int .i64 k, .int .i64 v, .int .i64 l, .slice A n c] :=
  (Own.lit w #[.int .i64 k, .int .i64 v, .int .i64 l, .slice A n c] 99 1 4 w.heap.size rfl (by simp [maxLen]) (Nat.le_refl _)).rd
end
/-- Commands in new memory. -/
def NewC (w : World) (cs : List Cmd) (e : Ending) (w' : World) : Prop := ∃ A c ts, e = .returned (.slice A (List.length ts) c) ∧ cmds ts = cs ∧ OC w' w.heap.size A ts.length c ts ∧ Below w.heap.size w w'
end Go.Proofs.Ytfheepjfpgiaoaa
