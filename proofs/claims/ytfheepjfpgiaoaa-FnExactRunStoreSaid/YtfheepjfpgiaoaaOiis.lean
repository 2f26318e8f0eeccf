/-
  Slices of rows that grow.
-/
import Derived.Test.YtfheepjfpgiaoaaHelpBC
namespace Go.Proofs.Ytfheepjfpgiaoaa
open Go.RowKit

theorem OII.snoc {wa w w2 : World} {lo n c c2 k : Nat} {e2 e1 : TypeId} {A A2 : Option Addr} {ts : List Sl} {u : Sl} (h : OII wa lo e2 e1 A n c ts) (hw : OII w lo e2 e1 A n c ts) (hs : Own w2 lo e2 1 A2 (n + 1) c2 (ts.map Sl.val ++ [u.val])) (hg : w.grownBy w2 (blk A))
    (hu : Own w k e1 1 u.A u.xs.length u.c (ints u.xs)) (hk : wa.heap.size ≤ k) (hlk : lo ≤ k) (hne : e1 ≠ e2) : OII w2 lo e2 e1 A2 (n + 1) c2 (ts ++ [u]) := by
  have far : ∀ {B : Option Addr} {m d lo' : Nat} {xs : List Value}, Own w lo' e1 1 B m d xs → Own w2 lo' e1 1 B m d xs := fun ho => ho.grown hg (fun g hgA hb => Own.blk_ne hw.1 ho (fun he => hne he.symm) g hgA hb)
  refine ⟨by simpa using hs, fun t ht => ?_, Apt.snoc h.2.2 (fun t ht b hb hb' => ?_)⟩
  · rcases List.mem_append.1 ht with h1 | h1
    · exact far (hw.2.1 t h1)
    · rw [List.mem_singleton.1 h1]; exact (far hu).mono hlk
  · have h1 := (h.2.1 t ht).blk_lt b hb
    have h2 := hu.blk_ge b hb'
    omega
theorem OII.len {w : World} {lo n c : Nat} {e2 e1 : TypeId} {A : Option Addr} {ts : List Sl} (h : OII w lo e2 e1 A n c ts) : ts.length = n := by have := h.1.1; simp at this; omega
/-- The blocks of a slice of rows. -/
def OIIB (A : Option Addr) (ts : List Sl) (b : Nat) : Prop := blk A = some b ∨ ∃ t ∈ ts, blk t.A = some b
theorem OII.keptB {w w' : World} {lo n c : Nat} {e2 e1 : TypeId} {A : Option Addr} {ts : List Sl} (h : OII w lo e2 e1 A n c ts) (hk : ∀ b, OIIB A ts b → w'.heap[b]? = w.heap[b]?) : OII w' lo e2 e1 A n c ts :=
  ⟨h.1.kept (fun b hb _ _ => hk b (.inl hb)), fun t ht => (h.2.1 t ht).kept (fun b hb _ _ => hk b (.inr ⟨t, ht, hb⟩)), h.2.2⟩
theorem OII.blkB {w : World} {lo n c : Nat} {e2 e1 : TypeId} {A : Option Addr} {ts : List Sl} (h : OII w lo e2 e1 A n c ts) : ∀ b, OIIB A ts b → lo ≤ b ∧ b < w.heap.size := by
  rintro b (hb | ⟨t, ht, hb⟩)
  · exact ⟨h.1.blk_ge b hb, h.1.blk_lt b hb⟩
  · exact ⟨(h.2.1 t ht).blk_ge b hb, (h.2.1 t ht).blk_lt b hb⟩
theorem Blk.aptt {w : World} {g : Nat} {t e : TypeId} {cur : Array Value} {lo n c s : Nat} {A : Option Addr} {cs : List Value} (h : Blk w g t cur) (h' : Own w lo e s A n c cs) (hne : t ≠ e) : blk A ≠ some g := by
  intro hb
  rcases h'.2 with ⟨rfl, _⟩ | ⟨b, off, cur2, rfl, _, hg, _⟩
  · simp [blk] at hb
  · simp [blk] at hb; subst hb
    unfold Blk at h
    rw [hg] at h
    simp at h
    exact hne h.2.symm
theorem Blk.growt {w w2 : World} {g : Nat} {t e : TypeId} {cur : Array Value} {lo n c s : Nat} {A : Option Addr} {cs : List Value} (h : Blk w g t cur) (h' : Own w lo e s A n c cs) (hg : w.grownBy w2 (blk A)) (hne : t ≠ e) : Blk w2 g t cur :=
  (hg.block g h.lt (fun e => h.aptt h' hne e.symm)).trans h
theorem OII.set_box {w : World} {lo n c g i : Nat} {t e2 e1 : TypeId} {cur : Array Value} {A : Option Addr} {ts : List Sl} (h : OII w lo e2 e1 A n c ts) (hb : Blk w g t cur) (h1 : t ≠ e2) (h2 : t ≠ e1) (u : Value) : OII (w.setCell ⟨g, i, none⟩ u) lo e2 e1 A n c ts :=
  ⟨h.1.far (p := ⟨g, i, none⟩) (hb.aptt h.1 h1) u, fun x hx => (h.2.1 x hx).far (p := ⟨g, i, none⟩) (hb.aptt (h.2.1 x hx) h2) u, h.2.2⟩
theorem OII.nil {w : World} {lo c : Nat} {e2 e1 : TypeId} {A : Option Addr} (h : Own w lo e2 1 A 0 c []) : OII w lo e2 e1 A 0 c [] := ⟨h, by simp, List.Pairwise.nil⟩
theorem OII.one {w : World} {lo c : Nat} {e2 e1 : TypeId} {A : Option Addr} {u : Sl} (h : Own w lo e2 1 A 1 c [u.val]) (hu : Own w lo e1 1 u.A u.xs.length u.c (ints u.xs)) : OII w lo e2 e1 A 1 c [u] := ⟨by simpa using h, by simpa using hu, List.pairwise_singleton _ _⟩
end Go.Proofs.Ytfheepjfpgiaoaa
