/-
  Marks that are read again, for [][]int64; owned rows behind other marks.
-/
import Derived.Test.YtfheepjfpgiaoaaHelpL
import Derived.Test.YtfheepjfpgiaoaaHelpQ
namespace Go.Proofs.Ytfheepjfpgiaoaa
open Go.RowKit

theorem OII.blk_ge {w : World} {lo : Nat} {e2 e1 : TypeId} {A : Option Addr} {n c : Nat} {ts : List Sl} (h : OII w lo e2 e1 A n c ts) : ∀ b, blk A = some b → lo ≤ b := h.1.blk_ge
theorem OII.mono {w : World} {lo lo' : Nat} {e2 e1 : TypeId} {A : Option Addr} {n c : Nat} {ts : List Sl} (h : OII w lo e2 e1 A n c ts) (hl : lo' ≤ lo) : OII w lo' e2 e1 A n c ts := ⟨h.1.mono hl, fun t ht => (h.2.1 t ht).mono hl, h.2.2⟩
theorem OII.alloc {w : World} {lo : Nat} {e2 e1 : TypeId} {A : Option Addr} {n c : Nat} {ts : List Sl} (h : OII w lo e2 e1 A n c ts) (o : Obj) : OII (w.alloc o) lo e2 e1 A n c ts := ⟨h.1.alloc o, fun t ht => (h.2.1 t ht).alloc o, h.2.2⟩
theorem OII.mkf_far {T : List TypeId} {w w' : World} {l hh lo : Nat} {e2 e1 : TypeId} {A : Option Addr} {n c : Nat} {ts : List Sl} (h : OII w lo e2 e1 A n c ts) (hf : MkF T l hh w w') (hd : ∀ b, lo ≤ b → b < l ∨ hh ≤ b) : OII w' lo e2 e1 A n c ts :=
  ⟨h.1.mkf_far hf (fun b hb => hd b (h.1.blk_ge b hb)), fun t ht => (h.2.1 t ht).mkf_far hf (fun b hb => hd b ((h.2.1 t ht).blk_ge b hb)), h.2.2⟩
theorem OII.mkf_below {T : List TypeId} {w0 w w' : World} {l hh lo : Nat} {e2 e1 : TypeId} {A : Option Addr} {n c : Nat} {ts : List Sl} (h0 : OII w0 lo e2 e1 A n c ts) (hl : w0.heap.size ≤ l) (h : OII w lo e2 e1 A n c ts) (hf : MkF T l hh w w') : OII w' lo e2 e1 A n c ts :=
  ⟨h.1.mkf_far hf (fun b hb => .inl (by have := h0.1.blk_lt b hb; omega)), fun t ht => (h.2.1 t ht).mkf_far hf (fun b hb => .inl (by have := (h0.2.1 t ht).blk_lt b hb; omega)), h.2.2⟩
theorem OII.touch_below {w0 w w' : World} {l hh lo : Nat} {e2 e1 : TypeId} {A : Option Addr} {n c : Nat} {ts : List Sl} (h0 : OII w0 lo e2 e1 A n c ts) (hl : w0.heap.size ≤ l) (h : OII w lo e2 e1 A n c ts) (ht : Tch l hh w w') : OII w' lo e2 e1 A n c ts :=
  ⟨h.1.touch ht (fun b hb => .inl (by have := h0.1.blk_lt b hb; omega)), fun t htm => (h.2.1 t htm).touch ht (fun b hb => .inl (by have := (h0.2.1 t htm).blk_lt b hb; omega)), h.2.2⟩

def offs (us : List Sl) (k : Nat) : Nat := total (us.take k)
theorem offs_zero (us : List Sl) : offs us 0 = 0 := by simp [offs, total]
theorem offs_next {us : List Sl} {t : Sl} {k : Nat} (hT : us[k]? = some t) : offs us (k + 1) = offs us k + t.xs.length := total_take hT
theorem offs_le (us : List Sl) (k : Nat) : offs us k ≤ total us := total_take_le us k
theorem offs_end {us : List Sl} {k : Nat} (h : us.length ≤ k) : offs us k = total us := by unfold offs; rw [List.take_of_length_le h]
/-- The rows hold marks that run on from row to row. -/
def MarkedII (w : World) (A : Option Addr) (n : Nat) (us : List Sl) (p : Int) : Prop := Rd w 1 A n (us.map Sl.val) ∧ ∀ k t, us[k]? = some t → SI w t.A t.xs.length (marks (p + offs us k) t.xs.length)
theorem MarkedII.below {w w' : World} {A : Option Addr} {n : Nat} {us : List Sl} {p : Int} (h : MarkedII w A n us p) (z : Below w.heap.size w w') : MarkedII w' A n us p := ⟨h.1.below z, fun k t ht => (h.2 k t ht).below z⟩
def MarkII (w : World) (lo hi : Nat) (A : Option Addr) (n : Nat) (us : List Sl) (p : Int) (e : Ending) (w' : World) : Prop := e = .returned (.int .i64 (p + total us)) ∧ MarkedII w' A n us p ∧ Tch lo hi w w'
/-- What holds behind the first k rows. -/
def MarkTo (w : World) (lo hi : Nat) (A : Option Addr) (n c : Nat) (us : List Sl) (p : Int) (k : Nat) (wr : World) : Prop :=
  Own wr lo 48 1 A n c (us.map Sl.val) ∧ (∀ j t, us[j]? = some t → j < k → SI wr t.A t.xs.length (marks (p + offs us j) t.xs.length)) ∧ (∀ j t, us[j]? = some t → k ≤ j → Own wr lo 2 1 t.A t.xs.length t.c (ints t.xs)) ∧ Tch lo hi w wr
theorem apt_of {us : List Sl} (h : us.Pairwise Apt) {i j : Nat} {t u : Sl} (hi : us[i]? = some t) (hj : us[j]? = some u) (hne : i ≠ j) : ∀ b, blk t.A = some b → blk u.A ≠ some b := by
  obtain ⟨hi1, rfl⟩ := List.getElem?_eq_some_iff.1 hi
  obtain ⟨hj1, rfl⟩ := List.getElem?_eq_some_iff.1 hj
  rw [List.pairwise_iff_getElem] at h
  rcases Nat.lt_or_gt_of_ne hne with hlt | hlt
  · exact h i j hi1 hj1 hlt
  · intro b h1 h2
    exact h j i hj1 hi1 hlt b h2 h1
theorem MarkTo.step {w wr w' : World} {lo hi : Nat} {A : Option Addr} {n c : Nat} {us : List Sl} {p : Int} {k : Nat} {t : Sl} (h : MarkTo w lo hi A n c us p k wr) (hap : us.Pairwise Apt) (hT : us[k]? = some t) (hne : 2 ≠ 48) (ho : OwnE w' lo 2 t.A t.xs.length t.c (marks (p + offs us k) t.xs.length)) (ht : Tch lo hi wr w') (hs : ∀ b, blk t.A ≠ some b → w'.heap[b]? = wr.heap[b]?) : MarkTo w lo hi A n c us p (k + 1) w' := by
  obtain ⟨h1, h2, h3, h4⟩ := h
  have hrow := h3 k t hT (Nat.le_refl _)
  refine ⟨h1.kept fun b hb _ _ => hs b (fun e => hrow.blk_ne h1 hne b e hb), ?_, ?_, h4.trans ht⟩
  · intro j u hu hj
    by_cases e : j = k
    · subst e
      rw [hT] at hu
      cases hu
      exact ho.si
    · refine Rd.keep (h2 j u hu (by omega)) fun q hq hbq => ?_
      exact World.cell?_of_block (hs q.block (fun e2 => apt_of hap hT hu (Ne.symm e) q.block e2 hbq.symm))
  · intro j u hu hj
    exact (h3 j u hu (by omega)).kept fun b hb _ _ => hs b (fun e2 => apt_of hap hT hu (by omega) b e2 hb)

theorem total_of {us : List Sl} {M : List (List Int)} {b : Nat} (h : nums us = M) (hl : (M.map List.length).sum ≤ b) : total us ≤ b := by rw [total_of_nums, h]; exact hl
end Go.Proofs.Ytfheepjfpgiaoaa
