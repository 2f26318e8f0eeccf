/-
  Marks that are read again, for [][]int64; owned rows behind other marks.
-/
import Derived.Test.YtokglpdlhacnaaaPkMarkov0
import Derived.Test.YtokglpdlhacnaaaPkMarkov1
import Derived.Deep.RegionHeld3
import Derived.Deep.DeepCutAuto
import Derived.BigGuardPart
import Derived.RegionTactic
import Derived.Deep.RegionLaw
namespace Go.Proofs.Ytokglpdlhacnaaa
open Go.RowKit

theorem OII.blk_ge {w : World} {lo : Nat} {e2 e1 : TypeId} {A : Option Addr} {n c : Nat} {ts : List Sl} (h : OII w lo e2 e1 A n c ts) : ∀ b, blk A = some b → lo ≤ b := h.1.blk_ge
theorem OII.mono {w : World} {lo lo' : Nat} {e2 e1 : TypeId} {A : Option Addr} {n c : Nat} {ts : List Sl} (h : OII w lo e2 e1 A n c ts) (hl : lo' ≤ lo) : OII w lo' e2 e1 A n c ts := ⟨h.1.mono hl, fun t ht => (h.2.1 t ht).mono hl, h.2.2⟩
theorem OII.alloc {w : World} {lo : Nat} {e2 e1 : TypeId} {A : Option Addr} {n c : Nat} {ts : List Sl} (h : OII w lo e2 e1 A n c ts) (o : Obj) : OII (w.alloc o) lo e2 e1 A n c ts := ⟨h.1.alloc o, fun t ht => (h.2.1 t ht).alloc o, h.2.2⟩
theorem OII.mkf_far {T : List TypeId} {w w' : World} {l hh lo : Nat} {e2 e1 : TypeId} {A : Option Addr} {n c : Nat} {ts : List Sl} (h : OII w lo e2 e1 A n c ts) (hf : MkF T l hh w w') (hd : ∀ b, lo ≤ b → b < l ∨ hh ≤ b) : OII w' lo e2 e1 A n c ts :=
  ⟨h.1.mkf_far hf (fun b hb => hd b (h.1.blk_ge b hb)), fun t ht => (h.2.1 t ht).mkf_far hf (fun b hb => hd b ((h.2.1 t ht).blk_ge b hb)), h.2.2⟩
theorem OII.mkf_below {T : List TypeId} {w0 w w' : World} {l hh lo : Nat} {e2 e1 : TypeId} {A : Option Addr} {n c : Nat} {ts : List Sl} (h0 : OII w0 lo e2 e1 A n c ts) (hl : w0.heap.size ≤ l) (h : OII w lo e2 e1 A n c ts) (hf : MkF T l hh w w') : OII w' lo e2 e1 A n c ts :=
  ⟨h.1.mkf_far hf (fun b hb => .inl (by have := h0.1.blk_lt b hb; omega)), fun t ht => (h.2.1 t ht).mkf_far hf (fun b hb => .inl (by have := (h0.2.1 t ht).blk_lt b hb; omega)), h.2.2⟩
theorem OII.touch_below {w0 w w' : World} {l hh lo : Nat} {e2 e1 : TypeId} {A : Option Addr} {n c : Nat} {ts : List Sl} (h0 : OII w0 lo e2 e1 A n c ts) (hl : w0.heap.size ≤ l) (h : OII w lo e2 e1 A n c ts) (ht : Tch l hh w w') : OII w' lo e2 e1 A n c ts :=
  ⟨h.1.touch ht (fun b hb => .inl (by have := h0.1.blk_lt b hb; omega)), fun t htm => (h.2.1 t htm).touch ht (fun b hb => .inl (by have := (h0.2.1 t htm).blk_lt b hb; omega)), h.2.2⟩

def offs (us : List Sl) (k : Nat) : Nat := total (us.take k)
theorem offs_zero (us : List Sl) : offs us 0 = 0 := by simp [offs, total]
theorem offs_next {us : List Sl} {t : Sl} {k : Nat} (hT : us[k]? = some t) : offs us (k + 1) = offs us k + t.xs.length := total_take hT
theorem offs_le (us : List Sl) (k : Nat) : offs us k ≤ total us := total_take_le us k
theorem offs_end {us : List Sl} {k : Nat} (h : us.length ≤ k) : offs us k = total us := by unfold offs; rw [List.take_of_length_le h]
/-- The rows hold marks that run on from row to row. -/
def MarkedII (w : World) (A : Option Addr) (n : Nat) (us : List Sl) (p : Int) : Prop := Rd w 1 A n (us.map Sl.val) ∧ ∀ k t, us[k]? = some t → SI w t.A t.xs.length (marks (p + offs us k) t.xs.length)
theorem MarkedII.below {w w' : World} {A : Option Addr} {n : Nat} {us : List Sl} {p : Int} (h : MarkedII w A n us p) (z : Below w.heap.size w w') : MarkedII w' A n us p := ⟨h.1.below z, fun k t ht => (h.2 k t ht).below z⟩
def MarkII (w : World) (lo hi : Nat) (A : Option Addr) (n : Nat) (us : List Sl) (p : Int) (e : Ending) (w' : World) : Prop := e = .returned (.int .i64 (p + total us)) ∧ MarkedII w' A n us p ∧ Tch lo hi w w'
/-- What holds behind the first k rows. -/
def MarkTo (w : World) (lo hi : Nat) (A : Option Addr) (n c : Nat) (us : List Sl) (p : Int) (k : Nat) (wr : World) : Prop :=
  Own wr lo 27 1 A n c (us.map Sl.val) ∧ (∀ j t, us[j]? = some t → j < k → SI wr t.A t.xs.length (marks (p + offs us j) t.xs.length)) ∧ (∀ j t, us[j]? = some t → k ≤ j → Own wr lo 2 1 t.A t.xs.length t.c (ints t.xs)) ∧ Tch lo hi w wr
theorem apt_of {us : List Sl} (h : us.Pairwise Apt) {i j : Nat} {t u : Sl} (hi : us[i]? = some t) (hj : us[j]? = some u) (hne : i ≠ j) : ∀ b, blk t.A = some b → blk u.A ≠ some b := by
  obtain ⟨hi1, rfl⟩ := List.getElem?_eq_some_iff.1 hi
  obtain ⟨hj1, rfl⟩ := List.getElem?_eq_some_iff.1 hj
  rw [List.pairwise_iff_getElem] at h
  rcases Nat.lt_or_gt_of_ne hne with hlt | hlt
  · exact h i j hi1 hj1 hlt
  · intro b h1 h2
    exact h j i hj1 hi1 hlt b h2 h1
theorem MarkTo.step {w wr w' : World} {lo hi : Nat} {A : Option Addr} {n c : Nat} {us : List Sl} {p : Int} {k : Nat} {t : Sl} (h : MarkTo w lo hi A n c us p k wr) (hap : us.Pairwise Apt) (hT : us[k]? = some t) (hne : 2 ≠ 27) (ho : OwnE w' lo 2 t.A t.xs.length t.c (marks (p + offs us k) t.xs.length)) (ht : Tch lo hi wr w') (hs : ∀ b, blk t.A ≠ some b → w'.heap[b]? = wr.heap[b]?) : MarkTo w lo hi A n c us p (k + 1) w' := by
  obtain ⟨h1, h2, h3, h4⟩ := h
  have hrow := h3 k t hT (Nat.le_refl _)
  refine ⟨h1.kept fun b hb _ _ => hs b (fun e => hrow.blk_ne h1 hne b e hb), ?_, ?_, h4.trans ht⟩
  · intro j u hu hj
    by_cases e : j = k
    · subst e
      rw [hT] at hu
      cases hu
      exact ho.si
    · refine Rd.keep (h2 j u hu (by omega)) fun q hq hbq => ?_
      exact World.cell?_of_block (hs q.block (fun e2 => apt_of hap hT hu (Ne.symm e) q.block e2 hbq.symm))
  · intro j u hu hj
    exact (h3 j u hu (by omega)).kept fun b hb _ _ => hs b (fun e2 => apt_of hap hT hu (by omega) b e2 hb)

theorem total_of {us : List Sl} {M : List (List Int)} {b : Nat} (h : nums us = M) (hl : (M.map List.length).sum ≤ b) : total us ≤ b := by rw [total_of_nums, h]; exact hl
end Go.Proofs.Ytokglpdlhacnaaa

/-
  Slices of rows that grow.
-/
namespace Go.Proofs.Ytokglpdlhacnaaa
open Go.RowKit

theorem OII.snoc {wa w w2 : World} {lo n c c2 k : Nat} {e2 e1 : TypeId} {A A2 : Option Addr} {ts : List Sl} {u : Sl} (h : OII wa lo e2 e1 A n c ts) (hw : OII w lo e2 e1 A n c ts) (hs : Own w2 lo e2 1 A2 (n + 1) c2 (ts.map Sl.val ++ [u.val])) (hg : w.grownBy w2 (blk A))
    (hu : Own w k e1 1 u.A u.xs.length u.c (ints u.xs)) (hk : wa.heap.size ≤ k) (hlk : lo ≤ k) (hne : e1 ≠ e2) : OII w2 lo e2 e1 A2 (n + 1) c2 (ts ++ [u]) := by
  have far : ∀ {B : Option Addr} {m d lo' : Nat} {xs : List Value}, Own w lo' e1 1 B m d xs → Own w2 lo' e1 1 B m d xs := fun ho => ho.grown hg (fun g hgA hb => Own.blk_ne hw.1 ho (fun he => hne he.symm) g hgA hb)
  refine ⟨by simpa using hs, fun t ht => ?_, Apt.snoc h.2.2 (fun t ht b hb hb' => ?_)⟩
  · rcases List.mem_append.1 ht with h1 | h1
    · exact far (hw.2.1 t h1)
    · rw [List.mem_singleton.1 h1]; exact (far hu).mono hlk
  · have h1 := (h.2.1 t ht).blk_lt b hb
    have h2 := hu.blk_ge b hb'
    omega
theorem OII.len {w : World} {lo n c : Nat} {e2 e1 : TypeId} {A : Option Addr} {ts : List Sl} (h : OII w lo e2 e1 A n c ts) : ts.length = n := by have := h.1.1; simp at this; omega
/-- The blocks of a slice of rows. -/
def OIIB (A : Option Addr) (ts : List Sl) (b : Nat) : Prop := blk A = some b ∨ ∃ t ∈ ts, blk t.A = some b
theorem OII.keptB {w w' : World} {lo n c : Nat} {e2 e1 : TypeId} {A : Option Addr} {ts : List Sl} (h : OII w lo e2 e1 A n c ts) (hk : ∀ b, OIIB A ts b → w'.heap[b]? = w.heap[b]?) : OII w' lo e2 e1 A n c ts :=
  ⟨h.1.kept (fun b hb _ _ => hk b (.inl hb)), fun t ht => (h.2.1 t ht).kept (fun b hb _ _ => hk b (.inr ⟨t, ht, hb⟩)), h.2.2⟩
theorem OII.blkB {w : World} {lo n c : Nat} {e2 e1 : TypeId} {A : Option Addr} {ts : List Sl} (h : OII w lo e2 e1 A n c ts) : ∀ b, OIIB A ts b → lo ≤ b ∧ b < w.heap.size := by
  rintro b (hb | ⟨t, ht, hb⟩)
  · exact ⟨h.1.blk_ge b hb, h.1.blk_lt b hb⟩
  · exact ⟨(h.2.1 t ht).blk_ge b hb, (h.2.1 t ht).blk_lt b hb⟩
theorem Blk.aptt {w : World} {g : Nat} {t e : TypeId} {cur : Array Value} {lo n c s : Nat} {A : Option Addr} {cs : List Value} (h : Blk w g t cur) (h' : Own w lo e s A n c cs) (hne : t ≠ e) : blk A ≠ some g := by
  intro hb
  rcases h'.2 with ⟨rfl, _⟩ | ⟨b, off, cur2, rfl, _, hg, _⟩
  · simp [blk] at hb
  · simp [blk] at hb; subst hb
    unfold Blk at h
    rw [hg] at h
    simp at h
    exact hne h.2.symm
theorem Blk.growt {w w2 : World} {g : Nat} {t e : TypeId} {cur : Array Value} {lo n c s : Nat} {A : Option Addr} {cs : List Value} (h : Blk w g t cur) (h' : Own w lo e s A n c cs) (hg : w.grownBy w2 (blk A)) (hne : t ≠ e) : Blk w2 g t cur :=
  (hg.block g h.lt (fun e => h.aptt h' hne e.symm)).trans h
theorem OII.set_box {w : World} {lo n c g i : Nat} {t e2 e1 : TypeId} {cur : Array Value} {A : Option Addr} {ts : List Sl} (h : OII w lo e2 e1 A n c ts) (hb : Blk w g t cur) (h1 : t ≠ e2) (h2 : t ≠ e1) (u : Value) : OII (w.setCell ⟨g, i, none⟩ u) lo e2 e1 A n c ts :=
  ⟨h.1.far (p := ⟨g, i, none⟩) (hb.aptt h.1 h1) u, fun x hx => (h.2.1 x hx).far (p := ⟨g, i, none⟩) (hb.aptt (h.2.1 x hx) h2) u, h.2.2⟩
theorem OII.nil {w : World} {lo c : Nat} {e2 e1 : TypeId} {A : Option Addr} (h : Own w lo e2 1 A 0 c []) : OII w lo e2 e1 A 0 c [] := ⟨h, by simp, List.Pairwise.nil⟩
theorem OII.one {w : World} {lo c : Nat} {e2 e1 : TypeId} {A : Option Addr} {u : Sl} (h : Own w lo e2 1 A 1 c [u.val]) (hu : Own w lo e1 1 u.A u.xs.length u.c (ints u.xs)) : OII w lo e2 e1 A 1 c [u] := ⟨by simpa using h, by simpa using hu, List.pairwise_singleton _ _⟩
end Go.Proofs.Ytokglpdlhacnaaa

/-
  Rules of rewriting and of Markov algorithms in memory.
-/
namespace Go.Proofs.Ytokglpdlhacnaaa
open Go.RowKit

theorem elRk : Elem Try.prog 154 157 2 48 (.agg #[.slice none 0 0, .slice none 0 0]) := ⟨Try.underlying154, by kernel_rfl, rfl, by decide⟩
/-- A rule in memory. -/
structure Rk where
  A : Option Addr
  a : Nat
  xs : List Int
  B : Option Addr
  b : Nat
  ys : List Int
def Rk.cells (t : Rk) : List Value := [.slice t.A t.xs.length t.a, .slice t.B t.ys.length t.b]
theorem Rk.cells_len (t : Rk) : t.cells.length = 2 := rfl
theorem Rk.one (ts : List Rk) : ∀ u ∈ ts.flatMap Rk.cells, u.oneCell' = true := by
  intro u hu
  simp only [List.mem_flatMap, Rk.cells, List.mem_cons, List.not_mem_nil, or_false] at hu
  obtain ⟨t, _, h | h⟩ := hu <;> subst h <;> rfl
/-- An owned slice of rules; their words are owned as well. -/
def ORk (w : World) (lo : Nat) (A : Option Addr) (n c : Nat) (ts : List Rk) : Prop :=
  Own w lo 157 2 A n c (ts.flatMap Rk.cells) ∧ ∀ t ∈ ts, Own w lo 2 1 t.A t.xs.length t.a (ints t.xs) ∧ Own w lo 2 1 t.B t.ys.length t.b (ints t.ys)
section
variable {w w' w2 : World} {lo lo' n c : Nat} {A : Option Addr} {ts : List Rk}
theorem ORk.len (h : ORk w lo A n c ts) : ts.length = n := by have := h.1.1; rw [flat_len Rk.cells_len] at this; omega
theorem ORk.below (h : ORk w lo A n c ts) (z : Below w.heap.size w w') : ORk w' lo A n c ts := ⟨h.1.below z, fun t ht => ⟨(h.2 t ht).1.below z, (h.2 t ht).2.below z⟩⟩
theorem ORk.mono (h : ORk w lo A n c ts) (hl : lo' ≤ lo) : ORk w lo' A n c ts := ⟨h.1.mono hl, fun t ht => ⟨(h.2 t ht).1.mono hl, (h.2 t ht).2.mono hl⟩⟩
theorem ORk.alloc (h : ORk w lo A n c ts) (o : Obj) : ORk (w.alloc o) lo A n c ts := ⟨h.1.alloc o, fun t ht => ⟨(h.2 t ht).1.alloc o, (h.2 t ht).2.alloc o⟩⟩
theorem ORk.kb {b : Nat} (h : ORk w lo A n c ts) (k : Kb b w w') (hb : b < lo) : ORk w' lo A n c ts := ⟨k.own' h.1 hb, fun t ht => ⟨k.own' (h.2 t ht).1 hb, k.own' (h.2 t ht).2 hb⟩⟩
theorem ORk.snoc {A2 : Option Addr} {c2 : Nat} {t : Rk} (h : ORk w lo A n c ts) (hs : Own w2 lo 157 2 A2 (n + 1) c2 (ts.flatMap Rk.cells ++ t.cells)) (hg : w.grownBy w2 (blk A)) (h1 : Own w lo 2 1 t.A t.xs.length t.a (ints t.xs)) (h2 : Own w lo 2 1 t.B t.ys.length t.b (ints t.ys)) : ORk w2 lo A2 (n + 1) c2 (ts ++ [t]) := by
  have far : ∀ {B : Option Addr} {m d : Nat} {xs : List Value}, Own w lo 2 1 B m d xs → Own w2 lo 2 1 B m d xs := fun ho => ho.grown hg (fun g hgA hb => Own.blk_ne h.1 ho (by decide) g hgA hb)
  refine ⟨by rw [List.flatMap_append]; simpa using hs, fun u hu => ?_⟩
  rcases List.mem_append.1 hu with hu | hu
  · exact ⟨far (h.2 u hu).1, far (h.2 u hu).2⟩
  · obtain rfl := List.mem_singleton.1 hu
    exact ⟨far h1, far h2⟩
theorem ORk.pick (h : ORk w lo A n c ts) {k : Nat} (hk : k < n) : ∃ t b off, Hid (ts[k]? = some t) ∧ A = some ⟨b, off, none⟩ ∧ b < w.heap.size ∧ w.cell? ⟨b, off + k * 2, none⟩ = some (.slice t.A t.xs.length t.a) ∧ w.cell? ⟨b, off + k * 2 + 1, none⟩ = some (.slice t.B t.ys.length t.b) ∧
    Own w lo 2 1 t.A t.xs.length t.a (ints t.xs) ∧ Own w lo 2 1 t.B t.ys.length t.b (ints t.ys) := by
  have hl := h.len
  have hT : ts[k]? = some (ts[k]'(by omega)) := List.getElem?_eq_getElem (by omega)
  have hmem : ts[k]'(by omega) ∈ ts := List.getElem_mem _
  revert hT hmem
  generalize ts[k]'(by omega) = t
  intro hT hmem
  have hfl : (ts.flatMap Rk.cells).length = n * 2 := by rw [flat_len Rk.cells_len, hl]
  rcases h.1.2 with ⟨_, h1, _⟩ | ⟨b, off, cur, hA, hb, hg, hnc, hcm, hfit, hc⟩
  · omega
  · have cell : ∀ j, (hj : j < 2) → w.cell? ⟨b, off + (k * 2 + j), none⟩ = some (t.cells[j]'(by rw [Rk.cells_len]; exact hj)) := by
      intro j hj
      have h1 := flat_get Rk.cells_len hT hj
      rw [List.getElem?_eq_getElem (l := t.cells) (i := j) (by rw [Rk.cells_len]; exact hj)] at h1
      obtain ⟨h2, h3⟩ := List.getElem?_eq_some_iff.1 h1
      have h4 := hc (k * 2 + j) h2
      rw [h3] at h4
      rw [← h4]; simp [World.cell?, hg]
    refine ⟨t, b, off, hT, hA, (Array.getElem?_eq_some_iff.1 hg).1, cell 0 (by omega), ?_, (h.2 t hmem).1, (h.2 t hmem).2⟩
    · rw [Nat.add_assoc]; exact cell 1 (by omega)
end
theorem elMk3 : Elem Try.prog 41 50 3 56 (.agg #[.slice none 0 0, .slice none 0 0, .bool false]) := ⟨Try.underlying41, by kernel_rfl, rfl, by decide⟩
/-- A rule in memory. -/
structure Mk3 where
  A : Option Addr
  a : Nat
  xs : List Int
  B : Option Addr
  b : Nat
  ys : List Int
  last : Bool
def Mk3.cells (t : Mk3) : List Value := [.slice t.A t.xs.length t.a, .slice t.B t.ys.length t.b, .bool t.last]
theorem Mk3.cells_len (t : Mk3) : t.cells.length = 3 := rfl
theorem Mk3.one (ts : List Mk3) : ∀ u ∈ ts.flatMap Mk3.cells, u.oneCell' = true := by
  intro u hu
  simp only [List.mem_flatMap, Mk3.cells, List.mem_cons, List.not_mem_nil, or_false] at hu
  obtain ⟨t, _, h | h | h⟩ := hu <;> subst h <;> rfl
/-- An owned slice of rules; their words are owned as well. -/
def OMk (w : World) (lo : Nat) (A : Option Addr) (n c : Nat) (ts : List Mk3) : Prop :=
  Own w lo 50 3 A n c (ts.flatMap Mk3.cells) ∧ ∀ t ∈ ts, Own w lo 2 1 t.A t.xs.length t.a (ints t.xs) ∧ Own w lo 2 1 t.B t.ys.length t.b (ints t.ys)
section
variable {w w' w2 : World} {lo lo' n c : Nat} {A : Option Addr} {ts : List Mk3}
theorem OMk.len (h : OMk w lo A n c ts) : ts.length = n := by have := h.1.1; rw [flat_len Mk3.cells_len] at this; omega
theorem OMk.below (h : OMk w lo A n c ts) (z : Below w.heap.size w w') : OMk w' lo A n c ts := ⟨h.1.below z, fun t ht => ⟨(h.2 t ht).1.below z, (h.2 t ht).2.below z⟩⟩
theorem OMk.mono (h : OMk w lo A n c ts) (hl : lo' ≤ lo) : OMk w lo' A n c ts := ⟨h.1.mono hl, fun t ht => ⟨(h.2 t ht).1.mono hl, (h.2 t ht).2.mono hl⟩⟩
theorem OMk.alloc (h : OMk w lo A n c ts) (o : Obj) : OMk (w.alloc o) lo A n c ts := ⟨h.1.alloc o, fun t ht => ⟨(h.2 t ht).1.alloc o, (h.2 t ht).2.alloc o⟩⟩
theorem OMk.kb {b : Nat} (h : OMk w lo A n c ts) (k : Kb b w w') (hb : b < lo) : OMk w' lo A n c ts := ⟨k.own' h.1 hb, fun t ht => ⟨k.own' (h.2 t ht).1 hb, k.own' (h.2 t ht).2 hb⟩⟩
theorem OMk.snoc {A2 : Option Addr} {c2 : Nat} {t : Mk3} (h : OMk w lo A n c ts) (hs : Own w2 lo 50 3 A2 (n + 1) c2 (ts.flatMap Mk3.cells ++ t.cells)) (hg : w.grownBy w2 (blk A)) (h1 : Own w lo 2 1 t.A t.xs.length t.a (ints t.xs)) (h2 : Own w lo 2 1 t.B t.ys.length t.b (ints t.ys)) : OMk w2 lo A2 (n + 1) c2 (ts ++ [t]) := by
  have far : ∀ {B : Option Addr} {m d : Nat} {xs : List Value}, Own w lo 2 1 B m d xs → Own w2 lo 2 1 B m d xs := fun ho => ho.grown hg (fun g hgA hb => Own.blk_ne h.1 ho (by decide) g hgA hb)
  refine ⟨by rw [List.flatMap_append]; simpa using hs, fun u hu => ?_⟩
  rcases List.mem_append.1 hu with hu | hu
  · exact ⟨far (h.2 u hu).1, far (h.2 u hu).2⟩
  · obtain rfl := List.mem_singleton.1 hu
    exact ⟨far h1, far h2⟩
theorem OMk.pick (h : OMk w lo A n c ts) {k : Nat} (hk : k < n) : ∃ t b off, Hid (ts[k]? = some t) ∧ A = some ⟨b, off, none⟩ ∧ b < w.heap.size ∧ w.cell? ⟨b, off + k * 3, none⟩ = some (.slice t.A t.xs.length t.a) ∧ w.cell? ⟨b, off + k * 3 + 1, none⟩ = some (.slice t.B t.ys.length t.b) ∧ w.cell? ⟨b, off + k * 3 + 2, none⟩ = some (.bool t.last) ∧
    Own w lo 2 1 t.A t.xs.length t.a (ints t.xs) ∧ Own w lo 2 1 t.B t.ys.length t.b (ints t.ys) := by
  have hl := h.len
  have hT : ts[k]? = some (ts[k]'(by omega)) := List.getElem?_eq_getElem (by omega)
  have hmem : ts[k]'(by omega) ∈ ts := List.getElem_mem _
  revert hT hmem
  generalize ts[k]'(by omega) = t
  intro hT hmem
  have hfl : (ts.flatMap Mk3.cells).length = n * 3 := by rw [flat_len Mk3.cells_len, hl]
  rcases h.1.2 with ⟨_, h1, _⟩ | ⟨b, off, cur, hA, hb, hg, hnc, hcm, hfit, hc⟩
  · omega
  · have cell : ∀ j, (hj : j < 3) → w.cell? ⟨b, off + (k * 3 + j), none⟩ = some (t.cells[j]'(by rw [Mk3.cells_len]; exact hj)) := by
      intro j hj
      have h1 := flat_get Mk3.cells_len hT hj
      rw [List.getElem?_eq_getElem (l := t.cells) (i := j) (by rw [Mk3.cells_len]; exact hj)] at h1
      obtain ⟨h2, h3⟩ := List.getElem?_eq_some_iff.1 h1
      have h4 := hc (k * 3 + j) h2
      rw [h3] at h4
      rw [← h4]; simp [World.cell?, hg]
    refine ⟨t, b, off, hT, hA, (Array.getElem?_eq_some_iff.1 hg).1, cell 0 (by omega), ?_, ?_, (h.2 t hmem).1, (h.2 t hmem).2⟩
    · rw [Nat.add_assoc]; exact cell 1 (by omega)
    · rw [Nat.add_assoc]; exact cell 2 (by omega)
end
end Go.Proofs.Ytokglpdlhacnaaa

/-
  Contracts of the laws' helpers over []Rule: szRuleS, toRule, toRuleS, eqRule, eqRuleS, markRuleS.
-/
namespace Go.Proofs.Ytokglpdlhacnaaa
open Go.RowKit

theorem elR : Elem Try.prog 24 139 3 24 (.agg #[.int .i64 0, .int .i64 0, .int .i64 0]) := ⟨Try.underlying24, by kernel_rfl, rfl, by decide⟩

def ToR (w : World) (n : Nat) (rs : List R3) (e : Ending) (w' : World) : Prop :=
  ∃ A, e = .returned (.slice A n n) ∧ Own w' w.heap.size 139 3 A n n (cells3 rs) ∧ Below w.heap.size w w'

end Go.Proofs.Ytokglpdlhacnaaa

/-
  Contracts of impl's functions on machines: noRule, isRule, validRule, ValidMachine, validSide, configOf, ValidConfig.
-/
namespace Go.Proofs.Ytokglpdlhacnaaa
open Go.RowKit

theorem noRule_any (w : World) : Calls Try.prog 148 #[] w fun e w' => e = .returned (.agg #[.int .i64 0, .int .i64 0, .int .i64 (-1)]) ∧ Below w.heap.size w w' := by
  go_enter Try.func148, Try.ntmps148
  go_wp2
  exact bodyPost_ret (v := .agg #[.int .i64 0, .int .i64 0, .int .i64 (-1)]) (by simp [results, Try.results148, go_sem]) rfl ⟨rfl, (Below.refl _ _).alloc (Nat.le_refl _) _⟩

def isRuleB (r : R3) : Bool := decide (r ≠ ⟨0, 0, -1⟩)

theorem isRuleB_eq (a b c : Int) : isRuleB ⟨a, b, c⟩ = !((a == 0) && (b == 0) && (c == -1)) := by
  unfold isRuleB
  by_cases h0 : a = 0 <;> by_cases h1 : b = 0 <;> by_cases h2 : c = -1 <;> simp [h0, h1, h2]

set_option maxHeartbeats 1000000 in
theorem isRule_any (a b c : Int) (w : World) : Calls Try.prog 132 #[.agg #[.int .i64 a, .int .i64 b, .int .i64 c]] w fun e w' => e = .returned (.bool (isRuleB ⟨a, b, c⟩)) ∧ Below w.heap.size w w' := by
  obtain ⟨W, hW⟩ : ∃ W, W = w.alloc (.cells #[.int .i64 a, .int .i64 b, .int .i64 c] 139) := ⟨_, rfl⟩
  have b0 : Blk W w.heap.size 139 #[.int .i64 a, .int .i64 b, .int .i64 c] := by rw [hW]; exact Blk.new w _ _
  have y0 : Below w.heap.size w W := by rw [hW]; exact (Below.refl _ _).alloc (Nat.le_refl _) _
  have HW := Lib.hid hW
  clear hW
  have q0 : W.cell? ⟨w.heap.size, 0, none⟩ = some (.int .i64 a) := b0.cell 0
  have q1 : W.cell? ⟨w.heap.size, 1, none⟩ = some (.int .i64 b) := b0.cell 1
  have q2 : W.cell? ⟨w.heap.size, 2, none⟩ = some (.int .i64 c) := b0.cell 2
  cases h0 : (a == 0) <;> cases h1 : (b == 0) <;> cases h2 : (c == -1)
  all_goals
    have HE := Lib.hid (isRuleB_eq a b c)
    have H0 := Lib.hid h0
    have H1 := Lib.hid h1
    have H2 := Lib.hid h2
    go_enter Try.func132, Try.ntmps132
    go_wp2_with fail
    rw [← HW.out]
    go_region_held3 (fun w' => w'.cell? ⟨w.heap.size, 0, none⟩ = some (.int .i64 a) ∧ w'.cell? ⟨w.heap.size, 1, none⟩ = some (.int .i64 b) ∧ w'.cell? ⟨w.heap.size, 2, none⟩ = some (.int .i64 c))
      (first
        | (go_keep; done)
        | (exact ⟨(b0.below' hb2).cell 0, (b0.below' hb2).cell 1, (b0.below' hb2).cell 2⟩))
      (first
        | (go_at_call 148; refine (noRule_any _).mono ?_; rintro e w2 ⟨rfl, hb2'⟩; have hb2 : Below W.heap.size W w2 := below_undrew hb2'))
    go_wp2_with fail
    go_ret
    exact ⟨ret_bool (by rw [HE.out, H0.out, H1.out, H2.out]; rfl), y0.trans (hb2.mono y0.size)⟩

theorem isRule_is {a b c : Int} {v : Bool} (h : isRuleB ⟨a, b, c⟩ = v) (w : World) : Calls Try.prog 132 #[.agg #[.int .i64 a, .int .i64 b, .int .i64 c]] w fun e w' => e = .returned (.bool v) ∧ Below w.heap.size w w' := h ▸ isRule_any a b c w

def validRuleB (sy st : Int) (r : R3) : Bool := !isRuleB r || (inB r.a 0 (sy - 1) && ((r.b == -1) || (r.b == 1)) && inB r.c 0 (st - 1))

set_option maxHeartbeats 1000000 in
theorem validRule_any (sy st : Int) (A : Option Addr) (n k : Nat) (a b c : Int) (w : World) (h1 : 1 ≤ sy) (h2 : sy ≤ 100000) (h3 : 1 ≤ st) (h4 : st ≤ 100000) :
    Calls Try.prog 95 #[.agg #[.int .i64 sy, .int .i64 st, .slice A n k], .agg #[.int .i64 a, .int .i64 b, .int .i64 c]] w fun e w' => e = .returned (.bool (validRuleB sy st ⟨a, b, c⟩)) ∧ Below w.heap.size w w' := by
  obtain ⟨W, hW⟩ : ∃ W, W = (w.alloc (.cells #[.int .i64 sy, .int .i64 st, .slice A n k] 26)).alloc (.cells #[.int .i64 a, .int .i64 b, .int .i64 c] 139) := ⟨_, rfl⟩
  have s1 : (w.alloc (.cells #[.int .i64 sy, .int .i64 st, .slice A n k] 26)).heap.size = w.heap.size + 1 := by simp
  have b0 : Blk W w.heap.size 26 #[.int .i64 sy, .int .i64 st, .slice A n k] := by rw [hW]; exact (Blk.new w _ _).alloc _
  have b1 : Blk W (w.heap.size + 1) 139 #[.int .i64 a, .int .i64 b, .int .i64 c] := by rw [hW, ← s1]; exact Blk.new _ _ _
  have y0 : Below w.heap.size w W := by rw [hW]; exact ((Below.refl _ _).alloc (Nat.le_refl _) _).alloc (by simp) _
  have HW := Lib.hid hW
  clear hW s1
  go_enter Try.func95, Try.ntmps95
  go_wp2_with fail
  rw [← HW.out]
  cases hr : isRuleB ⟨a, b, c⟩
  · have HR := Lib.hid hr
    clear hr
    refine (isRule_is HR.out _).mono ?_
    rintro e w2 ⟨rfl, z2⟩
    go_wp2_with fail
    go_ret
    exact ⟨ret_bool (by unfold validRuleB; rw [HR.out]; rfl), y0.trans (z2.mono y0.size)⟩
  · have HR := Lib.hid hr
    clear hr
    refine (isRule_is HR.out _).mono ?_
    rintro e w2 ⟨rfl, z2⟩
    have c0 := b0.below' z2
    have c1 := b1.below' z2
    have q0 : w2.cell? ⟨w.heap.size, 0, none⟩ = some (.int .i64 sy) := c0.cell 0
    have q1 : w2.cell? ⟨w.heap.size, 1, none⟩ = some (.int .i64 st) := c0.cell 1
    have q2 : w2.cell? ⟨w.heap.size + 1, 0, none⟩ = some (.int .i64 a) := c1.cell 0
    have q3 : w2.cell? ⟨w.heap.size + 1, 1, none⟩ = some (.int .i64 b) := c1.cell 1
    have q4 : w2.cell? ⟨w.heap.size + 1, 2, none⟩ = some (.int .i64 c) := c1.cell 2
    go_wp2_with (go_at_call 42; refine (within_any _ _ _ _).mono ?_; rintro e w' ⟨rfl, rfl⟩)
    all_goals go_ret
    all_goals exact ⟨ret_bool (by unfold validRuleB; rw [HR.out]; simp [*]), y0.trans (z2.mono y0.size)⟩

/-- A machine behind a pointer. -/
def MachAt (w : World) (g : Nat) (sy st : Int) (A : Option Addr) (n k : Nat) : Prop :=
  w.cell? ⟨g, 0, none⟩ = some (.int .i64 sy) ∧ w.cell? ⟨g, 1, none⟩ = some (.int .i64 st) ∧ w.cell? ⟨g, 2, none⟩ = some (.slice A n k)
theorem MachAt.lt {w : World} {g : Nat} {sy st : Int} {A : Option Addr} {n k : Nat} (h : MachAt w g sy st A n k) : g < w.heap.size := World.block_lt_of_cell? w _ h.1
theorem MachAt.below {w w' : World} {g : Nat} {sy st : Int} {A : Option Addr} {n k : Nat} (h : MachAt w g sy st A n k) (hb : Below w.heap.size w w') : MachAt w' g sy st A n k :=
  ⟨(hb.cell (p := ⟨g, 0, none⟩) h.lt).trans h.1, (hb.cell (p := ⟨g, 1, none⟩) h.lt).trans h.2.1, (hb.cell (p := ⟨g, 2, none⟩) h.lt).trans h.2.2⟩
theorem MachAt.drewN {w : World} {g : Nat} {sy st : Int} {A : Option Addr} {n k : Nat} (h : MachAt w g sy st A n k) (q : Nat) : MachAt (w.drewN q) g sy st A n k := h
theorem Blk.machAt {w : World} {g : Nat} {t : TypeId} {sy st : Int} {A : Option Addr} {n k : Nat} (h : Blk w g t #[.int .i64 sy, .int .i64 st, .slice A n k]) : MachAt w g sy st A n k := ⟨h.cell 0, h.cell 1, h.cell 2⟩

set_option maxHeartbeats 400000 in
theorem validMachine1_any (g : Nat) (sy st : Int) (A : Option Addr) (n k : Nat) (a b c : Int) (w : World) (hm : MachAt w g sy st A n k) (h1 : 1 ≤ sy) (h2 : sy ≤ 100000) (h3 : 1 ≤ st) (h4 : st ≤ 100000) :
    Calls Try.prog 94 #[.agg #[.int .i64 a, .int .i64 b, .int .i64 c], .pointer (some ⟨g, 0, none⟩)] w fun e w' => e = .returned (.bool (!validRuleB sy st ⟨a, b, c⟩)) ∧ Below w.heap.size w w' := by
  have y0 : Below w.heap.size w (w.alloc (.cells #[.int .i64 a, .int .i64 b, .int .i64 c] 139)) := (Below.refl _ _).alloc (Nat.le_refl _) _
  obtain ⟨k0, k1, k2⟩ := hm.below y0
  go_enter Try.func94, Try.ntmps94
  go_wp2_with fail
  refine (validRule_any _ _ _ _ _ _ _ _ _ h1 h2 h3 h4).mono ?_
  rintro e w2 ⟨rfl, z2⟩
  go_wp2_with fail
  go_ret
  exact ⟨rfl, y0.trans (z2.mono (by simp))⟩

def firstR (p : R3 → Bool) (rs : List R3) : Int := match rs.findIdx? p with | some k => k | none => -1
theorem firstR_at {p : R3 → Bool} {rs : List R3} {r : R3} {k : Nat} (hT : rs[k]? = some r) (h : p r = true) (he : (rs.take k).any p = false) : (k : Int) = firstR p rs := by
  unfold firstR
  obtain ⟨hk, rfl⟩ := List.getElem?_eq_some_iff.1 hT
  have : rs.findIdx? p = some k := by
    rw [List.findIdx?_eq_some_iff_getElem]
    refine ⟨hk, h, fun j hj => ?_⟩
    rw [List.any_eq_false] at he
    have := he (rs[j]'(by omega)) (by rw [List.mem_take_iff_getElem]; exact ⟨j, by omega, rfl⟩)
    simpa using this
  rw [this]
theorem firstR_none {p : R3 → Bool} {rs : List R3} {k n : Nat} (hk : n ≤ k) (hl : rs.length = n) (he : (rs.take k).any p = false) : -1 = firstR p rs := by
  unfold firstR
  rw [List.take_of_length_le (by omega)] at he
  have : rs.findIdx? p = none := by
    rw [List.findIdx?_eq_none_iff]
    intro x hx
    rw [List.any_eq_false] at he
    simpa using he x hx
  rw [this]
theorem firstR_next {p : R3 → Bool} {rs : List R3} {r : R3} {k : Nat} (hT : rs[k]? = some r) (h : p r = false) (he : (rs.take k).any p = false) : (rs.take (k + 1)).any p = false := by
  obtain ⟨hk, rfl⟩ := List.getElem?_eq_some_iff.1 hT
  rw [List.take_succ_eq_append_getElem hk, List.any_append, he]
  simpa using h
theorem firstR_ge (p : R3 → Bool) (rs : List R3) : decide (0 ≤ firstR p rs) = rs.any p := by
  unfold firstR
  cases h : rs.findIdx? p with
  | some k =>
    obtain ⟨hk, hp, _⟩ := List.findIdx?_eq_some_iff_getElem.1 h
    have : rs.any p = true := List.any_eq_true.2 ⟨_, List.getElem_mem hk, hp⟩
    rw [this]; simp
  | none =>
    have : rs.any p = false := by rw [List.any_eq_false]; intro x hx; simpa using List.findIdx?_eq_none_iff.1 h x hx
    rw [this]; simp

set_option maxHeartbeats 400000 in
theorem indexFuncR_any (A : Option Addr) (n c : Nat) (rs : List R3) (f : FuncId) (cp : Value) (p : R3 → Bool) (w : World) (hx : S3 w A n rs) (hn : n ≤ 9223372036854775807) (hcall : ∀ (args : Array Value) (w : World), (callFunc f args).run Try.prog w = .ok (.enter f args) w)
    (hf : Hid (∀ r ∈ rs, ∀ w1, Below w.heap.size w w1 → Calls Try.prog f #[.agg #[.int .i64 r.a, .int .i64 r.b, .int .i64 r.c], cp] w1 fun e w' => e = .returned (.bool (p r)) ∧ Below w1.heap.size w1 w')) :
    Calls Try.prog 131 #[.slice A n c, .func (.func f) #[] #[cp]] w fun e w' => e = .returned (.int .i64 (firstR p rs)) ∧ Below w.heap.size w w' := by
  go_enter Try.func131, Try.ntmps131
  go_wp2
  go_loopw [8] (fun i wr => ∃ k : Nat, k ≤ n ∧ i = .int .i64 k ∧ Hid ((rs.take k).any p = false) ∧ Below w.heap.size w wr) (fun i _ => n - (intOf i).toNat)
  case atStart => exact ⟨0, by omega, rfl, rfl, Below.refl _ _⟩
  case round =>
    obtain ⟨k, hk, rfl, he, hb⟩ := hrel
    by_cases hlt : k < n
    · obtain ⟨r, b, off, hR, hrm, rfl, hbl, q0, q1, q2⟩ := (hx.below hb).pick hlt
      go_wp2_with fail
      refine (hf.out r hrm _ hb).mono ?_
      rintro e w2 ⟨rfl, z2⟩
      have y2 : Below w.heap.size w w2 := hb.trans (z2.mono hb.size)
      cases hp : p r
      · have HP := Lib.hid hp
        clear hp
        go_wp2_with fail
        exact ⟨⟨k + 1, by omega, by go_num, firstR_next hR.out HP.out he.out, y2⟩, by simp [intOf]; omega⟩
      · have HP := Lib.hid hp
        clear hp
        go_wp2_with fail
        go_ret
        exact ⟨ret_int (firstR_at hR.out HP.out he.out), y2⟩
    · go_wp2
      go_ret
      exact ⟨ret_int (firstR_none (by omega) hx.len he.out), hb⟩

set_option maxHeartbeats 400000 in
theorem containsFuncR_any (A : Option Addr) (n c : Nat) (rs : List R3) (f : FuncId) (cp : Value) (p : R3 → Bool) (w : World) (hx : S3 w A n rs) (hn : n ≤ 9223372036854775807) (hcall : ∀ (args : Array Value) (w : World), (callFunc f args).run Try.prog w = .ok (.enter f args) w)
    (hf : Hid (∀ r ∈ rs, ∀ w1, Below w.heap.size w w1 → Calls Try.prog f #[.agg #[.int .i64 r.a, .int .i64 r.b, .int .i64 r.c], cp] w1 fun e w' => e = .returned (.bool (p r)) ∧ Below w1.heap.size w1 w')) :
    Calls Try.prog 93 #[.slice A n c, .func (.func f) #[] #[cp]] w fun e w' => e = .returned (.bool (rs.any p)) ∧ Below w.heap.size w w' := by
  go_enter Try.func93, Try.ntmps93
  go_wp2_with (go_at_call 131; refine (indexFuncR_any _ _ _ rs _ _ p _ hx hn hcall hf).mono ?_; rintro e w' ⟨rfl, hb⟩)
  go_ret
  exact ⟨ret_bool (firstR_ge p rs), hb⟩

theorem sizeR_any (A : Option Addr) (n c : Nat) (w : World) (_h : n ≤ 9223372036854775807) :
    Calls Try.prog 92 #[.slice A n c] w fun e w' => e = .returned (.int .i64 n) ∧ w = w' := by
  go_enter Try.func92, Try.ntmps92
  go_wp2
  go_ret
  exact ⟨rfl, rfl⟩

def machB (sy st : Int) (rs : List R3) : Bool := inB sy 2 6 && inB st 1 1000 && decide ((rs.length : Int) = st * sy) && rs.all (validRuleB sy st)

set_option maxHeartbeats 600000 in
theorem validMachine_any (sy st : Int) (A : Option Addr) (n k : Nat) (rs : List R3) (w : World) (hx : S3 w A n rs) (hn : n ≤ 1048576) :
    Calls Try.prog 40 #[.agg #[.int .i64 sy, .int .i64 st, .slice A n k]] w fun e w' => e = .returned (.bool (machB sy st rs)) ∧ Below w.heap.size w w' := by
  obtain ⟨W, hW⟩ : ∃ W, W = w.alloc (.cells #[.int .i64 sy, .int .i64 st, .slice A n k] 26) := ⟨_, rfl⟩
  have b0 : Blk W w.heap.size 26 #[.int .i64 sy, .int .i64 st, .slice A n k] := by rw [hW]; exact Blk.new w _ _
  have y0 : Below w.heap.size w W := by rw [hW]; exact (Below.refl _ _).alloc (Nat.le_refl _) _
  have HW := Lib.hid hW
  clear hW
  have HL := Lib.hid hx.len
  have q0 : W.cell? ⟨w.heap.size, 0, none⟩ = some (.int .i64 sy) := b0.cell 0
  have q1 : W.cell? ⟨w.heap.size, 1, none⟩ = some (.int .i64 st) := b0.cell 1
  have q2 : W.cell? ⟨w.heap.size, 2, none⟩ = some (.slice A n k) := b0.cell 2
  cases hs : inB sy 2 6
  · have HS := Lib.hid hs
    go_enter Try.func40, Try.ntmps40
    go_wp2_with fail
    rw [← HW.out]
    go_quiet ((go_at_call 42; exact quiet_left (within_any _ _ _ _)))
    go_wp2_with fail
    go_ret
    exact ⟨ret_bool (by unfold machB; rw [HS.out]; rfl), below_drewN y0 _⟩
  cases ht : inB st 1 1000
  · have HS := Lib.hid hs
    have HT := Lib.hid ht
    go_enter Try.func40, Try.ntmps40
    go_wp2_with fail
    rw [← HW.out]
    go_quiet ((go_at_call 42; exact quiet_left (within_any _ _ _ _)))
    go_wp2_with fail
    go_ret
    exact ⟨ret_bool (by unfold machB; rw [HS.out, HT.out]; rfl), below_drewN y0 _⟩
  have hs' := (inB_iff _ _ _).1 hs
  have ht' := (inB_iff _ _ _).1 ht
  have HS := Lib.hid hs
  have HT := Lib.hid ht
  obtain ⟨s1, s2⟩ := hs'
  obtain ⟨t1, t2⟩ := ht'
  have hmul : 0 ≤ st * sy ∧ st * sy ≤ 6000 := by
    constructor
    · exact Int.mul_nonneg (by omega) (by omega)
    · have h1 : st * sy ≤ 1000 * sy := Int.mul_le_mul_of_nonneg_right t2 (by omega)
      have h2 : (1000 : Int) * sy ≤ 1000 * 6 := Int.mul_le_mul_of_nonneg_left s2 (by omega)
      omega
  obtain ⟨m1, m2⟩ := hmul
  have hwr : IntKind.i64.wrap (st * sy) = st * sy := IntWalk.i64_in _ (by omega)
  cases hne : ((n : Int) != st * sy)
  · have HNE := Lib.hid hne
    go_enter Try.func40, Try.ntmps40
    go_wp2_with fail
    rw [← HW.out]
    go_quiet ((first | (go_at_call 42; exact quiet_left (within_any _ _ _ _)) | (go_at_call 92; exact quiet_left (sizeR_any _ _ _ _ (by omega)))))
    clear hwr hne
    go_wp2_with fail
    have hmA : MachAt (W.drewN nq) w.heap.size sy st A n k := b0.machAt
    have yq : Below w.heap.size w (W.drewN nq) := below_drewN y0 nq
    refine (containsFuncR_any _ _ _ rs _ _ (fun r => !validRuleB sy st r) _ ((hx.below y0).drewN nq) (by omega) Try.call94 (fun r _ w1 hb1 => validMachine1_any _ _ _ _ _ _ _ _ _ _ (hmA.below hb1) (by omega) (by omega) (by omega) (by omega))).mono ?_
    rintro e w2 ⟨rfl, z2⟩
    go_wp2_with fail
    go_ret
    refine ⟨ret_bool ?_, yq.trans (z2.mono yq.size)⟩
    have h := HNE.out
    unfold machB
    rw [HS.out, HT.out, HL.out]
    simp at h
    rw [List.not_any_eq_all_not]
    simp [h]
  · have HNE := Lib.hid hne
    go_enter Try.func40, Try.ntmps40
    go_wp2_with fail
    rw [← HW.out]
    go_quiet ((first | (go_at_call 42; exact quiet_left (within_any _ _ _ _)) | (go_at_call 92; exact quiet_left (sizeR_any _ _ _ _ (by omega)))))
    clear hwr
    go_wp2_with fail
    go_ret
    exact ⟨ret_bool (by have h := HNE.out; unfold machB; rw [HS.out, HT.out, HL.out]; simp at h; simp [h]), below_drewN y0 _⟩

/-- The last number, or 0. -/
def lastI (xs : List Int) : Int := xs.getLastD 0
/-- One side of a tape: its numbers are symbols, the last is not 0. -/
def sideB (xs : List Int) (sy most : Int) : Bool := decide ((xs.length : Int) ≤ most) && allIn xs 0 (sy - 1) && (decide (xs = []) || (lastI xs != 0))
theorem last_at {w : World} {A : Option Addr} {n : Nat} {xs : List Int} (h : SI w A n xs) (hn : 0 < n) : ∃ b off, A = some ⟨b, off, none⟩ ∧ b < w.heap.size ∧ w.cell? ⟨b, off + (n - 1), none⟩ = some (.int .i64 (lastI xs)) := by
  obtain ⟨b, off, e, hlt, hc⟩ := h.at_ (k := n - 1) (by omega)
  refine ⟨b, off, e, hlt, ?_⟩
  rw [hc]
  have hl := h.len
  subst hl
  unfold lastI
  rw [List.getLastD_eq_getLast?, List.getLast?_eq_getElem?, List.getElem?_eq_getElem (by omega)]
  rfl

end Go.Proofs.Ytokglpdlhacnaaa

/-
  Contracts of impl's functions on configurations: configOf, ValidConfig.
-/
namespace Go.Proofs.Ytokglpdlhacnaaa
open Go.RowKit

def confB (sy st q : Int) (xs ys : List Int) : Bool := inB q 0 (st - 1) && sideB xs sy 200 && sideB ys sy 200

def validConfB (sy st : Int) (rs : List R3) (q : Int) (xs ys : List Int) : Bool := machB sy st rs && confB sy st q xs ys
theorem machB_parts {sy st : Int} {rs : List R3} (h : machB sy st rs = true) : 2 ≤ sy ∧ sy ≤ 6 ∧ 1 ≤ st ∧ st ≤ 1000 ∧ (rs.length : Int) = st * sy ∧ ∀ r ∈ rs, validRuleB sy st r = true := by
  unfold machB at h
  simp only [Bool.and_eq_true, inB_iff, decide_eq_true_eq, List.all_eq_true] at h
  exact ⟨h.1.1.1.1, h.1.1.1.2, h.1.1.2.1, h.1.1.2.2, h.1.2, h.2⟩

end Go.Proofs.Ytokglpdlhacnaaa

/-
  Contracts of the reference's smallest functions: l00In, l00Own.
-/
namespace Go.Proofs.Ytokglpdlhacnaaa
open Go.RowKit

set_option maxHeartbeats 400000 in
theorem l00In_any (n lo hi : Int) (w : World) :
    Calls Try.prog 110 #[.int .i64 n, .int .i64 lo, .int .i64 hi] w fun e w' => e = .returned (.bool (inB n lo hi)) ∧ w = w' := by
  by_cases h1 : lo ≤ n <;> by_cases h2 : n ≤ hi
  all_goals
    go_enter Try.func110, Try.ntmps110
    go_wp2
    go_ret
    exact ⟨ret_bool (by simp [inB]; omega), rfl⟩

theorem l00In_is {n lo hi : Int} {b : Bool} (h : inB n lo hi = b) (w : World) :
    Calls Try.prog 110 #[.int .i64 n, .int .i64 lo, .int .i64 hi] w fun e w' => e = .returned (.bool b) ∧ w = w' := h ▸ l00In_any n lo hi w

set_option maxHeartbeats 400000 in
theorem l00Own_any (A : Option Addr) (n c : Nat) (xs : List Int) (w : World) (hx : SI w A n xs) (hn : n ≤ 1048576) :
    Calls Try.prog 91 #[.slice A n c] w (NewI w xs) := by
  have HL := Lib.hid hx.len
  go_enter Try.func91, Try.ntmps91
  go_wp2_with (at_builtin; refine wpList_append_Own rfl (.tmp 3) (.tmp 4) rfl elI (lo := w.heap.size) rfl (Own.lit0 w _ 1) rfl (Rd.alloc hx _) (ints_one xs) (by omega) (by simp only [maxLen]; omega) (by simp) ?_; intro A2 c2 w2 ho2 hg2 _)
  go_ret
  have hbb := (Own.lit0 w 2 1).below_of ((Below.refl _ _).alloc (Nat.le_refl _) _) hg2 (by simp)
  simp only [List.nil_append] at ho2
  refine ⟨A2, c2, ?_, ?_, hbb⟩
  · rw [HL.out]; simp
  · rw [HL.out]; simpa using ho2

end Go.Proofs.Ytokglpdlhacnaaa

/-
  Contracts of the reference's functions on machines: l05None, l05Rule, l05Is.
-/
namespace Go.Proofs.Ytokglpdlhacnaaa
open Go.RowKit

theorem l05None_any (w : World) : Calls Try.prog 89 #[] w fun e w' => e = .returned (.agg #[.int .i64 0, .int .i64 0, .int .i64 (-1)]) ∧ Below w.heap.size w w' := by
  go_enter Try.func89, Try.ntmps89
  go_wp2
  exact bodyPost_ret (v := .agg #[.int .i64 0, .int .i64 0, .int .i64 (-1)]) (by simp [results, Try.results89, go_sem]) rfl ⟨rfl, (Below.refl _ _).alloc (Nat.le_refl _) _⟩

theorem validRuleB_no {sy st : Int} {r : R3} (h : isRuleB r = false) : true = validRuleB sy st r := by unfold validRuleB; rw [h]; rfl
theorem validRuleB_eq {sy st a b c : Int} (h : isRuleB ⟨a, b, c⟩ = true) : validRuleB sy st ⟨a, b, c⟩ = (inB a 0 (sy - 1) && ((b == -1) || (b == 1)) && inB c 0 (st - 1)) := by unfold validRuleB; rw [h]; rfl

end Go.Proofs.Ytokglpdlhacnaaa

/-
  Contracts of the reference's functions on machines: l05Is, l05Cells, l05Good.
-/
namespace Go.Proofs.Ytokglpdlhacnaaa
open Go.RowKit

theorem all_not {sy st : Int} {rs : List R3} {r : R3} {k : Nat} (hT : rs[k]? = some r) (h : validRuleB sy st r = false) : rs.all (validRuleB sy st) = false := by
  rw [List.all_eq_false]; exact ⟨r, List.mem_of_getElem? hT, by simp [h]⟩
theorem all_next {sy st : Int} {rs : List R3} {r : R3} {k : Nat} (hT : rs[k]? = some r) (h : validRuleB sy st r = true) (he : (rs.take k).all (validRuleB sy st) = true) : (rs.take (k + 1)).all (validRuleB sy st) = true := by
  obtain ⟨hk, rfl⟩ := List.getElem?_eq_some_iff.1 hT
  rw [List.take_succ_eq_append_getElem hk, List.all_append, he]
  simpa using h
theorem machB_of {sy st : Int} {rs : List R3} {n : Nat} {b : Bool} (hl : rs.length = n) (h1 : inB sy 2 6 = true) (h2 : inB st 1 1000 = true) (h3 : ((n : Int) != sy * st) = false) (h : rs.all (validRuleB sy st) = b) : b = machB sy st rs := by
  unfold machB
  rw [h1, h2, hl, h]
  simp at h3
  have : (n : Int) = st * sy := by rw [h3, Int.mul_comm]
  simp [this]

theorem side_at {xs : List Int} {sy : Int} {k n : Nat} (hk : k < n) (hl : xs.length = n) (h : (!inB (xs[k]'(by omega)) 0 (sy - 1)) = true) : false = sideB xs sy 200 := by
  have := allIn_at hk hl h
  unfold sideB; rw [← this]; simp

/-- A configuration behind a pointer. -/
def ConfAt (w : World) (g : Nat) (q : Int) (L : Option Addr) (m c : Nat) (R : Option Addr) (l d : Nat) : Prop :=
  w.cell? ⟨g, 0, none⟩ = some (.int .i64 q) ∧ w.cell? ⟨g, 1, none⟩ = some (.slice L m c) ∧ w.cell? ⟨g, 2, none⟩ = some (.slice R l d)
theorem ConfAt.lt {w : World} {g : Nat} {q : Int} {L : Option Addr} {m c : Nat} {R : Option Addr} {l d : Nat} (h : ConfAt w g q L m c R l d) : g < w.heap.size := World.block_lt_of_cell? w _ h.1
theorem ConfAt.below {w w' : World} {g : Nat} {q : Int} {L : Option Addr} {m c : Nat} {R : Option Addr} {l d : Nat} (h : ConfAt w g q L m c R l d) (hb : Below w.heap.size w w') : ConfAt w' g q L m c R l d :=
  ⟨(hb.cell (p := ⟨g, 0, none⟩) h.lt).trans h.1, (hb.cell (p := ⟨g, 1, none⟩) h.lt).trans h.2.1, (hb.cell (p := ⟨g, 2, none⟩) h.lt).trans h.2.2⟩
theorem ConfAt.drewN {w : World} {g : Nat} {q : Int} {L : Option Addr} {m c : Nat} {R : Option Addr} {l d : Nat} (h : ConfAt w g q L m c R l d) (k : Nat) : ConfAt (w.drewN k) g q L m c R l d := h
theorem Blk.confAt {w : World} {g : Nat} {t : TypeId} {q : Int} {L : Option Addr} {m c : Nat} {R : Option Addr} {l d : Nat} (h : Blk w g t #[.int .i64 q, .slice L m c, .slice R l d]) : ConfAt w g q L m c R l d := ⟨h.cell 0, h.cell 1, h.cell 2⟩

end Go.Proofs.Ytokglpdlhacnaaa

/-
  Contracts of slices.Reverse and impl.reversed.
-/
namespace Go.Proofs.Ytokglpdlhacnaaa
open Go.RowKit

/-- The number at a place, or 0. -/
def nth (xs : List Int) (k : Nat) : Int := xs.getD k 0
theorem nth_eq (xs : List Int) (k : Nat) (h : k < xs.length) : nth xs k = xs[k] := by simp [nth, List.getElem?_eq_getElem h]
/-- After a rounds of the reversal in place. -/
def revTo (xs : List Int) (a : Nat) : List Int := (List.range xs.length).map fun k => if k < a ∨ xs.length ≤ k + a then nth xs (xs.length - 1 - k) else nth xs k
theorem length_revTo (xs : List Int) (a : Nat) : (revTo xs a).length = xs.length := by simp [revTo]
theorem revTo_get (xs : List Int) (a k : Nat) (h : k < (revTo xs a).length) : (revTo xs a)[k] = if k < a ∨ xs.length ≤ k + a then nth xs (xs.length - 1 - k) else nth xs k := by simp [revTo]
theorem revTo_zero (xs : List Int) : revTo xs 0 = xs := by
  apply List.ext_getElem (length_revTo xs 0)
  intro k h1 h2
  rw [revTo_get, if_neg (by omega), nth_eq _ _ h2]
theorem revTo_next (xs : List Int) (a : Nat) (h : a + a + 1 < xs.length) : ((revTo xs a).set a (nth xs (xs.length - 1 - a))).set (xs.length - 1 - a) (nth xs a) = revTo xs (a + 1) := by
  apply List.ext_getElem (by simp [length_revTo])
  intro k h1 h2
  rw [length_revTo] at h2
  rw [List.getElem_set, List.getElem_set, revTo_get, revTo_get]
  by_cases e1 : xs.length - 1 - a = k
  · subst e1
    rw [if_pos rfl, if_pos (by omega)]
    congr 1; omega
  · rw [if_neg e1]
    by_cases e2 : a = k
    · subst e2
      rw [if_pos rfl, if_pos (by omega)]
    · rw [if_neg e2]
      by_cases e3 : k < a ∨ xs.length ≤ k + a
      · rw [if_pos e3, if_pos (by omega)]
      · rw [if_neg e3, if_neg (by omega)]
theorem revTo_end (xs : List Int) (a : Nat) (h : xs.length ≤ a + a + 1) : revTo xs a = xs.reverse := by
  apply List.ext_getElem (by simp [length_revTo])
  intro k h1 h2
  rw [length_revTo] at h1
  rw [revTo_get, List.getElem_reverse]
  by_cases e : k < a ∨ xs.length ≤ k + a
  · rw [if_pos e, nth_eq _ _ (by omega)]
  · rw [if_neg e, nth_eq _ _ (by omega)]
    congr 1; omega
theorem revTo_lo (xs : List Int) (a : Nat) (h : a + a + 1 < xs.length) (h1 : a < (ints (revTo xs a)).length) : (ints (revTo xs a))[a] = .int .i64 (nth xs a) := by
  rw [ints_get, revTo_get, if_neg (by omega)]
theorem revTo_hi (xs : List Int) (a : Nat) (h : a + a + 1 < xs.length) (h1 : xs.length - 1 - a < (ints (revTo xs a)).length) : (ints (revTo xs a))[xs.length - 1 - a] = .int .i64 (nth xs (xs.length - 1 - a)) := by
  rw [ints_get, revTo_get, if_neg (by omega)]

def RevP (w : World) (lo : Nat) (A : Option Addr) (n c : Nat) (xs : List Int) (e : Ending) (w' : World) : Prop :=
  e = .returned (.tuple #[]) ∧ Own w' lo 2 1 A n c (ints xs.reverse) ∧ Below lo w w' ∧ ∀ b, blk A ≠ some b → w'.heap[b]? = w.heap[b]?

set_option maxHeartbeats 1000000 in
theorem reverse_any (A : Option Addr) (n c : Nat) (xs : List Int) (w : World) (lo : Nat) (hx : Own w lo 2 1 A n c (ints xs)) (hn : n ≤ 1048576) (_hlo : lo ≤ w.heap.size) :
    Calls Try.prog 134 #[.slice A n c] w (RevP w lo A n c xs) := by
  have hl : xs.length = n := by have := hx.1; rw [length_ints] at this; omega
  subst hl
  go_enter Try.func134, Try.ntmps134
  go_wp2_with fail
  go_loopw [2, 3] (fun i j wr => ∃ a : Nat, a ≤ xs.length ∧ i = .int .i64 a ∧ j = .int .i64 ((xs.length : Int) - 1 - a) ∧ Own wr lo 2 1 A xs.length c (ints (revTo xs a)) ∧ Below lo w wr ∧ Hid (∀ b, blk A ≠ some b → wr.heap[b]? = w.heap[b]?)) (fun i _ _ => xs.length - (intOf i).toNat)
  case atStart => exact ⟨0, by omega, rfl, by simp, by rw [revTo_zero]; exact hx, Below.refl _ _, fun _ _ => rfl⟩
  case round =>
    obtain ⟨a, ha, rfl, rfl, ho, hb, hf⟩ := hrel
    by_cases hlt : a + a + 1 < xs.length
    · have hll : (ints (revTo xs a)).length = xs.length := by rw [length_ints, length_revTo]
      have h1 : a < (ints (revTo xs a)).length := by omega
      have h2 : xs.length - 1 - a < (ints (revTo xs a)).length := by omega
      obtain ⟨b, off, rfl, hlob, hbl, hc1, hf1⟩ := ho.at_ h1
      obtain ⟨b', off', he, _, _, hc2, hf2⟩ := ho.at_ h2
      simp only [Option.some.injEq, Addr.mk.injEq, and_true] at he
      obtain ⟨rfl, rfl⟩ := he
      rw [revTo_lo xs a hlt] at hc1
      rw [revTo_hi xs a hlt] at hc2
      have i1 : (a : Int) < (xs.length : Int) - 1 - a := by omega
      have i2 : (0 : Int) ≤ (xs.length : Int) - 1 - a := by omega
      have i3 : ((xs.length : Int) - 1 - a).toNat = xs.length - 1 - a := by omega
      have i4 : (xs.length : Int) - 1 - a < (xs.length : Int) := by omega
      have ne1 : ¬ off + a = off + (xs.length - 1 - a) := by omega
      have ne2 : ¬ off + (xs.length - 1 - a) = off + a := by omega
      have HLL := Lib.hid hll
      clear hll
      have ho2 := (ho.set_ h1 (.int .i64 (nth xs (xs.length - 1 - a)))).set_ (k := xs.length - 1 - a) (by rw [List.length_set]; exact h2) (.int .i64 (nth xs a))
      rw [ints_set, ints_set, revTo_next xs a hlt] at ho2
      have ho3 : Own ((wr.setCell ⟨b, off + a, none⟩ (.int .i64 (nth xs (xs.length - 1 - a)))).setCell ⟨b, off + (xs.length - 1 - a), none⟩ (.int .i64 (nth xs a))).drew lo 2 1 (some ⟨b, off, none⟩) xs.length c (ints (revTo xs (a + 1))) := ho2
      have hb3 : Below lo w ((wr.setCell ⟨b, off + a, none⟩ (.int .i64 (nth xs (xs.length - 1 - a)))).setCell ⟨b, off + (xs.length - 1 - a), none⟩ (.int .i64 (nth xs a))).drew := ((hb.setCell (p := ⟨b, off + a, none⟩) hlob _).setCell (p := ⟨b, off + (xs.length - 1 - a), none⟩) hlob _).drew
      have hf3 : Hid (∀ b', blk (some ⟨b, off, none⟩) ≠ some b' → ((wr.setCell ⟨b, off + a, none⟩ (.int .i64 (nth xs (xs.length - 1 - a)))).setCell ⟨b, off + (xs.length - 1 - a), none⟩ (.int .i64 (nth xs a))).drew.heap[b']? = w.heap[b']?) := fun b' hb' =>
        (Below.heap_setCell _ _ _ _ (fun e => hb' (by rw [e]; rfl))).trans ((Below.heap_setCell _ _ _ _ (fun e => hb' (by rw [e]; rfl))).trans (hf.out b' hb'))
      go_wp2_with fail
      go_region
      go_wp2_with fail
      exact ⟨⟨a + 1, by omega, by go_num, by go_num, ho3, hb3, hf3⟩, by simp [intOf]; omega⟩
    · have i1 : ¬ (a : Int) < (xs.length : Int) - 1 - a := by omega
      go_wp2_with fail
      go_end0
      have e1 := revTo_end xs a (by omega)
      rw [e1] at ho
      exact ⟨rfl, ho, hb, hf.out⟩

set_option maxHeartbeats 400000 in
theorem reversed_any (A : Option Addr) (n c : Nat) (xs : List Int) (w : World) (hx : SI w A n xs) (hn : n ≤ 1048576) :
    Calls Try.prog 99 #[.slice A n c] w (NewI w xs.reverse) := by
  have hl : xs.length ≤ 1048576 := by have := hx.len; omega
  go_enter Try.func99, Try.ntmps99
  go_wp2_with fail
  refine (cloneI_any _ _ _ xs _ hx hn).mono ?_
  rintro e w2 ⟨A2, c2, rfl, ho2, z2⟩
  go_wp2_with fail
  refine (reverse_any _ _ _ xs _ w.heap.size ho2 hl z2.size).mono ?_
  rintro e w3 ⟨rfl, ho3, z3, _⟩
  go_wp2_with fail
  go_ret
  exact ⟨A2, c2, by rw [List.length_reverse]; rfl, by rw [List.length_reverse]; exact ho3, z2.trans z3⟩
end Go.Proofs.Ytokglpdlhacnaaa

/-
  Contracts of impl's runner: runnerOf, symbol, at, rule, halts.
-/
namespace Go.Proofs.Ytokglpdlhacnaaa
open Go.RowKit

/-- A runner in memory. -/
def RunAt (w : World) (g : Nat) (sy st : Int) (A : Option Addr) (n k : Nat) (q : Int) (L : Option Addr) (m c : Nat) (R : Option Addr) (l d : Nat) : Prop :=
  Blk w g 149 #[.int .i64 sy, .int .i64 st, .slice A n k, .int .i64 q, .slice L m c, .slice R l d]

def NewRunner (w : World) (sy st : Int) (A : Option Addr) (n k : Nat) (q : Int) (xs ys : List Int) (e : Ending) (w' : World) : Prop :=
  ∃ g L c R d, e = .returned (.pointer (some ⟨g, 0, none⟩)) ∧ w.heap.size ≤ g ∧ RunAt w' g sy st A n k q L xs.length c R ys.length d ∧ Own w' w.heap.size 2 1 L xs.length c (ints xs.reverse) ∧ Own w' w.heap.size 2 1 R ys.length d (ints ys.reverse) ∧ (∀ b, blk L = some b → blk R ≠ some b) ∧ Below w.heap.size w w'

set_option maxHeartbeats 2000000 in
theorem runnerOf_any (sy st : Int) (A : Option Addr) (n k : Nat) (q : Int) (B : Option Addr) (m c : Nat) (xs : List Int) (C : Option Addr) (l d : Nat) (ys : List Int) (w : World) (hx : SI w B m xs) (hy : SI w C l ys) (hm : m ≤ 1048576) (hl : l ≤ 1048576) :
    Calls Try.prog 48 #[.agg #[.int .i64 sy, .int .i64 st, .slice A n k], .agg #[.int .i64 q, .slice B m c, .slice C l d]] w (NewRunner w sy st A n k q xs ys) := by
  obtain ⟨W, hW⟩ : ∃ W, W = (w.alloc (.cells #[.int .i64 sy, .int .i64 st, .slice A n k] 26)).alloc (.cells #[.int .i64 q, .slice B m c, .slice C l d] 29) := ⟨_, rfl⟩
  have s1 : (w.alloc (.cells #[.int .i64 sy, .int .i64 st, .slice A n k] 26)).heap.size = w.heap.size + 1 := by simp
  have b0 : Blk W w.heap.size 26 #[.int .i64 sy, .int .i64 st, .slice A n k] := by rw [hW]; exact (Blk.new w _ _).alloc _
  have b1 : Blk W (w.heap.size + 1) 29 #[.int .i64 q, .slice B m c, .slice C l d] := by rw [hW, ← s1]; exact Blk.new _ _ _
  have y0 : Below w.heap.size w W := by rw [hW]; exact ((Below.refl _ _).alloc (Nat.le_refl _) _).alloc (by simp) _
  have HW := Lib.hid hW
  clear hW s1
  have q0 : W.cell? ⟨w.heap.size, 0, none⟩ = some (.int .i64 sy) := b0.cell 0
  have q1 : W.cell? ⟨w.heap.size, 1, none⟩ = some (.int .i64 st) := b0.cell 1
  have q2 : W.cell? ⟨w.heap.size, 2, none⟩ = some (.slice A n k) := b0.cell 2
  have q3 : W.cell? ⟨w.heap.size + 1, 0, none⟩ = some (.int .i64 q) := b1.cell 0
  have q4 : W.cell? ⟨w.heap.size + 1, 1, none⟩ = some (.slice B m c) := b1.cell 1
  have q5 : W.cell? ⟨w.heap.size + 1, 2, none⟩ = some (.slice C l d) := b1.cell 2
  have hxW := (hx.below y0).drewN 1
  have hyW := (hy.below y0)
  have hxl : xs.length = m := hx.len
  have hyl : ys.length = l := hy.len
  have HXL := Lib.hid hxl
  have HYL := Lib.hid hyl
  clear hxl hyl
  go_enter Try.func48, Try.ntmps48
  go_wp2_with fail
  rw [← HW.out]
  go_region_held3 (fun w' => w'.cell? ⟨w.heap.size, 0, none⟩ = some (.int .i64 sy) ∧ w'.cell? ⟨w.heap.size, 1, none⟩ = some (.int .i64 st) ∧ w'.cell? ⟨w.heap.size, 2, none⟩ = some (.slice A n k) ∧
      w'.cell? ⟨w.heap.size + 1, 0, none⟩ = some (.int .i64 q) ∧ w'.cell? ⟨w.heap.size + 1, 1, none⟩ = some (.slice B m c) ∧ w'.cell? ⟨w.heap.size + 1, 2, none⟩ = some (.slice C l d))
    (first
      | (go_keep; done)
      | (exact ⟨(b0.below' z3).cell 0, (b0.below' z3).cell 1, (b0.below' z3).cell 2, (b1.below' z3).cell 0, (b1.below' z3).cell 1, (b1.below' z3).cell 2⟩)
      | (exact ⟨(b0.below' z2).cell 0, (b0.below' z2).cell 1, (b0.below' z2).cell 2, (b1.below' z2).cell 0, (b1.below' z2).cell 1, (b1.below' z2).cell 2⟩))
    (first
      | (go_at_call_of 99 (Value.slice B m c); refine (reversed_any _ _ _ xs _ hxW hm).mono ?_; rintro e w2 ⟨L, cl, rfl, ol, z2'⟩; have z2 : Below W.heap.size W w2 := below_undrew z2')
      | (go_at_call_of 99 (Value.slice C l d); refine (reversed_any _ _ _ ys _ (hyW.below z2) hl).mono ?_; rintro e w3 ⟨R, cr, rfl, or_, z3'⟩; have z3 : Below W.heap.size W w3 := z2.trans (z3'.mono z2.size)))
  go_wp2_with fail
  go_ret
  have hz : w.heap.size ≤ W.heap.size := y0.size
  have hz2 : W.heap.size ≤ w2.heap.size := z2.size
  have hz3 : w2.heap.size ≤ w3.heap.size := z3'.size
  rw [List.length_reverse] at ol or_
  have ol2 : Own w3 w.heap.size 2 1 L xs.length cl (ints xs.reverse) := (ol.below z3').mono (by exact hz)
  have or2 : Own w3 w.heap.size 2 1 R ys.length cr (ints ys.reverse) := or_.mono (by omega)
  refine ⟨w3.heap.size, L, cl, R, cr, rfl, by omega, Blk.new w3 _ _, ol2.alloc _, or2.alloc _, fun b h1 h2 => ?_, (y0.trans (z3.mono hz)).alloc (by omega) _⟩
  have h3 := ol.blk_lt b h1
  have h4 := or_.blk_ge b h2
  omega

set_option maxHeartbeats 400000 in
theorem nearest_any (A : Option Addr) (n c : Nat) (xs : List Int) (w : World) (hx : SI w A n xs) (hn : n ≤ 1048576) :
    Calls Try.prog 152 #[.slice A n c] w fun e w' => e = .returned (.int .i64 (lastI xs)) ∧ w = w' := by
  have HL := Lib.hid hx.len
  by_cases hn0 : n = 0
  · subst hn0
    have hx0 : xs = [] := List.eq_nil_of_length_eq_zero HL.out
    subst hx0
    go_enter Try.func152, Try.ntmps152
    go_wp2
    go_ret
    exact ⟨rfl, rfl⟩
  · obtain ⟨b, off, rfl, _, hc⟩ := last_at hx (by omega)
    have g0 : ((n : Int) == 0) = false := by simp; omega
    have i1 : (0 : Int) ≤ (n : Int) - 1 := by omega
    have i2 : ((n : Int) - 1).toNat = n - 1 := by omega
    go_enter Try.func152, Try.ntmps152
    go_wp2
    go_ret
    exact ⟨rfl, rfl⟩

set_option maxHeartbeats 400000 in
theorem symbol_any (g : Nat) (sy st : Int) (A : Option Addr) (n k : Nat) (q : Int) (L : Option Addr) (m c : Nat) (R : Option Addr) (l d : Nat) (ys : List Int) (w : World) (hr : RunAt w g sy st A n k q L m c R l d) (hy : SI w R l ys) (hl : l ≤ 1048576) :
    Calls Try.prog 159 #[.pointer (some ⟨g, 0, none⟩)] w fun e w' => e = .returned (.int .i64 (lastI ys)) ∧ w = w' := by
  have c5 : w.cell? ⟨g, 5, none⟩ = some (.slice R l d) := hr.cell 5
  go_enter Try.func159, Try.ntmps159
  go_wp2_with (go_at_call 152; refine (nearest_any _ _ _ ys _ hy hl).mono ?_; rintro e w' ⟨rfl, rfl⟩)
  go_ret
  exact ⟨rfl, rfl⟩

/-- The rule's index. -/
def atI (sy q : Int) (ys : List Int) : Int := q * sy + lastI ys

set_option maxHeartbeats 400000 in
theorem at_any (g : Nat) (sy st : Int) (A : Option Addr) (n k : Nat) (q : Int) (L : Option Addr) (m c : Nat) (R : Option Addr) (l d : Nat) (ys : List Int) (w : World) (hr : RunAt w g sy st A n k q L m c R l d) (hy : SI w R l ys) (hl : l ≤ 1048576)
    (h1 : 0 ≤ q * sy) (h2 : q * sy ≤ 1000000) (h3 : 0 ≤ lastI ys) (h4 : lastI ys ≤ 1000000) :
    Calls Try.prog 153 #[.pointer (some ⟨g, 0, none⟩)] w fun e w' => e = .returned (.int .i64 (atI sy q ys)) ∧ ∃ nq, w' = w.drewN nq := by
  have c0 : w.cell? ⟨g, 0, none⟩ = some (.int .i64 sy) := hr.cell 0
  have c3 : w.cell? ⟨g, 3, none⟩ = some (.int .i64 q) := hr.cell 3
  have w1 : IntKind.i64.wrap (q * sy) = q * sy := IntWalk.i64_in _ (by omega)
  have w2 : IntKind.i64.wrap (q * sy + lastI ys) = q * sy + lastI ys := IntWalk.i64_in _ (by omega)
  go_enter Try.func153, Try.ntmps153
  go_wp2_with fail
  go_quiet ((go_at_call 159; exact quiet_left (symbol_any _ _ _ _ _ _ _ _ _ _ _ _ _ ys _ (hr.drewN _) (hy.drewN _) hl)))
  clear w1 w2
  go_wp2_with fail
  go_ret
  exact ⟨rfl, _, rfl⟩
end Go.Proofs.Ytokglpdlhacnaaa
