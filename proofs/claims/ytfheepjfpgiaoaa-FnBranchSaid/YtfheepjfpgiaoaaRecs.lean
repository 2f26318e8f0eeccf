/-
  Slices of records whose cells hold numbers and slices: a spine and its rows. No program is in sight.
-/
import Derived.Test.YtfheepjfpgiaoaaWords3
namespace Go.Proofs.Ytfheepjfpgiaoaa
open Go.RowKit

/-! ### lists of cells, element by element -/
section
variable {α : Type} {f : α → List Value} {s : Nat}
theorem flat_len (hf : ∀ a, (f a).length = s) (ts : List α) : (ts.flatMap f).length = ts.length * s := by
  induction ts with
  | nil => simp
  | cons t r ih => rw [List.flatMap_cons, List.length_append, hf, ih, List.length_cons, Nat.succ_mul]; omega
theorem flat_get (hf : ∀ a, (f a).length = s) : ∀ {ts : List α} {k : Nat} {t : α} {j : Nat}, ts[k]? = some t → j < s → (ts.flatMap f)[k * s + j]? = (f t)[j]?
  | [], k, t, j, h, _ => by simp at h
  | u :: r, 0, t, j, h, hj => by
    simp at h; subst h
    rw [List.flatMap_cons, Nat.zero_mul, Nat.zero_add, List.getElem?_append_left (by rw [hf]; exact hj)]
  | u :: r, k + 1, t, j, h, hj => by
    have ih := flat_get hf (ts := r) (k := k) (t := t) (j := j) (by simpa using h) hj
    rw [List.flatMap_cons, List.getElem?_append_right (by rw [hf, Nat.succ_mul]; omega), hf, show (k + 1) * s + j - s = k * s + j from by rw [Nat.succ_mul]; omega]
    exact ih
theorem flat_snoc (ts : List α) (t : α) : (ts ++ [t]).flatMap f = ts.flatMap f ++ f t := by simp
theorem flat_set (hf : ∀ a, (f a).length = s) : ∀ {ts : List α} {k j : Nat} {t u : α} {v : Value}, ts[k]? = some t → j < s → (f t).set j v = f u → (ts.flatMap f).set (k * s + j) v = (ts.set k u).flatMap f
  | [], k, j, t, u, v, h, _, _ => by simp at h
  | x :: r, 0, j, t, u, v, h, hj, he => by
    simp at h; subst h
    rw [List.flatMap_cons, Nat.zero_mul, Nat.zero_add, List.set_append_left _ _ (by rw [hf]; exact hj), he]; rfl
  | x :: r, k + 1, j, t, u, v, h, hj, he => by
    have ih := flat_set hf (ts := r) (k := k) (j := j) (t := t) (u := u) (v := v) (by simpa using h) hj he
    rw [List.flatMap_cons, List.set_append_right _ _ (by rw [hf, Nat.succ_mul]; omega), hf, show (k + 1) * s + j - s = k * s + j from by rw [Nat.succ_mul]; omega, ih]
    rfl
end

/-! ### rows of any kind -/
structure Rw where
  A : Option Addr
  n : Nat
  c : Nat
  e : TypeId
  s : Nat
  cs : List Value
def Rw.val (r : Rw) : Value := .slice r.A r.n r.c
def Rw.own (r : Rw) (w : World) (lo : Nat) : Prop := Own w lo r.e r.s r.A r.n r.c r.cs
def AptR (t u : Rw) : Prop := ∀ b, blk t.A = some b → blk u.A ≠ some b
/-- A row of numbers. -/
def Rw.i (e : TypeId) (A : Option Addr) (c : Nat) (xs : List Int) : Rw := ⟨A, xs.length, c, e, 1, ints xs⟩

/-- An owned spine, cells of s to an element, and its rows, all apart. -/
structure Recs (w : World) (lo : Nat) (e : TypeId) (s : Nat) (A : Option Addr) (n c : Nat) (cs : List Value) (rows : List Rw) : Prop where
  spine : Own w lo e s A n c cs
  each : ∀ r ∈ rows, r.own w lo
  apt : rows.Pairwise AptR
  types : ∀ r ∈ rows, r.e ≠ e
section
variable {w w' w2 : World} {lo lo' n c s : Nat} {e : TypeId} {A : Option Addr} {cs : List Value} {rows : List Rw}
theorem Rw.own.below {r : Rw} (h : r.own w lo) (z : Below w.heap.size w w') : r.own w' lo := Own.below h z
theorem Rw.own.mono {r : Rw} (h : r.own w lo) (hl : lo' ≤ lo) : r.own w lo' := Own.mono h hl
theorem Recs.nil (h : Own w lo e s A 0 c []) : Recs w lo e s A 0 c [] [] := ⟨h, by simp, List.Pairwise.nil, by simp⟩
theorem Recs.below (h : Recs w lo e s A n c cs rows) (z : Below w.heap.size w w') : Recs w' lo e s A n c cs rows := ⟨h.spine.below z, fun r hr => (h.each r hr).below z, h.apt, h.types⟩
theorem Recs.mono (h : Recs w lo e s A n c cs rows) (hl : lo' ≤ lo) : Recs w lo' e s A n c cs rows := ⟨h.spine.mono hl, fun r hr => (h.each r hr).mono hl, h.apt, h.types⟩
theorem Recs.drewN (h : Recs w lo e s A n c cs rows) (k : Nat) : Recs (w.drewN k) lo e s A n c cs rows := ⟨h.spine.drewN k, fun r hr => Own.drewN (h.each r hr) k, h.apt, h.types⟩
theorem Recs.alloc (h : Recs w lo e s A n c cs rows) (o : Obj) : Recs (w.alloc o) lo e s A n c cs rows := ⟨h.spine.alloc o, fun r hr => (Own.alloc (h.each r hr) o), h.apt, h.types⟩
/-- A row's block is not the spine's. -/
theorem Recs.row_ne (h : Recs w lo e s A n c cs rows) : ∀ r ∈ rows, ∀ b, blk A = some b → blk r.A ≠ some b := fun r hr b hb hb' => Own.blk_ne h.spine (h.each r hr) (fun he => h.types r hr he.symm) b hb hb'
theorem Recs.kept (h : Recs w lo e s A n c cs rows) (hA : ∀ b, blk A = some b → w'.heap[b]? = w.heap[b]?) (hR : ∀ r ∈ rows, ∀ b, blk r.A = some b → w'.heap[b]? = w.heap[b]?) : Recs w' lo e s A n c cs rows :=
  ⟨h.spine.kept (fun b hb _ _ => hA b hb), fun r hr => Own.kept (h.each r hr) (fun b hb _ _ => hR r hr b hb), h.apt, h.types⟩
theorem Recs.set_far (h : Recs w lo e s A n c cs rows) {g i : Nat} (hg : g < lo) (u : Value) : Recs (w.setCell ⟨g, i, none⟩ u) lo e s A n c cs rows :=
  ⟨h.spine.far (p := ⟨g, i, none⟩) (fun e => by have h1 : lo ≤ g := h.spine.blk_ge _ e; omega) u, fun r hr => Own.far (h.each r hr) (p := ⟨g, i, none⟩) (fun e => by have h1 : lo ≤ g := Own.blk_ge (h.each r hr) _ e; omega) u, h.apt, h.types⟩
/-- One record more: the spine has grown, the new rows are apart from the old ones. -/
theorem Recs.append {A2 : Option Addr} {n2 c2 : Nat} {news : List Value} {more : List Rw} (h : Recs w lo e s A n c cs rows) (hs : Own w2 lo e s A2 n2 c2 (cs ++ news)) (hg : w.grownBy w2 (blk A)) (hm : ∀ r ∈ more, r.own w lo) (ha : more.Pairwise AptR) (ht : ∀ r ∈ more, r.e ≠ e)
    (hx : ∀ r ∈ rows, ∀ m ∈ more, AptR r m) : Recs w2 lo e s A2 n2 c2 (cs ++ news) (rows ++ more) := by
  have far : ∀ r : Rw, r.own w lo → r.e ≠ e → r.own w2 lo := fun r hr hne =>
    Own.grown hr hg (fun g hgA hb => Own.blk_ne h.spine hr (fun he => hne he.symm) g hgA hb)
  refine ⟨hs, fun r hr => ?_, ?_, fun r hr => ?_⟩
  · rcases List.mem_append.1 hr with h1 | h1
    · exact far r (h.each r h1) (h.types r h1)
    · exact far r (hm r h1) (ht r h1)
  · rw [List.pairwise_append]; exact ⟨h.apt, ha, hx⟩
  · rcases List.mem_append.1 hr with h1 | h1
    · exact h.types r h1
    · exact ht r h1
/-- New rows that lie from k on, old ones below it. -/
theorem Recs.apart {more : List Rw} {k : Nat} (h : Recs w lo e s A n c cs rows) (hk : w.heap.size ≤ k) (hm : ∀ r ∈ more, ∀ b, blk r.A = some b → k ≤ b) : ∀ r ∈ rows, ∀ m ∈ more, AptR r m := fun r hr m hm' b hb hb' => by
  have h1 := Own.blk_lt (h.each r hr) b hb
  have h2 := hm m hm' b hb'
  omega
theorem Recs.fr {X : Nat → Prop} (h : Recs w lo e s A n c cs rows) (hf : ∀ b, X b → w'.heap[b]? = w.heap[b]?) (hA : ∀ b, blk A = some b → X b) (hR : ∀ r ∈ rows, ∀ b, blk r.A = some b → X b) : Recs w' lo e s A n c cs rows :=
  h.kept (fun b hb => hf b (hA b hb)) (fun r hr b hb => hf b (hR r hr b hb))
theorem Blk.apt {w : World} {g : Nat} {t e : TypeId} {cur : Array Value} {lo n c s : Nat} {A : Option Addr} {cs : List Value} (h : Blk w g t cur) (h' : Own w lo e s A n c cs) (hne : t ≠ e) : blk A ≠ some g := by
  intro hb
  rcases h'.2 with ⟨rfl, _⟩ | ⟨b, off, cur2, rfl, _, hg, _⟩
  · simp [blk] at hb
  · simp [blk] at hb; subst hb
    unfold Blk at h
    rw [hg] at h
    simp at h
    exact hne h.2.symm
theorem Blk.grown {w w2 : World} {g : Nat} {t e : TypeId} {cur : Array Value} {lo n c s : Nat} {A : Option Addr} {cs : List Value} (h : Blk w g t cur) (h' : Own w lo e s A n c cs) (hg : w.grownBy w2 (blk A)) (hne : t ≠ e) : Blk w2 g t cur :=
  (hg.block g (Array.getElem?_eq_some_iff.1 h).1 (fun e => h.apt h' hne e.symm)).trans h
theorem Own.grown_apt {w w2 : World} {lo lo' n n' c c' s s' : Nat} {e e' : TypeId} {A A' : Option Addr} {cs cs' : List Value} (h : Own w lo' e' s' A' n' c' cs') (h0 : Own w lo e s A n c cs) (hg : w.grownBy w2 (blk A)) (hne : e' ≠ e) : Own w2 lo' e' s' A' n' c' cs' :=
  h.grown hg (fun g hg' hb => Own.blk_ne h0 h (fun he => hne he.symm) g hg' hb)
theorem Recs.set_blk {g i : Nat} {t : TypeId} {cur : Array Value} (h : Recs w lo e s A n c cs rows) (hb : Blk w g t cur) (ht : t ≠ e) (hr : ∀ r ∈ rows, t ≠ r.e) (u : Value) : Recs (w.setCell ⟨g, i, none⟩ u) lo e s A n c cs rows :=
  ⟨h.spine.far (p := ⟨g, i, none⟩) (hb.apt h.spine ht) u, fun r hr' => Own.far (h.each r hr') (p := ⟨g, i, none⟩) (hb.apt (h.each r hr') (hr r hr')) u, h.apt, h.types⟩
/-- The blocks of a slice of records. -/
def RecsB (A : Option Addr) (rows : List Rw) (b : Nat) : Prop := blk A = some b ∨ ∃ r ∈ rows, blk r.A = some b
theorem Recs.blk_ge (h : Recs w lo e s A n c cs rows) : ∀ b, RecsB A rows b → lo ≤ b ∧ b < w.heap.size := by
  rintro b (hb | ⟨r, hr, hb⟩)
  · exact ⟨h.spine.blk_ge b hb, h.spine.blk_lt b hb⟩
  · exact ⟨Own.blk_ge (h.each r hr) b hb, Own.blk_lt (h.each r hr) b hb⟩
theorem Recs.keptB (h : Recs w lo e s A n c cs rows) (hk : ∀ b, RecsB A rows b → w'.heap[b]? = w.heap[b]?) : Recs w' lo e s A n c cs rows :=
  h.kept (fun b hb => hk b (.inl hb)) (fun r hr b hb => hk b (.inr ⟨r, hr, hb⟩))
end
end Go.Proofs.Ytfheepjfpgiaoaa
