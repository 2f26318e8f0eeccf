/-
  Slices of records whose cells hold numbers and slices: a spine and its rows. No program is in sight.
-/
import Derived.Test.YtdlojbabnelbdaaPkRegisterParts1
import Derived.Test.YtdlojbabnelbdaaPkRegisterParts2
import Derived.Deep.DeepCutAuto
import Derived.BigRegion
import Derived.BigQuiet
namespace Go.Proofs.Ytdlojbabnelbdaa
open Go.RowKit

/-! ### lists of cells, element by element -/
section
variable {α : Type} {f : α → List Value} {s : Nat}
theorem flat_len (hf : ∀ a, (f a).length = s) (ts : List α) : (ts.flatMap f).length = ts.length * s := by
  induction ts with
  | nil => simp
  | cons t r ih => rw [List.flatMap_cons, List.length_append, hf, ih, List.length_cons, Nat.succ_mul]; omega
theorem flat_get (hf : ∀ a, (f a).length = s) : ∀ {ts : List α} {k : Nat} {t : α} {j : Nat}, ts[k]? = some t → j < s → (ts.flatMap f)[k * s + j]? = (f t)[j]?
  | [], k, t, j, h, _ => by simp at h
  | u :: r, 0, t, j, h, hj => by
    simp at h; subst h
    rw [List.flatMap_cons, Nat.zero_mul, Nat.zero_add, List.getElem?_append_left (by rw [hf]; exact hj)]
  | u :: r, k + 1, t, j, h, hj => by
    have ih := flat_get hf (ts := r) (k := k) (t := t) (j := j) (by simpa using h) hj
    rw [List.flatMap_cons, List.getElem?_append_right (by rw [hf, Nat.succ_mul]; omega), hf, show (k + 1) * s + j - s = k * s + j from by rw [Nat.succ_mul]; omega]
    exact ih
theorem flat_snoc (ts : List α) (t : α) : (ts ++ [t]).flatMap f = ts.flatMap f ++ f t := by simp
theorem flat_set (hf : ∀ a, (f a).length = s) : ∀ {ts : List α} {k j : Nat} {t u : α} {v : Value}, ts[k]? = some t → j < s → (f t).set j v = f u → (ts.flatMap f).set (k * s + j) v = (ts.set k u).flatMap f
  | [], k, j, t, u, v, h, _, _ => by simp at h
  | x :: r, 0, j, t, u, v, h, hj, he => by
    simp at h; subst h
    rw [List.flatMap_cons, Nat.zero_mul, Nat.zero_add, List.set_append_left _ _ (by rw [hf]; exact hj), he]; rfl
  | x :: r, k + 1, j, t, u, v, h, hj, he => by
    have ih := flat_set hf (ts := r) (k := k) (j := j) (t := t) (u := u) (v := v) (by simpa using h) hj he
    rw [List.flatMap_cons, List.set_append_right _ _ (by rw [hf, Nat.succ_mul]; omega), hf, show (k + 1) * s + j - s = k * s + j from by rw [Nat.succ_mul]; omega, ih]
    rfl
end

/-! ### rows of any kind -/
structure Rw where
  A : Option Addr
  n : Nat
  c : Nat
  e : TypeId
  s : Nat
  cs : List Value
def Rw.val (r : Rw) : Value := .slice r.A r.n r.c
def Rw.own (r : Rw) (w : World) (lo : Nat) : Prop := Own w lo r.e r.s r.A r.n r.c r.cs
def AptR (t u : Rw) : Prop := ∀ b, blk t.A = some b → blk u.A ≠ some b
/-- A row of numbers. -/
def Rw.i (e : TypeId) (A : Option Addr) (c : Nat) (xs : List Int) : Rw := ⟨A, xs.length, c, e, 1, ints xs⟩

/-- An owned spine, cells of s to an element, and its rows, all apart. -/
structure Recs (w : World) (lo : Nat) (e : TypeId) (s : Nat) (A : Option Addr) (n c : Nat) (cs : List Value) (rows : List Rw) : Prop where
  spine : Own w lo e s A n c cs
  each : ∀ r ∈ rows, r.own w lo
  apt : rows.Pairwise AptR
  types : ∀ r ∈ rows, r.e ≠ e
section
variable {w w' w2 : World} {lo lo' n c s : Nat} {e : TypeId} {A : Option Addr} {cs : List Value} {rows : List Rw}
theorem Rw.own.below {r : Rw} (h : r.own w lo) (z : Below w.heap.size w w') : r.own w' lo := Own.below h z
theorem Rw.own.mono {r : Rw} (h : r.own w lo) (hl : lo' ≤ lo) : r.own w lo' := Own.mono h hl
theorem Recs.nil (h : Own w lo e s A 0 c []) : Recs w lo e s A 0 c [] [] := ⟨h, by simp, List.Pairwise.nil, by simp⟩
theorem Recs.below (h : Recs w lo e s A n c cs rows) (z : Below w.heap.size w w') : Recs w' lo e s A n c cs rows := ⟨h.spine.below z, fun r hr => (h.each r hr).below z, h.apt, h.types⟩
theorem Recs.mono (h : Recs w lo e s A n c cs rows) (hl : lo' ≤ lo) : Recs w lo' e s A n c cs rows := ⟨h.spine.mono hl, fun r hr => (h.each r hr).mono hl, h.apt, h.types⟩
theorem Recs.drewN (h : Recs w lo e s A n c cs rows) (k : Nat) : Recs (w.drewN k) lo e s A n c cs rows := ⟨h.spine.drewN k, fun r hr => Own.drewN (h.each r hr) k, h.apt, h.types⟩
theorem Recs.alloc (h : Recs w lo e s A n c cs rows) (o : Obj) : Recs (w.alloc o) lo e s A n c cs rows := ⟨h.spine.alloc o, fun r hr => (Own.alloc (h.each r hr) o), h.apt, h.types⟩
/-- A row's block is not the spine's. -/
theorem Recs.row_ne (h : Recs w lo e s A n c cs rows) : ∀ r ∈ rows, ∀ b, blk A = some b → blk r.A ≠ some b := fun r hr b hb hb' => Own.blk_ne h.spine (h.each r hr) (fun he => h.types r hr he.symm) b hb hb'
theorem Recs.kept (h : Recs w lo e s A n c cs rows) (hA : ∀ b, blk A = some b → w'.heap[b]? = w.heap[b]?) (hR : ∀ r ∈ rows, ∀ b, blk r.A = some b → w'.heap[b]? = w.heap[b]?) : Recs w' lo e s A n c cs rows :=
  ⟨h.spine.kept (fun b hb _ _ => hA b hb), fun r hr => Own.kept (h.each r hr) (fun b hb _ _ => hR r hr b hb), h.apt, h.types⟩
theorem Recs.set_far (h : Recs w lo e s A n c cs rows) {g i : Nat} (hg : g < lo) (u : Value) : Recs (w.setCell ⟨g, i, none⟩ u) lo e s A n c cs rows :=
  ⟨h.spine.far (p := ⟨g, i, none⟩) (fun e => by have h1 : lo ≤ g := h.spine.blk_ge _ e; omega) u, fun r hr => Own.far (h.each r hr) (p := ⟨g, i, none⟩) (fun e => by have h1 : lo ≤ g := Own.blk_ge (h.each r hr) _ e; omega) u, h.apt, h.types⟩
/-- One record more: the spine has grown, the new rows are apart from the old ones. -/
theorem Recs.append {A2 : Option Addr} {n2 c2 : Nat} {news : List Value} {more : List Rw} (h : Recs w lo e s A n c cs rows) (hs : Own w2 lo e s A2 n2 c2 (cs ++ news)) (hg : w.grownBy w2 (blk A)) (hm : ∀ r ∈ more, r.own w lo) (ha : more.Pairwise AptR) (ht : ∀ r ∈ more, r.e ≠ e)
    (hx : ∀ r ∈ rows, ∀ m ∈ more, AptR r m) : Recs w2 lo e s A2 n2 c2 (cs ++ news) (rows ++ more) := by
  have far : ∀ r : Rw, r.own w lo → r.e ≠ e → r.own w2 lo := fun r hr hne =>
    Own.grown hr hg (fun g hgA hb => Own.blk_ne h.spine hr (fun he => hne he.symm) g hgA hb)
  refine ⟨hs, fun r hr => ?_, ?_, fun r hr => ?_⟩
  · rcases List.mem_append.1 hr with h1 | h1
    · exact far r (h.each r h1) (h.types r h1)
    · exact far r (hm r h1) (ht r h1)
  · rw [List.pairwise_append]; exact ⟨h.apt, ha, hx⟩
  · rcases List.mem_append.1 hr with h1 | h1
    · exact h.types r h1
    · exact ht r h1
/-- New rows that lie from k on, old ones below it. -/
theorem Recs.apart {more : List Rw} {k : Nat} (h : Recs w lo e s A n c cs rows) (hk : w.heap.size ≤ k) (hm : ∀ r ∈ more, ∀ b, blk r.A = some b → k ≤ b) : ∀ r ∈ rows, ∀ m ∈ more, AptR r m := fun r hr m hm' b hb hb' => by
  have h1 := Own.blk_lt (h.each r hr) b hb
  have h2 := hm m hm' b hb'
  omega
theorem Recs.fr {X : Nat → Prop} (h : Recs w lo e s A n c cs rows) (hf : ∀ b, X b → w'.heap[b]? = w.heap[b]?) (hA : ∀ b, blk A = some b → X b) (hR : ∀ r ∈ rows, ∀ b, blk r.A = some b → X b) : Recs w' lo e s A n c cs rows :=
  h.kept (fun b hb => hf b (hA b hb)) (fun r hr b hb => hf b (hR r hr b hb))
theorem Blk.apt {w : World} {g : Nat} {t e : TypeId} {cur : Array Value} {lo n c s : Nat} {A : Option Addr} {cs : List Value} (h : Blk w g t cur) (h' : Own w lo e s A n c cs) (hne : t ≠ e) : blk A ≠ some g := by
  intro hb
  rcases h'.2 with ⟨rfl, _⟩ | ⟨b, off, cur2, rfl, _, hg, _⟩
  · simp [blk] at hb
  · simp [blk] at hb; subst hb
    unfold Blk at h
    rw [hg] at h
    simp at h
    exact hne h.2.symm
theorem Blk.grown {w w2 : World} {g : Nat} {t e : TypeId} {cur : Array Value} {lo n c s : Nat} {A : Option Addr} {cs : List Value} (h : Blk w g t cur) (h' : Own w lo e s A n c cs) (hg : w.grownBy w2 (blk A)) (hne : t ≠ e) : Blk w2 g t cur :=
  (hg.block g (Array.getElem?_eq_some_iff.1 h).1 (fun e => h.apt h' hne e.symm)).trans h
theorem Own.grown_apt {w w2 : World} {lo lo' n n' c c' s s' : Nat} {e e' : TypeId} {A A' : Option Addr} {cs cs' : List Value} (h : Own w lo' e' s' A' n' c' cs') (h0 : Own w lo e s A n c cs) (hg : w.grownBy w2 (blk A)) (hne : e' ≠ e) : Own w2 lo' e' s' A' n' c' cs' :=
  h.grown hg (fun g hg' hb => Own.blk_ne h0 h (fun he => hne he.symm) g hg' hb)
theorem Recs.set_blk {g i : Nat} {t : TypeId} {cur : Array Value} (h : Recs w lo e s A n c cs rows) (hb : Blk w g t cur) (ht : t ≠ e) (hr : ∀ r ∈ rows, t ≠ r.e) (u : Value) : Recs (w.setCell ⟨g, i, none⟩ u) lo e s A n c cs rows :=
  ⟨h.spine.far (p := ⟨g, i, none⟩) (hb.apt h.spine ht) u, fun r hr' => Own.far (h.each r hr') (p := ⟨g, i, none⟩) (hb.apt (h.each r hr') (hr r hr')) u, h.apt, h.types⟩
/-- The blocks of a slice of records. -/
def RecsB (A : Option Addr) (rows : List Rw) (b : Nat) : Prop := blk A = some b ∨ ∃ r ∈ rows, blk r.A = some b
theorem Recs.blk_ge (h : Recs w lo e s A n c cs rows) : ∀ b, RecsB A rows b → lo ≤ b ∧ b < w.heap.size := by
  rintro b (hb | ⟨r, hr, hb⟩)
  · exact ⟨h.spine.blk_ge b hb, h.spine.blk_lt b hb⟩
  · exact ⟨Own.blk_ge (h.each r hr) b hb, Own.blk_lt (h.each r hr) b hb⟩
theorem Recs.keptB (h : Recs w lo e s A n c cs rows) (hk : ∀ b, RecsB A rows b → w'.heap[b]? = w.heap[b]?) : Recs w' lo e s A n c cs rows :=
  h.kept (fun b hb => hk b (.inl hb)) (fun r hr b hb => hk b (.inr ⟨r, hr, hb⟩))
end
end Go.Proofs.Ytdlojbabnelbdaa

/-
  Programs of registers that are being built: contracts of the assembly's methods, redirected, moveRegister, joinPrograms.
-/
namespace Go.Proofs.Ytdlojbabnelbdaa
open Go.RowKit

theorem elQ : Elem Try.prog 24 133 4 32 (.agg #[.int .i64 0, .int .i64 0, .int .i64 0, .int .i64 0]) := ⟨Try.underlying24, by kernel_rfl, rfl, by decide⟩
theorem R4.new (w : World) (r : R4) : Rd (w.alloc (.cells #[.int .i64 r.a, .int .i64 r.b, .int .i64 r.c, .int .i64 r.d] 133)) 4 (some ⟨w.heap.size, 0, none⟩) 1 (cells4 [r]) := by
  refine ⟨rfl, fun _ => ⟨_, 0, rfl, fun k hk => ?_⟩⟩
  rw [cell_of_row _ w.heap.size (0 + k) _ 133 (0, 0) (heap_alloc_new w _)]
  rw [length_cells4] at hk
  simp at hk
  match k, hk with
  | 0, _ => rfl
  | 1, _ => rfl
  | 2, _ => rfl
  | 3, _ => rfl
/-- A program that is being built, behind a pointer. -/
def Asm (w0 : World) (g : Nat) (rs : List R4) (W : World) : Prop :=
  w0.heap.size ≤ g ∧ Below w0.heap.size w0 W ∧ ∃ A c, Blk W g 129 #[.slice A rs.length c] ∧ Own W w0.heap.size 133 4 A rs.length c (cells4 rs)
theorem Asm.below {w0 W W' : World} {g : Nat} {rs : List R4} (h : Asm w0 g rs W) (z : Below W.heap.size W W') : Asm w0 g rs W' := by
  obtain ⟨h1, h2, A, c, h3, h4⟩ := h
  exact ⟨h1, h2.trans (z.mono h2.size), A, c, h3.below' z, h4.below z⟩
/-- More instructions: behind an append and the store of the new slice. -/
theorem Asm.more {w0 W1 W2 : World} {g : Nat} {rs qs : List R4} {A A2 : Option Addr} {c c2 : Nat} (h1 : w0.heap.size ≤ g) (h2 : Below w0.heap.size w0 W1) (h3 : Blk W1 g 129 #[.slice A rs.length c]) (h4 : Own W1 w0.heap.size 133 4 A rs.length c (cells4 rs))
    (o : Own W2 w0.heap.size 133 4 A2 (rs.length + qs.length) c2 (cells4 rs ++ cells4 qs)) (hg : W1.grownBy W2 (blk A)) :
    Asm w0 g (rs ++ qs) (W2.setCell ⟨g, 0, none⟩ (.slice A2 (rs.length + qs.length) c2)) := by
  have hb := h3.grown h4 hg (by decide)
  refine ⟨h1, (h4.below_of h2 hg h2.size).setCell (p := ⟨g, 0, none⟩) h1 _, A2, c2, ?_, ?_⟩
  · have h := hb.set_ 0 (.slice A2 (rs.length + qs.length) c2)
    rw [List.length_append]
    simpa using h
  · rw [List.length_append, ← cells4_append]
    exact o.far (p := ⟨g, 0, none⟩) (hb.apt o (by decide)) _
def AsmPost (w0 : World) (g : Nat) (rs : List R4) (e : Ending) (w' : World) : Prop := e = .returned (.pointer (some ⟨g, 0, none⟩)) ∧ Asm w0 g rs w'
set_option maxHeartbeats 1000000 in
theorem dec_any (w0 w : World) (g : Nat) (rs : List R4) (r t d : Int) (h : Asm w0 g rs w) (hl : rs.length ≤ 1000) :
    Calls Try.prog 81 #[.pointer (some ⟨g, 0, none⟩), .int .i64 r, .int .i64 t, .int .i64 d] w (AsmPost w0 g (rs ++ [⟨1, r, t, d⟩])) := by
  obtain ⟨h1, h2, A, c, h3, h4⟩ := h
  have HB := Lib.hid h3
  have HO := Lib.hid h4
  have HZ := Lib.hid h2
  have k0 : w.cell? ⟨g, 0, none⟩ = some (.slice A rs.length c) := h3.cell 0
  clear h3 h4 h2
  go_enter Try.func81, Try.ntmps81
  go_wp2_with (at_builtin; refine wpList_append_Own rfl (.tmp 13) (.tmp 18) rfl elQ (lo := w0.heap.size) rfl (HO.out.alloc _) rfl (R4.new w ⟨1, r, t, d⟩) (cells4_one _) (by omega) (by simp only [maxLen]; omega) (by have := HZ.out.size; simp; omega) ?_; intro A2 c2 w2 o2 g2 _; have hf := ((HB.out.alloc _).grown (HO.out.alloc _) g2 (by decide)).frozen 0; have hc : w2.cell? ⟨g, 0, none⟩ = some (.slice A rs.length c) := ((HB.out.alloc _).grown (HO.out.alloc _) g2 (by decide)).cell 0)
  have HF := Lib.hid (Asm.more (qs := [⟨1, r, t, d⟩]) h1 (HZ.out.alloc HZ.out.size _) (HB.out.alloc _) (HO.out.alloc _) o2 g2)
  clear o2 g2
  go_ret
  exact ⟨rfl, HF.out⟩
set_option maxHeartbeats 1000000 in
theorem inc_any (w0 w : World) (g : Nat) (rs : List R4) (r t : Int) (h : Asm w0 g rs w) (hl : rs.length ≤ 1000) :
    Calls Try.prog 83 #[.pointer (some ⟨g, 0, none⟩), .int .i64 r, .int .i64 t] w (AsmPost w0 g (rs ++ [⟨0, r, t, 0⟩])) := by
  obtain ⟨h1, h2, A, c, h3, h4⟩ := h
  have HB := Lib.hid h3
  have HO := Lib.hid h4
  have HZ := Lib.hid h2
  have k0 : w.cell? ⟨g, 0, none⟩ = some (.slice A rs.length c) := h3.cell 0
  clear h3 h4 h2
  go_enter Try.func83, Try.ntmps83
  go_wp2_with (at_builtin; refine wpList_append_Own rfl (.tmp 11) (.tmp 15) rfl elQ (lo := w0.heap.size) rfl (HO.out.alloc _) rfl (R4.new w ⟨0, r, t, 0⟩) (cells4_one _) (by omega) (by simp only [maxLen]; omega) (by have := HZ.out.size; simp; omega) ?_; intro A2 c2 w2 o2 g2 _; have hf := ((HB.out.alloc _).grown (HO.out.alloc _) g2 (by decide)).frozen 0; have hc : w2.cell? ⟨g, 0, none⟩ = some (.slice A rs.length c) := ((HB.out.alloc _).grown (HO.out.alloc _) g2 (by decide)).cell 0)
  have HF := Lib.hid (Asm.more (qs := [⟨0, r, t, 0⟩]) h1 (HZ.out.alloc HZ.out.size _) (HB.out.alloc _) (HO.out.alloc _) o2 g2)
  clear o2 g2
  go_ret
  exact ⟨rfl, HF.out⟩
end Go.Proofs.Ytdlojbabnelbdaa

/-
  Contracts of impl.redirected and of the assembly's method part.
-/
namespace Go.Proofs.Ytdlojbabnelbdaa
open Go.RowKit

/-- A new slice of instructions. -/
def NewQ (w : World) (rs : List R4) (e : Ending) (w' : World) : Prop :=
  ∃ A c, e = .returned (.slice A rs.length c) ∧ Own w' w.heap.size 133 4 A rs.length c (cells4 rs) ∧ Below w.heap.size w w'
set_option maxHeartbeats 400000 in
theorem cloneQ_any (A : Option Addr) (n c : Nat) (rs : List R4) (w : World) (hx : S4 w A n rs) (hn : n ≤ 1048576) :
    Calls Try.prog 251 #[.slice A n c] w (NewQ w rs) := by
  have HL := Lib.hid hx.len
  have hnil := fun (w : World) (a : Option Addr) (n c : Nat) => Lib.run_eql_slice_nil (P := Try.prog) w 24 133 a n c 0 0 Try.underlying24
  rcases A with _ | ad
  · have hn0 : n = 0 := by
      rcases Nat.eq_zero_or_pos n with h | h
      · exact h
      · obtain ⟨_, b, off, _, _, e, _⟩ := hx.pick h; cases e
    subst hn0
    have hx0 : rs = [] := List.eq_nil_of_length_eq_zero HL.out
    subst hx0
    go_enter Try.func251, Try.ntmps251
    go_wp2
    go_ret
    exact ⟨none, 0, rfl, Own.nil, Below.refl _ _⟩
  · go_enter Try.func251, Try.ntmps251
    go_wp2_with (at_builtin; refine wpList_append_Own rfl (.tmp 5) (.tmp 6) rfl elQ (lo := w.heap.size) rfl (Own.lit0 w _ 4) rfl (Rd.alloc hx _) (cells4_one rs) (by omega) (by simp only [maxLen]; omega) (by simp) ?_; intro A2 c2 w2 ho2 hg2 _)
    go_ret
    have hbb := (Own.lit0 w 133 4).below_of ((Below.refl _ _).alloc (Nat.le_refl _) _) hg2 (by simp)
    simp only [List.nil_append] at ho2
    refine ⟨A2, c2, ?_, ?_, hbb⟩
    · rw [HL.out]; simp
    · rw [HL.out]; simpa using ho2
theorem sizeQ_any (A : Option Addr) (n c : Nat) (w : World) (_h : n ≤ 9223372036854775807) :
    Calls Try.prog 82 #[.slice A n c] w fun e w' => e = .returned (.int .i64 n) ∧ w = w' := by
  go_enter Try.func82, Try.ntmps82
  go_wp2
  go_ret
  exact ⟨rfl, rfl⟩
/-- After k instructions. -/
def redTo (F : Int → Int) (ps : List R4) (k : Nat) : List R4 := (ps.take k).map (redI F) ++ ps.drop k
theorem redTo_len (F : Int → Int) (ps : List R4) (k : Nat) (h : k ≤ ps.length) : (redTo F ps k).length = ps.length := by simp [redTo]; omega
theorem redTo_at {F : Int → Int} {ps : List R4} {k : Nat} {r : R4} (h : ps[k]? = some r) : (redTo F ps k)[k]? = some r := by
  obtain ⟨hk, _⟩ := List.getElem?_eq_some_iff.1 h
  unfold redTo
  rw [List.getElem?_append_right (by simp; omega)]
  simp
  rw [show k + (k - min k ps.length) = k by omega]
  exact h
theorem redTo_next {F : Int → Int} {ps : List R4} {k : Nat} {r : R4} (h : ps[k]? = some r) : (redTo F ps k).set k (redI F r) = redTo F ps (k + 1) := by
  obtain ⟨hk, rfl⟩ := List.getElem?_eq_some_iff.1 h
  unfold redTo
  have e1 : ((ps.take k).map (redI F)).length = k := by simp; omega
  rw [List.set_append_right _ _ (by omega), e1, Nat.sub_self, List.drop_eq_getElem_cons hk, List.take_succ_eq_append_getElem hk, List.map_append]
  simp only [List.set_cons_zero, List.map_cons, List.map_nil, List.append_assoc, List.singleton_append]
theorem redTo_end {F : Int → Int} {ps : List R4} {k : Nat} (h : ps.length ≤ k) : redTo F ps k = ps.map (redI F) := by
  unfold redTo
  rw [List.take_of_length_le h, List.drop_eq_nil_of_le h, List.append_nil]
set_option maxRecDepth 100000 in
set_option maxHeartbeats 4000000 in
theorem redirected_any (P : Option Addr) (k : Nat) (ps : List R4) (f : FuncId) (c1 c2 c3 : Value) (F : Int → Int) (w : World) (hx : S4 w P ps.length ps) (hm : ps.length ≤ 1000) (hcall : ∀ (args : Array Value) (w : World), (callFunc f args).run Try.prog w = .ok (.enter f args) w)
    (hf : Hid (∀ x ∈ ps, ∀ t, t = x.c ∨ t = x.d → ∀ W', Below w.heap.size w W' → Calls Try.prog f #[.int .i64 t, c1, c2, c3] W' fun e w'' => e = .returned (.int .i64 (F t)) ∧ W' = w'')) :
    Calls Try.prog 175 #[.slice P ps.length k, .func (.func f) #[] #[c1, c2, c3]] w (NewQ w (ps.map (redI F))) := by
  go_enter Try.func175, Try.ntmps175
  go_wp2_with fail
  refine (cloneQ_any _ _ _ ps _ hx (by omega)).mono ?_
  rintro e w1 ⟨D, c, rfl, o1, z1⟩
  have HO1 := Lib.hid o1
  have HZ1 := Lib.hid z1
  clear o1 z1 hx
  go_wp2_with fail
  go_loopw [12] (fun i wr => ∃ j : Nat, j ≤ ps.length ∧ i = .int .i64 (j : Int) ∧ Hid (Own wr w.heap.size 133 4 D ps.length c (cells4 (redTo F ps j))) ∧ Hid (Below w.heap.size w wr)) (fun i _ => ps.length - (intOf i).toNat)
  case atStart => exact ⟨0, by omega, rfl, HO1, HZ1⟩
  case round =>
    obtain ⟨j, hj, rfl, HO, HZ⟩ := hrel
    clear HO1 HZ1
    by_cases hlt : j < ps.length
    rotate_left
    · have i1 : ¬ (j : Int) < (ps.length : Int) := by omega
      have HE : Hid (NewQ w (ps.map (redI F)) (.returned (.slice D ps.length c)) wr) := Lib.hid ⟨D, c, by rw [List.length_map], by rw [List.length_map]; have h := HO.out; rw [redTo_end (by omega)] at h; exact h, HZ.out⟩
      go_wp2_with fail
      go_ret
      exact HE.out
    obtain ⟨r, hr⟩ : ∃ r, ps[j]? = some r := ⟨_, List.getElem?_eq_getElem hlt⟩
    have HR := Lib.hid hr
    have hrm : r ∈ ps := List.mem_of_getElem? hr
    have i0 : (0 : Int) ≤ (j : Int) := by omega
    have i1 : (j : Int) < (ps.length : Int) := by omega
    have hl4 : (cells4 (redTo F ps j)).length = ps.length * 4 := by rw [length_cells4, redTo_len _ _ _ hj]
    have hat := redTo_at (F := F) hr
    clear hr
    obtain ⟨g0, g1, g2, g3⟩ := cells4_get _ j r hat
    obtain ⟨b, off, rfl, hb0, hb1, x0, _⟩ := HO.out.at_ (k := j * 4) (by omega)
    obtain ⟨b', off', e1, _, _, x1, _⟩ := HO.out.at_ (k := j * 4 + 1) (by omega)
    simp only [Option.some.injEq, Addr.mk.injEq, and_true] at e1
    obtain ⟨rfl, rfl⟩ := e1
    obtain ⟨b', off', e1, _, _, x2, y2⟩ := HO.out.at_ (k := j * 4 + 2) (by omega)
    simp only [Option.some.injEq, Addr.mk.injEq, and_true] at e1
    obtain ⟨rfl, rfl⟩ := e1
    obtain ⟨b', off', e1, _, _, x3, y3⟩ := HO.out.at_ (k := j * 4 + 3) (by omega)
    simp only [Option.some.injEq, Addr.mk.injEq, and_true] at e1
    obtain ⟨rfl, rfl⟩ := e1
    rw [(List.getElem?_eq_some_iff.1 g0).2] at x0
    rw [(List.getElem?_eq_some_iff.1 g1).2, ← Nat.add_assoc] at x1
    rw [(List.getElem?_eq_some_iff.1 g2).2, ← Nat.add_assoc] at x2
    rw [(List.getElem?_eq_some_iff.1 g3).2, ← Nat.add_assoc] at x3
    rw [← Nat.add_assoc] at y2 y3
    clear g0 g1 g2 g3
    obtain ⟨V, hW_⟩ : ∃ W_, W_ = wr.alloc (.cells #[.int .i64 r.a, .int .i64 r.b, .int .i64 r.c, .int .i64 r.d] 133) := ⟨_, rfl⟩
    have bV : Blk V wr.heap.size 133 #[.int .i64 r.a, .int .i64 r.b, .int .i64 r.c, .int .i64 r.d] := by rw [hW_]; exact Blk.new wr _ _
    have zV : Below wr.heap.size wr V := by rw [hW_]; exact (Below.refl _ _).alloc (Nat.le_refl _) _
    have HV := Lib.hid hW_
    clear hW_
    have HOV := Lib.hid (HO.out.below zV)
    have HZV := Lib.hid (HZ.out.trans (zV.mono HZ.out.size))
    have HBV := Lib.hid bV
    have hbV : b < V.heap.size := by have := bV.lt; omega
    have hbn : ¬ wr.heap.size = b := by omega
    have y2V : V.frozen? ⟨b, off + j * 4 + 2, none⟩ = false := by rw [zV.frozen (p := ⟨b, off + j * 4 + 2, none⟩) hb1]; exact y2
    have y3V : V.frozen? ⟨b, off + j * 4 + 3, none⟩ = false := by rw [zV.frozen (p := ⟨b, off + j * 4 + 3, none⟩) hb1]; exact y3
    have x2V : V.cell? ⟨b, off + j * 4 + 2, none⟩ = some (.int .i64 r.c) := by rw [zV.cell (p := ⟨b, off + j * 4 + 2, none⟩) hb1]; exact x2
    have x3V : V.cell? ⟨b, off + j * 4 + 3, none⟩ = some (.int .i64 r.d) := by rw [zV.cell (p := ⟨b, off + j * 4 + 3, none⟩) hb1]; exact x3
    have u0 : V.cell? ⟨wr.heap.size, 0, none⟩ = some (.int .i64 r.a) := bV.cell 0
    have u1 : V.cell? ⟨wr.heap.size, 1, none⟩ = some (.int .i64 r.b) := bV.cell 1
    have u2 : V.cell? ⟨wr.heap.size, 2, none⟩ = some (.int .i64 r.c) := bV.cell 2
    have u3 : V.cell? ⟨wr.heap.size, 3, none⟩ = some (.int .i64 r.d) := bV.cell 3
    have HC := Lib.hid (hf.out r hrm r.c (.inl rfl) V HZV.out)
    have HD := Lib.hid (fun W' (h : Below w.heap.size w W') => hf.out r hrm r.d (.inr rfl) W' h)
    have HAT := Lib.hid hat
    clear HO HZ zV bV hat y2 y3 hrm
    go_upto_region 5 with fail
    rw [← HV.out]
    clear x0 x1 x2 x3 HV
    go_wp2_with fail
    refine HC.out.mono ?_
    rintro e w2 ⟨rfl, rfl⟩
    go_upto_region 6 with fail
    obtain ⟨V2, hV2⟩ : ∃ V2, V2 = V.setCell ⟨b, off + j * 4 + 2, none⟩ (.int .i64 (F r.c)) := ⟨_, rfl⟩
    have HO2 : Hid (Own V2 w.heap.size 133 4 (some ⟨b, off, none⟩) ps.length c (cells4 ((redTo F ps j).set j { r with c := F r.c }))) := Lib.hid (by
      have h := HOV.out.set_ (k := j * 4 + 2) (by omega) (.int .i64 (F r.c))
      rw [cells4_set_c _ _ _ _ HAT.out, ← Nat.add_assoc] at h
      rw [hV2]; exact h)
    have b2 : Blk V2 wr.heap.size 133 #[.int .i64 r.a, .int .i64 r.b, .int .i64 r.c, .int .i64 r.d] := by rw [hV2]; exact HBV.out.far (p := ⟨b, off + j * 4 + 2, none⟩) hbn _
    have HZ2 : Hid (Below w.heap.size w V2) := Lib.hid (by rw [hV2]; exact HZV.out.setCell (p := ⟨b, off + j * 4 + 2, none⟩) hb0 _)
    have y3W : V2.frozen? ⟨b, off + j * 4 + 3, none⟩ = false := by rw [hV2]; simpa using y3V
    have x3W : V2.cell? ⟨b, off + j * 4 + 3, none⟩ = some (.int .i64 r.d) := by rw [hV2]; exact (World.cell?_setCell_other V ⟨b, off + j * 4 + 2, none⟩ ⟨b, off + j * 4 + 3, none⟩ _ (by intro h; simp only [Addr.mk.injEq] at h; omega)).trans x3V
    rw [← hV2]
    clear hV2 u0 u1 u2 u3 y2V y3V x2V x3V HOV HZV HBV
    have u0 : V2.cell? ⟨wr.heap.size, 0, none⟩ = some (.int .i64 r.a) := b2.cell 0
    have u1 : V2.cell? ⟨wr.heap.size, 1, none⟩ = some (.int .i64 r.b) := b2.cell 1
    have u2 : V2.cell? ⟨wr.heap.size, 2, none⟩ = some (.int .i64 r.c) := b2.cell 2
    have u3 : V2.cell? ⟨wr.heap.size, 3, none⟩ = some (.int .i64 r.d) := b2.cell 3
    by_cases ha : r.a = 1
    · have a1 : (r.a == 1) = true := by rw [ha]; rfl
      have HC2 := Lib.hid (HD.out V2 HZ2.out)
      have HNX : Hid ((((redTo F ps j).set j { r with c := F r.c }).set j { ({ r with c := F r.c } : R4) with d := F r.d }) = redTo F ps (j + 1)) := Lib.hid (by
        rw [← redTo_next HR.out, List.set_set]
        unfold redI; rw [if_pos ha])
      have HA2 : Hid (((redTo F ps j).set j { r with c := F r.c })[j]? = some { r with c := F r.c }) := Lib.hid (by
        rw [List.getElem?_set_self (by rw [redTo_len _ _ _ hj]; exact hlt)])
      clear ha
      go_wp2_with fail
      refine HC2.out.mono ?_
      rintro e w3 ⟨rfl, rfl⟩
      go_wp2_with fail
      have HO3 : Hid (Own (V2.setCell ⟨b, off + j * 4 + 3, none⟩ (.int .i64 (F r.d))) w.heap.size 133 4 (some ⟨b, off, none⟩) ps.length c (cells4 (redTo F ps (j + 1)))) := Lib.hid (by
        have h := HO2.out.set_ (k := j * 4 + 3) (by rw [length_cells4, List.length_set, redTo_len _ _ _ hj]; omega) (.int .i64 (F r.d))
        rw [cells4_set_d _ _ _ _ HA2.out, ← Nat.add_assoc, HNX.out] at h
        exact h)
      have HZ3 : Hid (Below w.heap.size w (V2.setCell ⟨b, off + j * 4 + 3, none⟩ (.int .i64 (F r.d)))) := Lib.hid (HZ2.out.setCell (p := ⟨b, off + j * 4 + 3, none⟩) hb0 _)
      go_roundw
      case rel => exact ⟨j + 1, by omega, by go_num, HO3, HZ3⟩
      case measure => simp [intOf]; omega
    · have a1 : (r.a == 1) = false := by simpa using ha
      have HNX : Hid ((redTo F ps j).set j { r with c := F r.c } = redTo F ps (j + 1)) := Lib.hid (by
        rw [← redTo_next HR.out]
        unfold redI; rw [if_neg ha])
      rw [HNX.out] at HO2
      clear ha
      go_wp2_with fail
      go_roundw
      case rel => exact ⟨j + 1, by omega, by go_num, HO2, HZ2⟩
      case measure => simp [intOf]; omega
set_option maxHeartbeats 1000000 in
theorem part1_any (b1 b2 b3 : Nat) (P : Option Addr) (m k : Nat) (halt at_ t : Int) (w : World) (h1 : w.cell? ⟨b1, 0, none⟩ = some (.slice P m k)) (h2 : w.cell? ⟨b2, 0, none⟩ = some (.int .i64 halt)) (h3 : w.cell? ⟨b3, 0, none⟩ = some (.int .i64 at_))
    (hm : m ≤ 1000) (t0 : -1000 ≤ t) (t1 : t ≤ 1000) (a0 : -1000 ≤ at_) (a1 : at_ ≤ 1000) :
    Calls Try.prog 176 #[.int .i64 t, .pointer (some ⟨b1, 0, none⟩), .pointer (some ⟨b2, 0, none⟩), .pointer (some ⟨b3, 0, none⟩)] w fun e w' => e = .returned (.int .i64 (toF (m : Int) at_ halt t)) ∧ w = w' := by
  by_cases ht : t = (m : Int)
  · have HT : Hid (toF (m : Int) at_ halt t = halt) := Lib.hid (by unfold toF; rw [if_pos ht])
    have q : (t == (m : Int)) = true := by rw [ht]; simp
    clear ht
    go_enter Try.func176, Try.ntmps176
    go_wp2_with (go_at_call 82; refine (sizeQ_any _ _ _ _ (by omega)).mono ?_; rintro e w' ⟨rfl, rfl⟩)
    go_ret
    exact ⟨ret_int HT.out.symm, rfl⟩
  · have HT : Hid (toF (m : Int) at_ halt t = t + at_) := Lib.hid (by unfold toF; rw [if_neg ht])
    have q : (t == (m : Int)) = false := by simpa using ht
    clear ht
    go_enter Try.func176, Try.ntmps176
    go_wp2_with (go_at_call 82; refine (sizeQ_any _ _ _ _ (by omega)).mono ?_; rintro e w' ⟨rfl, rfl⟩)
    go_ret
    exact ⟨ret_int HT.out.symm, rfl⟩
end Go.Proofs.Ytdlojbabnelbdaa

/-
  Contracts of the assembly's methods part and done, of joinPrograms and moveRegister.
-/
namespace Go.Proofs.Ytdlojbabnelbdaa
open Go.RowKit

set_option maxRecDepth 100000 in
set_option maxHeartbeats 4000000 in
theorem part_any (w0 w : World) (g : Nat) (rs : List R4) (P : Option Addr) (k : Nat) (ps : List R4) (h_ : Int) (h : Asm w0 g rs w) (hp : S4 w P ps.length ps) (hl : rs.length ≤ 500) (hm : ps.length ≤ 400) (hv : ∀ x ∈ ps, 0 ≤ x.c ∧ x.c ≤ 400 ∧ 0 ≤ x.d ∧ x.d ≤ 400) :
    Calls Try.prog 84 #[.pointer (some ⟨g, 0, none⟩), .slice P ps.length k, .int .i64 h_] w (AsmPost w0 g (rs ++ partP ps (rs.length : Int) h_)) := by
  obtain ⟨h1, h2, A, c, h3, h4⟩ := h
  obtain ⟨W, hW_⟩ : ∃ W, W = (w.alloc (.cells #[.slice P ps.length k] 24)).alloc (.cells #[.int .i64 h_] 2) := ⟨_, rfl⟩
  have s_1 : (w.alloc (.cells #[.slice P ps.length k] 24)).heap.size = w.heap.size + 1 := by simp
  have b0 : Blk W w.heap.size 24 #[.slice P ps.length k] := by rw [hW_]; exact (Blk.new w _ _).alloc _
  have b1 : Blk W (w.heap.size + 1) 2 #[.int .i64 h_] := by rw [hW_, ← s_1]; exact Blk.new _ _ _
  have y0 : Below w.heap.size w W := by rw [hW_]; exact ((Below.refl _ _).alloc (Nat.le_refl _) _).alloc (by simp) _
  have HW := Lib.hid hW_
  clear hW_ s_1
  obtain ⟨V, hW_⟩ : ∃ W_, W_ = W.alloc (.cells #[.int .i64 (rs.length : Int)] 2) := ⟨_, rfl⟩
  have b2 : Blk V W.heap.size 2 #[.int .i64 (rs.length : Int)] := by rw [hW_]; exact Blk.new W _ _
  have zV : Below W.heap.size W V := by rw [hW_]; exact (Below.refl _ _).alloc (Nat.le_refl _) _
  have HV := Lib.hid hW_
  clear hW_
  have HB := Lib.hid ((h3.below' y0).below' zV)
  have HO := Lib.hid ((h4.below y0).below zV)
  have HZ := Lib.hid ((h2.trans (y0.mono h2.size)).trans (zV.mono (h2.trans (y0.mono h2.size)).size))
  have HP := Lib.hid ((hp.below y0).below zV)
  have d0 := b0.below' zV
  have d1 := b1.below' zV
  have k0 : W.cell? ⟨g, 0, none⟩ = some (.slice A rs.length c) := (h3.below' y0).cell 0
  have HR : Hid (Calls Try.prog 175 #[.slice P ps.length k, .func (.func 176) #[] #[.pointer (some ⟨w.heap.size, 0, none⟩), .pointer (some ⟨w.heap.size + 1, 0, none⟩), .pointer (some ⟨W.heap.size, 0, none⟩)]] V.drew (NewQ V.drew (partP ps (rs.length : Int) h_))) := Lib.hid (by
    refine redirected_any P k ps _ _ _ _ _ _ (HP.out.drewN 1) (by omega) Try.call176 (Lib.hid (fun x hx t ht W' hW' => ?_))
    have e0 := d0.below' (w' := W') ⟨hW'.os, hW'.tape, hW'.output, hW'.size, hW'.block⟩
    have e1 := d1.below' (w' := W') ⟨hW'.os, hW'.tape, hW'.output, hW'.size, hW'.block⟩
    have e2 := b2.below' (w' := W') ⟨hW'.os, hW'.tape, hW'.output, hW'.size, hW'.block⟩
    have hx2 := hv x hx
    exact part1_any _ _ _ P ps.length k h_ (rs.length : Int) t W' (e0.cell 0) (e1.cell 0) (e2.cell 0) (by omega) (by rcases ht with rfl | rfl <;> omega) (by rcases ht with rfl | rfl <;> omega) (by omega) (by omega))
  have HD0 : Hid (∀ W' : World, W' = V.drew → W'.cell? ⟨w.heap.size, 0, none⟩ = some (.slice P ps.length k)) := Lib.hid (by rintro _ rfl; exact d0.cell 0)
  clear h3 h4 h2 hp b0 b1 hv
  go_enter Try.func84, Try.ntmps84
  go_upto_region 1 with fail
  rw [← HW.out]
  clear HW
  go_wp2_with (go_at_call 82; refine (sizeQ_any _ _ _ _ (by omega)).mono ?_; rintro e w' ⟨rfl, rfl⟩)
  rw [← HV.out]
  clear HV k0
  have hB : Blk V.drew g 129 #[.slice A rs.length c] := HB.out
  have hO : Own V.drew w0.heap.size 133 4 A rs.length c (cells4 rs) := HO.out
  have hZ : Below w0.heap.size w0 V.drew := below_drewN HZ.out 1
  have kg := hB.cell 0
  have kf := hB.frozen 0
  have kp := HD0.out _ rfl
  clear HB HO HZ HP d0 d1 b2 HD0
  have hR := HR.out
  clear HR
  refine wp_region_any (by kernel_rfl) ?_
  try (change wpAny _ _ _ _ _ _ _ (World.drew _))
  generalize V.drew = Wc at *
  refine wpAny_take (i := 0) (v := ?_) rfl (by kernel_rfl) (by kernel_rfl) (by kernel_rfl) (fun _ _ _ h => h) (Or.inl ⟨by rfl, ?_⟩) ?_
  rotate_left
  · intro w
    go_simp
    try with_reducible rfl
  try simp only [Act.put, List.setIfInBounds_toArray]
  refine wpAny_take (i := 1) (v := ?_) rfl (by kernel_rfl) (by kernel_rfl) (by kernel_rfl) (fun _ _ _ h => h) (Or.inl ⟨by rfl, ?_⟩) ?_
  rotate_left
  · intro w
    go_simp
    try with_reducible rfl
  try simp only [Act.put]
  refine wpAny_take (i := 2) (v := ?_) rfl (by kernel_rfl) (by kernel_rfl) (by kernel_rfl) (fun _ _ _ h => h) (Or.inl ⟨by rfl, ?_⟩) ?_
  rotate_left
  · intro w
    go_simp
    try with_reducible rfl
  try simp only [Act.put]
  refine wpAny_take (i := 3) (v := ?_) rfl (by kernel_rfl) (by kernel_rfl) (by kernel_rfl) (fun _ _ _ h => h) (Or.inl ⟨by rfl, ?_⟩) ?_
  rotate_left
  · intro w
    go_simp
    try with_reducible rfl
  try simp only [Act.put]
  refine wpAny_take (i := 6) (v := ?_) rfl (by kernel_rfl) (by kernel_rfl) (by kernel_rfl) (fun _ _ _ h => h) (Or.inl ⟨by rfl, ?_⟩) ?_
  rotate_left
  · intro w
    go_simp
    try with_reducible rfl
  try simp only [Act.put]
  refine wpAny_ready (rs := [4, 5]) (by kernel_rfl) (by simp) ?_
  refine AllReady.cons rfl (fun K hK => ?_) ?_
  · go_simp
    refine hK _ _ ?_
    clear hK K
    try simp only [Act.put, List.setIfInBounds_toArray, List.set_cons_zero, List.set_cons_succ]
    refine wpAny_ready (rs := [5]) (by kernel_rfl) (by simp) ?_
    refine AllReady.cons rfl (fun K hK => ?_) ?_
    · go_simp
      refine hK _ _ ?_
      clear hK K
      try simp only [Act.put, List.setIfInBounds_toArray, List.set_cons_zero, List.set_cons_succ]
      refine wpAny_ready (rs := [7]) (by kernel_rfl) (by simp) ?_
      refine AllReady.cons rfl (fun K hK => ?_) ?_
      · go_simp
        refine hR.mono ?_
        rintro e w7 ⟨D, d, rfl, oD, z7⟩
        replace hB := hB.below' z7
        replace hO := hO.below z7
        replace hZ := hZ.trans (z7.mono hZ.size)
        replace kg := hB.cell 0
        replace kf := hB.frozen 0
        refine hK _ _ ?_
        clear hK K
        try simp only [Act.put, List.setIfInBounds_toArray, List.set_cons_zero, List.set_cons_succ]
        refine wpAny_ready (rs := [8]) (by kernel_rfl) (by simp) ?_
        refine AllReady.cons rfl (fun K hK => ?_) ?_
        · rw [if_pos (by rfl)]
          refine wp_append_Own (.tmp 17) (.tmp 20) rfl elQ (lo := w0.heap.size) rfl hO rfl oD.rd (cells4_one _) (by rw [partP_len]; omega) (by rw [partP_len]; simp only [maxLen]; omega) hZ.size ?_
          intro A2 c2 w2 o2 g2 _
          have hF := Asm.more h1 hZ hB hO o2 g2
          have hB2 := hB.grown hO g2 (by decide)
          replace kg := hB2.cell 0
          replace kf := hB2.frozen 0
          refine hK _ _ ?_
          clear hK K
          try simp only [Act.put, List.setIfInBounds_toArray]
          refine wpAny_take (i := 9) (v := ?_) rfl (by kernel_rfl) (by kernel_rfl) (by kernel_rfl) (fun _ _ _ h => h) (Or.inl ⟨by rfl, ?_⟩) ?_
          rotate_left
          · intro w
            go_simp
            try with_reducible rfl
          try simp only [Act.put]
          refine wpAny_take (i := 10) (v := ?_) rfl (by kernel_rfl) (by kernel_rfl) (by kernel_rfl) (fun _ _ _ h => h) (Or.inl ⟨by rfl, ?_⟩) ?_
          rotate_left
          · intro w
            go_simp
            try with_reducible rfl
          try simp only [Act.put]
          refine wpAny_ready (rs := [11]) (by kernel_rfl) (by simp) ?_
          refine AllReady.cons rfl (fun K hK => ?_) ?_
          · go_simp
            refine hK _ _ ?_
            clear hK K
            try simp only [Act.put, List.setIfInBounds_toArray]
            refine wpAny_done (by kernel_rfl) ?_ _
            go_wp2_with fail
            go_ret
            exact ⟨rfl, hF⟩
          exact AllReady.nil
        exact AllReady.nil
      exact AllReady.nil
    exact AllReady.nil
  refine AllReady.cons rfl (fun K hK => ?_) ?_
  · go_simp
    refine hK _ _ ?_
    clear hK K
    try simp only [Act.put, List.setIfInBounds_toArray, List.set_cons_zero, List.set_cons_succ]
    refine wpAny_ready (rs := [4, 7]) (by kernel_rfl) (by simp) ?_
    refine AllReady.cons rfl (fun K hK => ?_) ?_
    · go_simp
      refine hK _ _ ?_
      clear hK K
      try simp only [Act.put, List.setIfInBounds_toArray, List.set_cons_zero, List.set_cons_succ]
      refine wpAny_ready (rs := [7]) (by kernel_rfl) (by simp) ?_
      refine AllReady.cons rfl (fun K hK => ?_) ?_
      · go_simp
        refine hR.mono ?_
        rintro e w7 ⟨D, d, rfl, oD, z7⟩
        replace hB := hB.below' z7
        replace hO := hO.below z7
        replace hZ := hZ.trans (z7.mono hZ.size)
        replace kg := hB.cell 0
        replace kf := hB.frozen 0
        refine hK _ _ ?_
        clear hK K
        try simp only [Act.put, List.setIfInBounds_toArray, List.set_cons_zero, List.set_cons_succ]
        refine wpAny_ready (rs := [8]) (by kernel_rfl) (by simp) ?_
        refine AllReady.cons rfl (fun K hK => ?_) ?_
        · rw [if_pos (by rfl)]
          refine wp_append_Own (.tmp 17) (.tmp 20) rfl elQ (lo := w0.heap.size) rfl hO rfl oD.rd (cells4_one _) (by rw [partP_len]; omega) (by rw [partP_len]; simp only [maxLen]; omega) hZ.size ?_
          intro A2 c2 w2 o2 g2 _
          have hF := Asm.more h1 hZ hB hO o2 g2
          have hB2 := hB.grown hO g2 (by decide)
          replace kg := hB2.cell 0
          replace kf := hB2.frozen 0
          refine hK _ _ ?_
          clear hK K
          try simp only [Act.put, List.setIfInBounds_toArray]
          refine wpAny_take (i := 9) (v := ?_) rfl (by kernel_rfl) (by kernel_rfl) (by kernel_rfl) (fun _ _ _ h => h) (Or.inl ⟨by rfl, ?_⟩) ?_
          rotate_left
          · intro w
            go_simp
            try with_reducible rfl
          try simp only [Act.put]
          refine wpAny_take (i := 10) (v := ?_) rfl (by kernel_rfl) (by kernel_rfl) (by kernel_rfl) (fun _ _ _ h => h) (Or.inl ⟨by rfl, ?_⟩) ?_
          rotate_left
          · intro w
            go_simp
            try with_reducible rfl
          try simp only [Act.put]
          refine wpAny_ready (rs := [11]) (by kernel_rfl) (by simp) ?_
          refine AllReady.cons rfl (fun K hK => ?_) ?_
          · go_simp
            refine hK _ _ ?_
            clear hK K
            try simp only [Act.put, List.setIfInBounds_toArray]
            refine wpAny_done (by kernel_rfl) ?_ _
            go_wp2_with fail
            go_ret
            exact ⟨rfl, hF⟩
          exact AllReady.nil
        exact AllReady.nil
      exact AllReady.nil
    refine AllReady.cons rfl (fun K hK => ?_) ?_
    · go_simp
      refine hR.mono ?_
      rintro e w7 ⟨D, d, rfl, oD, z7⟩
      replace hB := hB.below' z7
      replace hO := hO.below z7
      replace hZ := hZ.trans (z7.mono hZ.size)
      replace kg := hB.cell 0
      replace kf := hB.frozen 0
      refine hK _ _ ?_
      clear hK K
      try simp only [Act.put, List.setIfInBounds_toArray, List.set_cons_zero, List.set_cons_succ]
      refine wpAny_ready (rs := [4]) (by kernel_rfl) (by simp) ?_
      refine AllReady.cons rfl (fun K hK => ?_) ?_
      · go_simp
        refine hK _ _ ?_
        clear hK K
        try simp only [Act.put, List.setIfInBounds_toArray, List.set_cons_zero, List.set_cons_succ]
        refine wpAny_ready (rs := [8]) (by kernel_rfl) (by simp) ?_
        refine AllReady.cons rfl (fun K hK => ?_) ?_
        · rw [if_pos (by rfl)]
          refine wp_append_Own (.tmp 17) (.tmp 20) rfl elQ (lo := w0.heap.size) rfl hO rfl oD.rd (cells4_one _) (by rw [partP_len]; omega) (by rw [partP_len]; simp only [maxLen]; omega) hZ.size ?_
          intro A2 c2 w2 o2 g2 _
          have hF := Asm.more h1 hZ hB hO o2 g2
          have hB2 := hB.grown hO g2 (by decide)
          replace kg := hB2.cell 0
          replace kf := hB2.frozen 0
          refine hK _ _ ?_
          clear hK K
          try simp only [Act.put, List.setIfInBounds_toArray]
          refine wpAny_take (i := 9) (v := ?_) rfl (by kernel_rfl) (by kernel_rfl) (by kernel_rfl) (fun _ _ _ h => h) (Or.inl ⟨by rfl, ?_⟩) ?_
          rotate_left
          · intro w
            go_simp
            try with_reducible rfl
          try simp only [Act.put]
          refine wpAny_take (i := 10) (v := ?_) rfl (by kernel_rfl) (by kernel_rfl) (by kernel_rfl) (fun _ _ _ h => h) (Or.inl ⟨by rfl, ?_⟩) ?_
          rotate_left
          · intro w
            go_simp
            try with_reducible rfl
          try simp only [Act.put]
          refine wpAny_ready (rs := [11]) (by kernel_rfl) (by simp) ?_
          refine AllReady.cons rfl (fun K hK => ?_) ?_
          · go_simp
            refine hK _ _ ?_
            clear hK K
            try simp only [Act.put, List.setIfInBounds_toArray]
            refine wpAny_done (by kernel_rfl) ?_ _
            go_wp2_with fail
            go_ret
            exact ⟨rfl, hF⟩
          exact AllReady.nil
        exact AllReady.nil
      exact AllReady.nil
    exact AllReady.nil
  exact AllReady.nil
set_option maxHeartbeats 1000000 in
theorem done_yes (w0 w : World) (g : Nat) (rs : List R4) (h : Asm w0 g rs w) (hle : rs.length ≤ 400) :
    Calls Try.prog 85 #[.pointer (some ⟨g, 0, none⟩)] w fun e w' => (∃ A c, e = .returned (.tuple #[.slice A rs.length c, .int .i64 0]) ∧ Own w' w0.heap.size 133 4 A rs.length c (cells4 rs)) ∧ w = w' := by
  obtain ⟨h1, h2, A, c, h3, h4⟩ := h
  have HO := Lib.hid h4
  have k0 : w.cell? ⟨g, 0, none⟩ = some (.slice A rs.length c) := h3.cell 0
  clear h3 h4 h2
  have i1 : ¬ (400 : Int) < (rs.length : Int) := by omega
  go_enter Try.func85, Try.ntmps85
  go_wp2_with fail
  exact bodyPost_ret (v := .tuple #[.slice A rs.length c, .int .i64 0]) (by simp [results, Try.results85, go_sem]) rfl ⟨⟨A, c, rfl, HO.out⟩, rfl⟩
set_option maxHeartbeats 1000000 in
/-- The finished list, where a field is read behind a pointer. -/
theorem Asm.cell {w0 w : World} {g : Nat} {rs : List R4} (h : Asm w0 g rs w) : ∃ A c, w.cell? ⟨g, 0, none⟩ = some (.slice A rs.length c) ∧ g < w.heap.size ∧ Own w w0.heap.size 133 4 A rs.length c (cells4 rs) ∧ Below w0.heap.size w0 w := by
  obtain ⟨h1, h2, A, c, h3, h4⟩ := h
  exact ⟨A, c, h3.cell 0, h3.lt, h4, h2⟩
theorem Asm.start (w : World) : Asm w w.heap.size [] (w.alloc (.cells #[.slice none 0 0] 129)) :=
  ⟨Nat.le_refl _, (Below.refl _ _).alloc (Nat.le_refl _) _, none, 0, Blk.new w _ _, Own.nil⟩
def JoinPost (w : World) (rs : List R4) (e : Ending) (w' : World) : Prop := ∃ g, e = .returned (.pointer (some ⟨g, 0, none⟩)) ∧ Asm w g rs w'
def joinP (p q : List R4) : List R4 := partP p 0 (p.length : Int) ++ partP q (p.length : Int) ((p.length : Int) + (q.length : Int))
set_option maxHeartbeats 1000000 in
theorem joinPrograms_any (P Q : Option Addr) (k l : Nat) (p q : List R4) (w : World) (hp : S4 w P p.length p) (hq : S4 w Q q.length q) (hpl : p.length ≤ 400) (hql : q.length ≤ 400) (hpv : ∀ x ∈ p, 0 ≤ x.c ∧ x.c ≤ 400 ∧ 0 ≤ x.d ∧ x.d ≤ 400) (hqv : ∀ x ∈ q, 0 ≤ x.c ∧ x.c ≤ 400 ∧ 0 ≤ x.d ∧ x.d ≤ 400) :
    Calls Try.prog 97 #[.slice P p.length k, .slice Q q.length l] w (JoinPost w (joinP p q)) := by
  obtain ⟨V, hV⟩ : ∃ V, V = w.alloc (.cells #[.slice none 0 0] 129) := ⟨_, rfl⟩
  have hA : Asm w w.heap.size [] V := by rw [hV]; exact Asm.start w
  have hP : S4 V P p.length p := by rw [hV]; exact hp.alloc _
  have HV := Lib.hid hV
  have HQ : Hid (∀ W, Below w.heap.size w W → S4 W Q q.length q) := Lib.hid (fun W z => hq.below z)
  have HP1 := Lib.hid (part_any w V w.heap.size [] P k p (p.length : Int) hA hP (by simp) hpl hpv)
  have v1 : IntKind.i64.wrap ((p.length : Int) + (q.length : Int)) = (p.length : Int) + (q.length : Int) := IntWalk.i64_in _ (by omega)
  clear hV hA hP hp hq hpv
  go_enter Try.func97, Try.ntmps97
  go_upto_region 2 with fail
  rw [← HV.out]
  clear HV
  go_wp2_with (first
    | (go_at_call 82; refine (sizeQ_any _ _ _ _ (by omega)).mono ?_; rintro e w' ⟨rfl, rfl⟩)
    | (go_at_call 84; refine HP1.out.mono ?_; rintro e1 w1 ⟨rfl, hA1⟩; clear HP1; have HA1 := Lib.hid hA1; clear hA1))
  have HA2 : Hid (Asm w w.heap.size (partP p 0 (p.length : Int)) w1) := HA1
  have HP2 := Lib.hid (part_any w w1 w.heap.size _ Q l q ((p.length : Int) + (q.length : Int)) HA2.out (HQ.out _ HA2.out.2.1) (by rw [partP_len]; omega) hql hqv)
  clear HA1
  refine HP2.out.mono ?_
  rintro e2 w2 ⟨rfl, hA3⟩
  have HA3 := Lib.hid hA3
  clear hA3
  go_wp2_with fail
  go_ret
  have h := HA3.out
  rw [partP_len] at h
  exact ⟨_, rfl, h⟩
end Go.Proofs.Ytdlojbabnelbdaa

/-
  Contract of impl.moveRegister.
-/
namespace Go.Proofs.Ytdlojbabnelbdaa
open Go.RowKit

def tgtTo (ts : List Int) (k : Nat) : List R4 := (List.range k).map fun j => ⟨0, ts.getD j 0, if j + 1 = ts.length then 0 else (j : Int) + 2, 0⟩
def moveL (a : Int) (ts : List Int) : List R4 := ⟨1, a, if ts.length = 0 then 0 else 1, (ts.length : Int) + 1⟩ :: tgtTo ts ts.length
theorem tgtTo_len (ts : List Int) (k : Nat) : (tgtTo ts k).length = k := by simp [tgtTo]
theorem moveL_len (a : Int) (ts : List Int) : (moveL a ts).length = ts.length + 1 := by simp [moveL, tgtTo_len]
theorem tgtTo_next (ts : List Int) (k : Nat) : tgtTo ts (k + 1) = tgtTo ts k ++ [⟨0, ts.getD k 0, if k + 1 = ts.length then 0 else (k : Int) + 2, 0⟩] := by simp [tgtTo, List.range_succ]
theorem moveL_ok (a : Int) (ts : List Int) (h : ts.length ≤ 24) : ∀ x ∈ moveL a ts, 0 ≤ x.c ∧ x.c ≤ 400 ∧ 0 ≤ x.d ∧ x.d ≤ 400 := by
  intro x hx
  rcases List.mem_cons.1 hx with rfl | hx
  · dsimp only
    split <;> omega
  · unfold tgtTo at hx
    rw [List.mem_map] at hx
    obtain ⟨j, hj, rfl⟩ := hx
    have := List.mem_range.1 hj
    dsimp only
    split <;> omega
set_option maxRecDepth 100000 in
set_option maxHeartbeats 4000000 in
theorem moveRegister_any (a : Int) (T : Option Addr) (n k : Nat) (ts : List Int) (w : World) (ht : SI w T n ts) (hn : n ≤ 24) :
    Calls Try.prog 98 #[.int .i64 a, .slice T n k] w (NewQ w (moveL a ts)) := by
  have HL : Hid (ts.length = n) := Lib.hid ht.len
  have HT := Lib.hid ht
  obtain ⟨V, hV⟩ : ∃ V, V = w.alloc (.cells #[.slice none 0 0] 129) := ⟨_, rfl⟩
  have hA : Asm w w.heap.size [] V := by rw [hV]; exact Asm.start w
  have HV := Lib.hid hV
  have HA := Lib.hid hA
  clear hV hA ht
  by_cases h0 : n = 0
  · subst h0
    have HD := Lib.hid (dec_any w V w.heap.size [] a 0 1 HA.out (by simp))
    have HE : Hid (moveL a ts = [] ++ [⟨1, a, 0, 1⟩]) := Lib.hid (by
      have h := List.eq_nil_of_length_eq_zero HL.out
      subst h; rfl)
    go_enter Try.func98, Try.ntmps98
    go_upto_region 2 with fail
    rw [← HV.out]
    clear HV
    go_wp2_with fail
    refine HD.out.mono ?_
    rintro e1 w1 ⟨rfl, hA1⟩
    obtain ⟨A, c, k0, hg, o1, z1⟩ := hA1.cell
    have HN : Hid (NewQ w (moveL a ts) (.returned (.slice A ([] ++ [(⟨1, a, 0, 1⟩ : R4)]).length c)) w1) := Lib.hid (by rw [HE.out]; exact ⟨A, c, rfl, o1, z1⟩)
    clear hA1 o1 z1 HE
    go_wp2_with fail
    go_ret
    exact HN.out
  have HD := Lib.hid (dec_any w V w.heap.size [] a 1 ((n : Int) + 1) HA.out (by simp))
  have HE : Hid ([] ++ [(⟨1, a, 1, (n : Int) + 1⟩ : R4)] = ⟨1, a, if ts.length = 0 then 0 else 1, (ts.length : Int) + 1⟩ :: tgtTo ts 0) := Lib.hid (by
    rw [if_neg (by rw [HL.out]; exact h0), HL.out]; rfl)
  have i0 : ((n : Int) == 0) = false := by simpa using h0
  go_enter Try.func98, Try.ntmps98
  go_upto_region 2 with fail
  rw [← HV.out]
  clear HV
  go_wp2_with (first
    | (go_at_call 183; refine (sizeI_any _ _ _ _ (by omega)).mono ?_; rintro e w' ⟨rfl, rfl⟩)
    | (go_at_call 81; refine HD.out.mono ?_; rintro e1 w1 ⟨rfl, hA1⟩; clear HD; have HA1 := Lib.hid hA1; clear hA1))
  rw [HE.out] at HA1
  clear HE HA i0
  go_loopw [28] (fun i wr => ∃ j : Nat, j ≤ n ∧ i = .int .i64 (j : Int) ∧ Hid (Asm w w.heap.size (⟨1, a, if ts.length = 0 then 0 else 1, (ts.length : Int) + 1⟩ :: tgtTo ts j) wr)) (fun i _ => n - (intOf i).toNat)
  case atStart => exact ⟨0, by omega, rfl, HA1⟩
  case round =>
    obtain ⟨j, hj, rfl, HB⟩ := hrel
    clear HA1
    by_cases hlt : j < n
    rotate_left
    · have i1 : ¬ (j : Int) < (n : Int) := by omega
      obtain ⟨A, c, k0, hg, o1, z1⟩ := HB.out.cell
      have HN : Hid (NewQ w (moveL a ts) (.returned (.slice A ((⟨1, a, if ts.length = 0 then 0 else 1, (ts.length : Int) + 1⟩ : R4) :: tgtTo ts j).length c)) wr) := Lib.hid (by
        obtain rfl : j = ts.length := by rw [HL.out]; omega
        exact ⟨A, c, rfl, o1, z1⟩)
      clear o1 z1
      generalize ((⟨1, a, if ts.length = 0 then 0 else 1, (ts.length : Int) + 1⟩ : R4) :: tgtTo ts j).length = N at *
      go_wp2_with fail
      go_ret
      exact HN.out
    have i0 : (0 : Int) ≤ (j : Int) := by omega
    have i1 : (j : Int) < (n : Int) := by omega
    obtain ⟨b, off, rfl, hb, hc⟩ := (HT.out.below HB.out.2.1).at_ hlt
    obtain ⟨y, hy⟩ : ∃ y, y = ts[j]'(by rw [HL.out]; exact hlt) := ⟨_, rfl⟩
    rw [← hy] at hc
    have HY : Hid (ts.getD j 0 = y) := Lib.hid (by rw [hy, List.getD_eq_getElem?_getD, List.getElem?_eq_getElem]; rfl)
    clear hy
    have hlen : (⟨1, a, if ts.length = 0 then 0 else 1, (ts.length : Int) + 1⟩ :: tgtTo ts j : List R4).length ≤ 1000 := by rw [List.length_cons, tgtTo_len]; omega
    by_cases hlast : j + 1 = n
    · have q1 : ((j : Int) == (n : Int) - 1) = true := by simp; omega
      have HI := Lib.hid (inc_any w wr w.heap.size _ y 0 HB.out hlen)
      have HX : Hid ((⟨1, a, if ts.length = 0 then 0 else 1, (ts.length : Int) + 1⟩ :: tgtTo ts j : List R4) ++ [⟨0, y, 0, 0⟩] = ⟨1, a, if ts.length = 0 then 0 else 1, (ts.length : Int) + 1⟩ :: tgtTo ts (j + 1)) := Lib.hid (by
        rw [tgtTo_next, HY.out, (if_pos (by rw [HL.out]; exact hlast) : (if j + 1 = ts.length then (0 : Int) else (j : Int) + 2) = 0)]; rfl)
      rw [HX.out] at HI
      go_wp2_with fail
      refine HI.out.mono ?_
      rintro e2 w2 ⟨rfl, hA2⟩
      have HA2 := Lib.hid hA2
      clear hA2
      go_wp2_with fail
      go_roundw
      case rel => exact ⟨j + 1, by omega, by go_num, HA2⟩
      case measure => simp [intOf]; omega
    · have q1 : ((j : Int) == (n : Int) - 1) = false := by simp; omega
      have HI := Lib.hid (inc_any w wr w.heap.size _ y ((j : Int) + 2) HB.out hlen)
      have HX : Hid ((⟨1, a, if ts.length = 0 then 0 else 1, (ts.length : Int) + 1⟩ :: tgtTo ts j : List R4) ++ [⟨0, y, (j : Int) + 2, 0⟩] = ⟨1, a, if ts.length = 0 then 0 else 1, (ts.length : Int) + 1⟩ :: tgtTo ts (j + 1)) := Lib.hid (by
        rw [tgtTo_next, HY.out, (if_neg (by rw [HL.out]; exact hlast) : (if j + 1 = ts.length then (0 : Int) else (j : Int) + 2) = (j : Int) + 2)]; rfl)
      rw [HX.out] at HI
      go_wp2_with fail
      refine HI.out.mono ?_
      rintro e2 w2 ⟨rfl, hA2⟩
      have HA2 := Lib.hid hA2
      clear hA2
      go_wp2_with fail
      go_roundw
      case rel => exact ⟨j + 1, by omega, by go_num, HA2⟩
      case measure => simp [intOf]; omega
end Go.Proofs.Ytdlojbabnelbdaa
