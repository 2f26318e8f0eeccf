/-
  Slices of machines, and marks over them.
-/
import Derived.Test.YthipbeggaeogcaaCfsM
import Derived.Test.YthipbeggaeogcaaWords3
namespace Go.Proofs.Ythipbeggaeogcaa
open Go.RowKit

theorem elMach : Elem Try.prog 87 82 3 40 (.agg #[.int .i64 0, .int .i64 0, .slice none 0 0]) := ⟨Try.underlying87, by kernel_rfl, rfl, by decide⟩
/-- A machine in memory. -/
structure Mc where
  sy : Int
  st : Int
  A : Option Addr
  k : Nat
  rs : List R3
/-- A machine. -/
structure Mch where
  sy : Int
  st : Int
  rs : List R3
def Mc.cells (t : Mc) : List Value := [.int .i64 t.sy, .int .i64 t.st, .slice t.A t.rs.length t.k]
def Rw.r (A : Option Addr) (k : Nat) (rs : List R3) : Rw := ⟨A, rs.length, k, 169, 3, cells3 rs⟩
def Mc.rows (t : Mc) : List Rw := [Rw.r t.A t.k t.rs]
def Mc.mach (t : Mc) : Mch := ⟨t.sy, t.st, t.rs⟩
theorem Mc.cells_len (t : Mc) : t.cells.length = 3 := rfl
theorem Mc.one (ts : List Mc) : ∀ u ∈ ts.flatMap Mc.cells, u.oneCell' = true := by
  intro u hu
  simp only [List.mem_flatMap, Mc.cells, List.mem_cons, List.not_mem_nil, or_false] at hu
  obtain ⟨t, _, h | h | h⟩ := hu <;> subst h <;> rfl
/-- An owned slice of machines, all rows apart. -/
def OMs (w : World) (lo : Nat) (A : Option Addr) (n c : Nat) (ts : List Mc) : Prop := Recs w lo 82 3 A n c (ts.flatMap Mc.cells) (ts.flatMap Mc.rows)
def machs (ts : List Mc) : List Mch := ts.map Mc.mach
theorem machs_len {ts : List Mc} {M : List Mch} (h : machs ts = M) : ts.length = M.length := by rw [← h]; simp [machs]
section
variable {w w' w2 : World} {lo lo' n c : Nat} {A : Option Addr} {ts : List Mc}
theorem OMs.len (h : OMs w lo A n c ts) : ts.length = n := by have := h.spine.1; rw [flat_len Mc.cells_len] at this; omega
theorem OMs.below (h : OMs w lo A n c ts) (z : Below w.heap.size w w') : OMs w' lo A n c ts := Recs.below h z
theorem OMs.mono (h : OMs w lo A n c ts) (hl : lo' ≤ lo) : OMs w lo' A n c ts := Recs.mono h hl
theorem OMs.drewN (h : OMs w lo A n c ts) (k : Nat) : OMs (w.drewN k) lo A n c ts := Recs.drewN h k
theorem OMs.alloc (h : OMs w lo A n c ts) (o : Obj) : OMs (w.alloc o) lo A n c ts := Recs.alloc h o
/-- The k-th machine. -/
theorem OMs.pick (h : OMs w lo A n c ts) {k : Nat} (hk : k < n) : ∃ t b off, Hid (ts[k]? = some t) ∧ A = some ⟨b, off, none⟩ ∧ b < w.heap.size ∧ lo ≤ b ∧ w.cell? ⟨b, off + k * 3, none⟩ = some (.int .i64 t.sy) ∧ w.cell? ⟨b, off + k * 3 + 1, none⟩ = some (.int .i64 t.st) ∧ w.cell? ⟨b, off + k * 3 + 2, none⟩ = some (.slice t.A t.rs.length t.k) ∧
    Own w lo 169 3 t.A t.rs.length t.k (cells3 t.rs) ∧ (∀ j, w.frozen? ⟨b, j, none⟩ = false) := by
  have hl := h.len
  have hT : ts[k]? = some (ts[k]'(by omega)) := List.getElem?_eq_getElem (by omega)
  have hmem : ts[k]'(by omega) ∈ ts := List.getElem_mem _
  revert hT hmem
  generalize ts[k]'(by omega) = t
  intro hT hmem
  have hfl : (ts.flatMap Mc.cells).length = n * 3 := by rw [flat_len Mc.cells_len, hl]
  rcases h.spine.2 with ⟨_, h1, _⟩ | ⟨b, off, cur, hA, hb, hg, hnc, hcm, hfit, hc⟩
  · omega
  · have cell : ∀ j, (hj : j < 3) → w.cell? ⟨b, off + (k * 3 + j), none⟩ = some (t.cells[j]'(by rw [Mc.cells_len]; exact hj)) := by
      intro j hj
      have h1 := flat_get Mc.cells_len hT hj
      rw [List.getElem?_eq_getElem (l := t.cells) (i := j) (by rw [Mc.cells_len]; exact hj)] at h1
      obtain ⟨h2, h3⟩ := List.getElem?_eq_some_iff.1 h1
      have h4 := hc (k * 3 + j) h2
      rw [h3] at h4
      rw [← h4]; simp [World.cell?, hg]
    refine ⟨t, b, off, hT, hA, (Array.getElem?_eq_some_iff.1 hg).1, hb, cell 0 (by omega), ?_, ?_, ?_, fun j => by simp [World.frozen?, hg]⟩
    · rw [Nat.add_assoc]; exact cell 1 (by omega)
    · rw [Nat.add_assoc]; exact cell 2 (by omega)
    · exact h.each (Rw.r t.A t.k t.rs) (List.mem_flatMap.2 ⟨t, hmem, by simp [Mc.rows]⟩)
theorem OMs.set_blk {g i : Nat} {t : TypeId} {cur : Array Value} (h : OMs w lo A n c ts) (hb : Blk w g t cur) (h1 : t ≠ 82) (h2 : t ≠ 169) (u : Value) : OMs (w.setCell ⟨g, i, none⟩ u) lo A n c ts :=
  Recs.set_blk h hb h1 (fun r hr => by
    obtain ⟨x, _, hx⟩ := List.mem_flatMap.1 hr
    simp only [Mc.rows, List.mem_cons, List.not_mem_nil, or_false] at hx
    rcases hx with rfl; exact h2) u
theorem OMs.set_far {g i : Nat} (h : OMs w lo A n c ts) (hg : g < lo) (u : Value) : OMs (w.setCell ⟨g, i, none⟩ u) lo A n c ts := Recs.set_far h hg u
theorem OMs.nil (h : Own w lo 82 3 A 0 c []) : OMs w lo A 0 c [] := Recs.nil h
/-- The cells of a machine's box. -/
theorem Mc.new (w : World) (t : Mc) : Rd (w.alloc (.cells #[.int .i64 t.sy, .int .i64 t.st, .slice t.A t.rs.length t.k] 82)) 3 (some ⟨w.heap.size, 0, none⟩) 1 t.cells := by
  refine ⟨rfl, fun _ => ⟨_, 0, rfl, fun k hk => ?_⟩⟩
  rw [cell_of_row _ w.heap.size (0 + k) _ 82 (0, 0) (heap_alloc_new w _)]
  rw [Mc.cells_len] at hk
  match k, hk with
  | 0, _ => rfl
  | 1, _ => rfl
  | 2, _ => rfl
/-- One machine more, whose row lies from k on, above all that was. -/
theorem OMs.snoc {A2 : Option Addr} {c2 k : Nat} {t : Mc} {wa : World} (h : OMs wa lo A n c ts) (hk : wa.heap.size ≤ k) (hw : OMs w lo A n c ts) (hs : Own w2 lo 82 3 A2 (n + 1) c2 (ts.flatMap Mc.cells ++ t.cells)) (hg : w.grownBy w2 (blk A))
    (hL : Own w k 169 3 t.A t.rs.length t.k (cells3 t.rs)) (hlk : lo ≤ k) : OMs w2 lo A2 (n + 1) c2 (ts ++ [t]) := by
  have e1 : (ts ++ [t]).flatMap Mc.cells = ts.flatMap Mc.cells ++ t.cells := by simp
  have e2 : (ts ++ [t]).flatMap Mc.rows = ts.flatMap Mc.rows ++ t.rows := by simp
  unfold OMs
  rw [e1, e2]
  refine Recs.append hw hs hg ?_ ?_ ?_ ?_
  · intro r hr
    simp only [Mc.rows, List.mem_cons, List.not_mem_nil, or_false] at hr
    rcases hr with rfl
    exact hL.mono hlk
  · exact List.pairwise_singleton _ _
  · intro r hr
    simp only [Mc.rows, List.mem_cons, List.not_mem_nil, or_false] at hr
    rcases hr with rfl; show 169 ≠ 82; decide
  · refine Recs.apart h hk ?_
    intro r hr b hb
    simp only [Mc.rows, List.mem_cons, List.not_mem_nil, or_false] at hr
    rcases hr with rfl
    exact hL.blk_ge b hb
/-- The first two cells of the k-th machine are written. -/
theorem OMs.set01 {b off k : Nat} {t : Mc} (h : OMs w lo (some ⟨b, off, none⟩) n c ts) (hT : ts[k]? = some t) (p q : Int) : OMs ((w.setCell ⟨b, off + k * 3, none⟩ (.int .i64 p)).setCell ⟨b, off + k * 3 + 1, none⟩ (.int .i64 q)) lo (some ⟨b, off, none⟩) n c (ts.set k { t with sy := p, st := q }) := by
  have hk := (List.getElem?_eq_some_iff.1 hT).1
  have h1 := Recs.cell h (j := k * 3) (by rw [flat_len Mc.cells_len]; omega) (.int .i64 p)
  have h2 : (ts.flatMap Mc.cells).set (k * 3) (.int .i64 p) = (ts.set k { t with sy := p }).flatMap Mc.cells := flat_set (j := 0) Mc.cells_len hT (by omega) rfl
  rw [h2] at h1
  have hT1 : (ts.set k { t with sy := p })[k]? = some { t with sy := p } := by rw [List.getElem?_set_self hk]
  have h3 := Recs.cell h1 (j := k * 3 + 1) (by rw [flat_len Mc.cells_len, List.length_set]; omega) (.int .i64 q)
  have h4 : ((ts.set k { t with sy := p }).flatMap Mc.cells).set (k * 3 + 1) (.int .i64 q) = ((ts.set k { t with sy := p }).set k { t with sy := p, st := q }).flatMap Mc.cells := flat_set (j := 1) Mc.cells_len hT1 (by omega) rfl
  rw [h4, List.set_set, ← Nat.add_assoc] at h3
  have h5 : (ts.set k { t with sy := p, st := q }).flatMap Mc.rows = ts.flatMap Mc.rows := by rw [flat_split_set _ hT, flat_split hT]; rfl
  unfold OMs
  rw [h5]
  exact h3
theorem OMs.setr {k : Nat} {t : Mc} {rs : List R3} (h : OMs w lo A n c ts) (hT : ts[k]? = some t) (hl : rs.length = t.rs.length) (ho : Own w' lo 169 3 t.A t.rs.length t.k (cells3 rs)) (hf : ∀ b, blk t.A ≠ some b → w'.heap[b]? = w.heap[b]?) : OMs w' lo A n c (ts.set k { t with rs := rs }) := by
  have h2 : (ts.set k { t with rs := rs }).flatMap Mc.cells = ts.flatMap Mc.cells := by rw [flat_split_set _ hT, flat_split hT]; simp [Mc.cells, hl]
  unfold OMs at h ⊢
  rw [flat_split (f := Mc.rows) hT] at h
  rw [h2, flat_split_set _ hT]
  have h' : Recs w lo 82 3 A n c (ts.flatMap Mc.cells) ((ts.take k).flatMap Mc.rows ++ Rw.r t.A t.k t.rs :: (ts.drop (k + 1)).flatMap Mc.rows) := h
  exact Recs.row (r' := Rw.r t.A t.k rs) h' rfl rfl (by show Own w' lo _ 3 t.A rs.length t.k (cells3 rs); rw [hl]; exact ho) hf
end
/-! ### marks -/
def marks3 (m : Int) (n : Nat) : List R3 := (List.range n).map (fun k : Nat => ⟨m + (k : Int) * 3, m + (k : Int) * 3 + 1, m + (k : Int) * 3 + 1 + 1⟩)
theorem length_marks3 (m : Int) (n : Nat) : (marks3 m n).length = n := by simp [marks3]
theorem marks3_get {m : Int} {n k : Nat} {r : R3} (h : (marks3 m n)[k]? = some r) : r = ⟨m + (k : Int) * 3, m + (k : Int) * 3 + 1, m + (k : Int) * 3 + 1 + 1⟩ := by
  unfold marks3 at h
  rw [List.getElem?_map] at h
  by_cases hk : k < n
  · rw [List.getElem?_range hk] at h
    simp at h
    exact h.symm
  · rw [List.getElem?_eq_none (by simp; omega)] at h
    simp at h
/-- Behind k marked rules. -/
def markedR (m : Int) (rs : List R3) (k : Nat) : List R3 := marks3 m k ++ rs.drop k
theorem markedR_zero (m : Int) (rs : List R3) : markedR m rs 0 = rs := by simp [markedR, marks3]
theorem markedR_len {m : Int} {rs : List R3} {k : Nat} (h : k ≤ rs.length) : (markedR m rs k).length = rs.length := by simp [markedR, length_marks3]; omega
theorem markedR_end {m : Int} {rs : List R3} {n : Nat} (h : rs.length = n) : markedR m rs n = marks3 m n := by simp [markedR, ← h]
theorem markedR_next {m : Int} {rs : List R3} {k : Nat} (h : k < rs.length) : (markedR m rs k).set k ⟨m + (k : Int) * 3, m + (k : Int) * 3 + 1, m + (k : Int) * 3 + 1 + 1⟩ = markedR m rs (k + 1) := by
  unfold markedR
  rw [List.set_append_right _ _ (by rw [length_marks3]; exact Nat.le_refl _), length_marks3, Nat.sub_self, List.drop_eq_getElem_cons h, List.set_cons_zero]
  simp [marks3, List.range_succ]
def Mc.size (t : Mc) : Nat := 2 + t.rs.length * 3
def Mc.mark (p : Int) (t : Mc) : Mc := ⟨p, p + 1, t.A, t.k, marks3 (p + 1 + 1) t.rs.length⟩
def offM (ts : List Mc) (k : Nat) : Nat := ((ts.take k).map Mc.size).sum
theorem offM_zero (ts : List Mc) : offM ts 0 = 0 := by simp [offM]
theorem offM_next {ts : List Mc} {t : Mc} {k : Nat} (hT : ts[k]? = some t) : offM ts (k + 1) = offM ts k + t.size := by
  obtain ⟨hk, rfl⟩ := List.getElem?_eq_some_iff.1 hT
  unfold offM
  rw [List.take_succ_eq_append_getElem hk, List.map_append, List.sum_append]
  simp only [List.map_cons, List.map_nil, List.sum_cons, List.sum_nil, Nat.add_zero]
theorem offM_le (ts : List Mc) (b : Nat) (h : ∀ t ∈ ts, t.size ≤ b) (k : Nat) : offM ts k ≤ ts.length * b := by
  have key : ∀ us : List Mc, (∀ t ∈ us, t.size ≤ b) → (us.map Mc.size).sum ≤ us.length * b := by
    intro us
    induction us with
    | nil => simp
    | cons x r ih =>
      intro hu
      have h1 := hu x (by simp)
      have h2 := ih (fun y hy => hu y (by simp [hy]))
      simp only [List.map_cons, List.sum_cons, List.length_cons, Nat.succ_mul]
      omega
  refine Nat.le_trans (key _ (fun t ht => h t (List.mem_of_mem_take ht))) (Nat.mul_le_mul_right _ ?_)
  simp; omega
/-- Behind k marked machines. -/
def markToM (p : Int) (ts : List Mc) (k : Nat) : List Mc := ts.mapIdx (fun i t => if i < k then t.mark (p + (offM ts i : Int)) else t)
theorem markToM_zero (p : Int) (ts : List Mc) : markToM p ts 0 = ts := by
  unfold markToM
  apply List.ext_getElem?
  intro i
  simp
theorem markToM_get {p : Int} {ts : List Mc} {k i : Nat} {t : Mc} (h : ts[i]? = some t) : (markToM p ts k)[i]? = some (if i < k then t.mark (p + (offM ts i : Int)) else t) := by
  unfold markToM; simp [h]
theorem markToM_len (p : Int) (ts : List Mc) (k : Nat) : (markToM p ts k).length = ts.length := by simp [markToM]
theorem markToM_next {p : Int} {ts : List Mc} {k : Nat} {t : Mc} (h : ts[k]? = some t) : (markToM p ts k).set k (t.mark (p + (offM ts k : Int))) = markToM p ts (k + 1) := by
  obtain ⟨hk, he⟩ := List.getElem?_eq_some_iff.1 h
  apply List.ext_getElem?
  intro i
  by_cases hi : i = k
  · subst hi
    rw [List.getElem?_set_self (by rw [markToM_len]; exact hk), markToM_get h]
    simp
  · rw [List.getElem?_set_ne (by omega)]
    by_cases hlt : i < ts.length
    · rw [markToM_get (List.getElem?_eq_getElem hlt), markToM_get (List.getElem?_eq_getElem hlt)]
      congr 1
      by_cases h1 : i < k
      · rw [if_pos h1, if_pos (by omega)]
      · rw [if_neg h1, if_neg (by omega)]
    · rw [List.getElem?_eq_none (by rw [markToM_len]; omega), List.getElem?_eq_none (by rw [markToM_len]; omega)]
theorem OMs.mkf_far {T : List TypeId} {w w' : World} {l hh lo n c : Nat} {A : Option Addr} {ts : List Mc} (h : OMs w lo A n c ts) (hf : MkF T l hh w w') (hd : ∀ b, lo ≤ b → b < l ∨ hh ≤ b) : OMs w' lo A n c ts :=
  Recs.keptB h (fun b hb => hf.far (Recs.blk_ge h b hb).2 (hd b (Recs.blk_ge h b hb).1))
theorem OMs.mkf_below {T : List TypeId} {w0 w w' : World} {l hh lo n c : Nat} {A : Option Addr} {ts : List Mc} (h0 : OMs w0 lo A n c ts) (hl : w0.heap.size ≤ l) (h : OMs w lo A n c ts) (hf : MkF T l hh w w') : OMs w' lo A n c ts :=
  Recs.keptB h (fun b hb => hf.far (Recs.blk_ge h b hb).2 (.inl (by have := (Recs.blk_ge h0 b hb).2; omega)))
theorem OMs.touch_below {w0 w w' : World} {l hh lo n c : Nat} {A : Option Addr} {ts : List Mc} (h0 : OMs w0 lo A n c ts) (hl : w0.heap.size ≤ l) (h : OMs w lo A n c ts) (ht : Tch l hh w w') : OMs w' lo A n c ts :=
  Recs.keptB h (fun b hb => ht.block b (Recs.blk_ge h b hb).2 (.inl (by have := (Recs.blk_ge h0 b hb).2; omega)))
end Go.Proofs.Ythipbeggaeogcaa
