/-
  Slices of machines, and marks over them.
-/
import Derived.Test.YthipbeggaeogcaaCfsM
import Derived.Test.YthipbeggaeogcaaWords3
import Derived.Test.YthipbeggaeogcaaNodeS
import Derived.Test.YthipbeggaeogcaaHelpA
import Derived.Test.YthipbeggaeogcaaHelpR
import Derived.Deep.RegionHeld3
import Derived.Deep.RegionLaw
import Derived.Deep.DeepCutAuto
namespace Go.Proofs.Ythipbeggaeogcaa
open Go.RowKit

theorem elMach : Elem Try.prog 87 82 3 40 (.agg #[.int .i64 0, .int .i64 0, .slice none 0 0]) := ⟨Try.underlying87, by kernel_rfl, rfl, by decide⟩
/-- A machine in memory. -/
structure Mc where
  sy : Int
  st : Int
  A : Option Addr
  k : Nat
  rs : List R3
/-- A machine. -/
structure Mch where
  sy : Int
  st : Int
  rs : List R3
def Mc.cells (t : Mc) : List Value := [.int .i64 t.sy, .int .i64 t.st, .slice t.A t.rs.length t.k]
def Rw.r (A : Option Addr) (k : Nat) (rs : List R3) : Rw := ⟨A, rs.length, k, 169, 3, cells3 rs⟩
def Mc.rows (t : Mc) : List Rw := [Rw.r t.A t.k t.rs]
def Mc.mach (t : Mc) : Mch := ⟨t.sy, t.st, t.rs⟩
theorem Mc.cells_len (t : Mc) : t.cells.length = 3 := rfl
theorem Mc.one (ts : List Mc) : ∀ u ∈ ts.flatMap Mc.cells, u.oneCell' = true := by
  intro u hu
  simp only [List.mem_flatMap, Mc.cells, List.mem_cons, List.not_mem_nil, or_false] at hu
  obtain ⟨t, _, h | h | h⟩ := hu <;> subst h <;> rfl
/-- An owned slice of machines, all rows apart. -/
def OMs (w : World) (lo : Nat) (A : Option Addr) (n c : Nat) (ts : List Mc) : Prop := Recs w lo 82 3 A n c (ts.flatMap Mc.cells) (ts.flatMap Mc.rows)
def machs (ts : List Mc) : List Mch := ts.map Mc.mach
theorem machs_len {ts : List Mc} {M : List Mch} (h : machs ts = M) : ts.length = M.length := by rw [← h]; simp [machs]
section
variable {w w' w2 : World} {lo lo' n c : Nat} {A : Option Addr} {ts : List Mc}
theorem OMs.len (h : OMs w lo A n c ts) : ts.length = n := by have := h.spine.1; rw [flat_len Mc.cells_len] at this; omega
theorem OMs.below (h : OMs w lo A n c ts) (z : Below w.heap.size w w') : OMs w' lo A n c ts := Recs.below h z
theorem OMs.mono (h : OMs w lo A n c ts) (hl : lo' ≤ lo) : OMs w lo' A n c ts := Recs.mono h hl
theorem OMs.drewN (h : OMs w lo A n c ts) (k : Nat) : OMs (w.drewN k) lo A n c ts := Recs.drewN h k
theorem OMs.alloc (h : OMs w lo A n c ts) (o : Obj) : OMs (w.alloc o) lo A n c ts := Recs.alloc h o
/-- The k-th machine. -/
theorem OMs.pick (h : OMs w lo A n c ts) {k : Nat} (hk : k < n) : ∃ t b off, Hid (ts[k]? = some t) ∧ A = some ⟨b, off, none⟩ ∧ b < w.heap.size ∧ lo ≤ b ∧ w.cell? ⟨b, off + k * 3, none⟩ = some (.int .i64 t.sy) ∧ w.cell? ⟨b, off + k * 3 + 1, none⟩ = some (.int .i64 t.st) ∧ w.cell? ⟨b, off + k * 3 + 2, none⟩ = some (.slice t.A t.rs.length t.k) ∧
    Own w lo 169 3 t.A t.rs.length t.k (cells3 t.rs) ∧ (∀ j, w.frozen? ⟨b, j, none⟩ = false) := by
  have hl := h.len
  have hT : ts[k]? = some (ts[k]'(by omega)) := List.getElem?_eq_getElem (by omega)
  have hmem : ts[k]'(by omega) ∈ ts := List.getElem_mem _
  revert hT hmem
  generalize ts[k]'(by omega) = t
  intro hT hmem
  have hfl : (ts.flatMap Mc.cells).length = n * 3 := by rw [flat_len Mc.cells_len, hl]
  rcases h.spine.2 with ⟨_, h1, _⟩ | ⟨b, off, cur, hA, hb, hg, hnc, hcm, hfit, hc⟩
  · omega
  · have cell : ∀ j, (hj : j < 3) → w.cell? ⟨b, off + (k * 3 + j), none⟩ = some (t.cells[j]'(by rw [Mc.cells_len]; exact hj)) := by
      intro j hj
      have h1 := flat_get Mc.cells_len hT hj
      rw [List.getElem?_eq_getElem (l := t.cells) (i := j) (by rw [Mc.cells_len]; exact hj)] at h1
      obtain ⟨h2, h3⟩ := List.getElem?_eq_some_iff.1 h1
      have h4 := hc (k * 3 + j) h2
      rw [h3] at h4
      rw [← h4]; simp [World.cell?, hg]
    refine ⟨t, b, off, hT, hA, (Array.getElem?_eq_some_iff.1 hg).1, hb, cell 0 (by omega), ?_, ?_, ?_, fun j => by simp [World.frozen?, hg]⟩
    · rw [Nat.add_assoc]; exact cell 1 (by omega)
    · rw [Nat.add_assoc]; exact cell 2 (by omega)
    · exact h.each (Rw.r t.A t.k t.rs) (List.mem_flatMap.2 ⟨t, hmem, by simp [Mc.rows]⟩)
theorem OMs.set_blk {g i : Nat} {t : TypeId} {cur : Array Value} (h : OMs w lo A n c ts) (hb : Blk w g t cur) (h1 : t ≠ 82) (h2 : t ≠ 169) (u : Value) : OMs (w.setCell ⟨g, i, none⟩ u) lo A n c ts :=
  Recs.set_blk h hb h1 (fun r hr => by
    obtain ⟨x, _, hx⟩ := List.mem_flatMap.1 hr
    simp only [Mc.rows, List.mem_cons, List.not_mem_nil, or_false] at hx
    rcases hx with rfl; exact h2) u
theorem OMs.set_far {g i : Nat} (h : OMs w lo A n c ts) (hg : g < lo) (u : Value) : OMs (w.setCell ⟨g, i, none⟩ u) lo A n c ts := Recs.set_far h hg u
theorem OMs.nil (h : Own w lo 82 3 A 0 c []) : OMs w lo A 0 c [] := Recs.nil h
/-- The cells of a machine's box. -/
theorem Mc.new (w : World) (t : Mc) : Rd (w.alloc (.cells #[.int .i64 t.sy, .int .i64 t.st, .slice t.A t.rs.length t.k] 82)) 3 (some ⟨w.heap.size, 0, none⟩) 1 t.cells := by
  refine ⟨rfl, fun _ => ⟨_, 0, rfl, fun k hk => ?_⟩⟩
  rw [cell_of_row _ w.heap.size (0 + k) _ 82 (0, 0) (heap_alloc_new w _)]
  rw [Mc.cells_len] at hk
  match k, hk with
  | 0, _ => rfl
  | 1, _ => rfl
  | 2, _ => rfl
/-- One machine more, whose row lies from k on, above all that was. -/
theorem OMs.snoc {A2 : Option Addr} {c2 k : Nat} {t : Mc} {wa : World} (h : OMs wa lo A n c ts) (hk : wa.heap.size ≤ k) (hw : OMs w lo A n c ts) (hs : Own w2 lo 82 3 A2 (n + 1) c2 (ts.flatMap Mc.cells ++ t.cells)) (hg : w.grownBy w2 (blk A))
    (hL : Own w k 169 3 t.A t.rs.length t.k (cells3 t.rs)) (hlk : lo ≤ k) : OMs w2 lo A2 (n + 1) c2 (ts ++ [t]) := by
  have e1 : (ts ++ [t]).flatMap Mc.cells = ts.flatMap Mc.cells ++ t.cells := by simp
  have e2 : (ts ++ [t]).flatMap Mc.rows = ts.flatMap Mc.rows ++ t.rows := by simp
  unfold OMs
  rw [e1, e2]
  refine Recs.append hw hs hg ?_ ?_ ?_ ?_
  · intro r hr
    simp only [Mc.rows, List.mem_cons, List.not_mem_nil, or_false] at hr
    rcases hr with rfl
    exact hL.mono hlk
  · exact List.pairwise_singleton _ _
  · intro r hr
    simp only [Mc.rows, List.mem_cons, List.not_mem_nil, or_false] at hr
    rcases hr with rfl; show 169 ≠ 82; decide
  · refine Recs.apart h hk ?_
    intro r hr b hb
    simp only [Mc.rows, List.mem_cons, List.not_mem_nil, or_false] at hr
    rcases hr with rfl
    exact hL.blk_ge b hb
/-- The first two cells of the k-th machine are written. -/
theorem OMs.set01 {b off k : Nat} {t : Mc} (h : OMs w lo (some ⟨b, off, none⟩) n c ts) (hT : ts[k]? = some t) (p q : Int) : OMs ((w.setCell ⟨b, off + k * 3, none⟩ (.int .i64 p)).setCell ⟨b, off + k * 3 + 1, none⟩ (.int .i64 q)) lo (some ⟨b, off, none⟩) n c (ts.set k { t with sy := p, st := q }) := by
  have hk := (List.getElem?_eq_some_iff.1 hT).1
  have h1 := Recs.cell h (j := k * 3) (by rw [flat_len Mc.cells_len]; omega) (.int .i64 p)
  have h2 : (ts.flatMap Mc.cells).set (k * 3) (.int .i64 p) = (ts.set k { t with sy := p }).flatMap Mc.cells := flat_set (j := 0) Mc.cells_len hT (by omega) rfl
  rw [h2] at h1
  have hT1 : (ts.set k { t with sy := p })[k]? = some { t with sy := p } := by rw [List.getElem?_set_self hk]
  have h3 := Recs.cell h1 (j := k * 3 + 1) (by rw [flat_len Mc.cells_len, List.length_set]; omega) (.int .i64 q)
  have h4 : ((ts.set k { t with sy := p }).flatMap Mc.cells).set (k * 3 + 1) (.int .i64 q) = ((ts.set k { t with sy := p }).set k { t with sy := p, st := q }).flatMap Mc.cells := flat_set (j := 1) Mc.cells_len hT1 (by omega) rfl
  rw [h4, List.set_set, ← Nat.add_assoc] at h3
  have h5 : (ts.set k { t with sy := p, st := q }).flatMap Mc.rows = ts.flatMap Mc.rows := by rw [flat_split_set _ hT, flat_split hT]; rfl
  unfold OMs
  rw [h5]
  exact h3
theorem OMs.setr {k : Nat} {t : Mc} {rs : List R3} (h : OMs w lo A n c ts) (hT : ts[k]? = some t) (hl : rs.length = t.rs.length) (ho : Own w' lo 169 3 t.A t.rs.length t.k (cells3 rs)) (hf : ∀ b, blk t.A ≠ some b → w'.heap[b]? = w.heap[b]?) : OMs w' lo A n c (ts.set k { t with rs := rs }) := by
  have h2 : (ts.set k { t with rs := rs }).flatMap Mc.cells = ts.flatMap Mc.cells := by rw [flat_split_set _ hT, flat_split hT]; simp [Mc.cells, hl]
  unfold OMs at h ⊢
  rw [flat_split (f := Mc.rows) hT] at h
  rw [h2, flat_split_set _ hT]
  have h' : Recs w lo 82 3 A n c (ts.flatMap Mc.cells) ((ts.take k).flatMap Mc.rows ++ Rw.r t.A t.k t.rs :: (ts.drop (k + 1)).flatMap Mc.rows) := h
  exact Recs.row (r' := Rw.r t.A t.k rs) h' rfl rfl (by show Own w' lo _ 3 t.A rs.length t.k (cells3 rs); rw [hl]; exact ho) hf
end
/-! ### marks -/
def marks3 (m : Int) (n : Nat) : List R3 := (List.range n).map (fun k : Nat => ⟨m + (k : Int) * 3, m + (k : Int) * 3 + 1, m + (k : Int) * 3 + 1 + 1⟩)
theorem length_marks3 (m : Int) (n : Nat) : (marks3 m n).length = n := by simp [marks3]
theorem marks3_get {m : Int} {n k : Nat} {r : R3} (h : (marks3 m n)[k]? = some r) : r = ⟨m + (k : Int) * 3, m + (k : Int) * 3 + 1, m + (k : Int) * 3 + 1 + 1⟩ := by
  unfold marks3 at h
  rw [List.getElem?_map] at h
  by_cases hk : k < n
  · rw [List.getElem?_range hk] at h
    simp at h
    exact h.symm
  · rw [List.getElem?_eq_none (by simp; omega)] at h
    simp at h
/-- Behind k marked rules. -/
def markedR (m : Int) (rs : List R3) (k : Nat) : List R3 := marks3 m k ++ rs.drop k
theorem markedR_zero (m : Int) (rs : List R3) : markedR m rs 0 = rs := by simp [markedR, marks3]
theorem markedR_len {m : Int} {rs : List R3} {k : Nat} (h : k ≤ rs.length) : (markedR m rs k).length = rs.length := by simp [markedR, length_marks3]; omega
theorem markedR_end {m : Int} {rs : List R3} {n : Nat} (h : rs.length = n) : markedR m rs n = marks3 m n := by simp [markedR, ← h]
theorem markedR_next {m : Int} {rs : List R3} {k : Nat} (h : k < rs.length) : (markedR m rs k).set k ⟨m + (k : Int) * 3, m + (k : Int) * 3 + 1, m + (k : Int) * 3 + 1 + 1⟩ = markedR m rs (k + 1) := by
  unfold markedR
  rw [List.set_append_right _ _ (by rw [length_marks3]; exact Nat.le_refl _), length_marks3, Nat.sub_self, List.drop_eq_getElem_cons h, List.set_cons_zero]
  simp [marks3, List.range_succ]
def Mc.size (t : Mc) : Nat := 2 + t.rs.length * 3
def Mc.mark (p : Int) (t : Mc) : Mc := ⟨p, p + 1, t.A, t.k, marks3 (p + 1 + 1) t.rs.length⟩
def offM (ts : List Mc) (k : Nat) : Nat := ((ts.take k).map Mc.size).sum
theorem offM_zero (ts : List Mc) : offM ts 0 = 0 := by simp [offM]
theorem offM_next {ts : List Mc} {t : Mc} {k : Nat} (hT : ts[k]? = some t) : offM ts (k + 1) = offM ts k + t.size := by
  obtain ⟨hk, rfl⟩ := List.getElem?_eq_some_iff.1 hT
  unfold offM
  rw [List.take_succ_eq_append_getElem hk, List.map_append, List.sum_append]
  simp only [List.map_cons, List.map_nil, List.sum_cons, List.sum_nil, Nat.add_zero]
theorem offM_le (ts : List Mc) (b : Nat) (h : ∀ t ∈ ts, t.size ≤ b) (k : Nat) : offM ts k ≤ ts.length * b := by
  have key : ∀ us : List Mc, (∀ t ∈ us, t.size ≤ b) → (us.map Mc.size).sum ≤ us.length * b := by
    intro us
    induction us with
    | nil => simp
    | cons x r ih =>
      intro hu
      have h1 := hu x (by simp)
      have h2 := ih (fun y hy => hu y (by simp [hy]))
      simp only [List.map_cons, List.sum_cons, List.length_cons, Nat.succ_mul]
      omega
  refine Nat.le_trans (key _ (fun t ht => h t (List.mem_of_mem_take ht))) (Nat.mul_le_mul_right _ ?_)
  simp; omega
/-- Behind k marked machines. -/
def markToM (p : Int) (ts : List Mc) (k : Nat) : List Mc := ts.mapIdx (fun i t => if i < k then t.mark (p + (offM ts i : Int)) else t)
theorem markToM_zero (p : Int) (ts : List Mc) : markToM p ts 0 = ts := by
  unfold markToM
  apply List.ext_getElem?
  intro i
  simp
theorem markToM_get {p : Int} {ts : List Mc} {k i : Nat} {t : Mc} (h : ts[i]? = some t) : (markToM p ts k)[i]? = some (if i < k then t.mark (p + (offM ts i : Int)) else t) := by
  unfold markToM; simp [h]
theorem markToM_len (p : Int) (ts : List Mc) (k : Nat) : (markToM p ts k).length = ts.length := by simp [markToM]
theorem markToM_next {p : Int} {ts : List Mc} {k : Nat} {t : Mc} (h : ts[k]? = some t) : (markToM p ts k).set k (t.mark (p + (offM ts k : Int))) = markToM p ts (k + 1) := by
  obtain ⟨hk, he⟩ := List.getElem?_eq_some_iff.1 h
  apply List.ext_getElem?
  intro i
  by_cases hi : i = k
  · subst hi
    rw [List.getElem?_set_self (by rw [markToM_len]; exact hk), markToM_get h]
    simp
  · rw [List.getElem?_set_ne (by omega)]
    by_cases hlt : i < ts.length
    · rw [markToM_get (List.getElem?_eq_getElem hlt), markToM_get (List.getElem?_eq_getElem hlt)]
      congr 1
      by_cases h1 : i < k
      · rw [if_pos h1, if_pos (by omega)]
      · rw [if_neg h1, if_neg (by omega)]
    · rw [List.getElem?_eq_none (by rw [markToM_len]; omega), List.getElem?_eq_none (by rw [markToM_len]; omega)]
theorem OMs.mkf_far {T : List TypeId} {w w' : World} {l hh lo n c : Nat} {A : Option Addr} {ts : List Mc} (h : OMs w lo A n c ts) (hf : MkF T l hh w w') (hd : ∀ b, lo ≤ b → b < l ∨ hh ≤ b) : OMs w' lo A n c ts :=
  Recs.keptB h (fun b hb => hf.far (Recs.blk_ge h b hb).2 (hd b (Recs.blk_ge h b hb).1))
theorem OMs.mkf_below {T : List TypeId} {w0 w w' : World} {l hh lo n c : Nat} {A : Option Addr} {ts : List Mc} (h0 : OMs w0 lo A n c ts) (hl : w0.heap.size ≤ l) (h : OMs w lo A n c ts) (hf : MkF T l hh w w') : OMs w' lo A n c ts :=
  Recs.keptB h (fun b hb => hf.far (Recs.blk_ge h b hb).2 (.inl (by have := (Recs.blk_ge h0 b hb).2; omega)))
theorem OMs.touch_below {w0 w w' : World} {l hh lo n c : Nat} {A : Option Addr} {ts : List Mc} (h0 : OMs w0 lo A n c ts) (hl : w0.heap.size ≤ l) (h : OMs w lo A n c ts) (ht : Tch l hh w w') : OMs w' lo A n c ts :=
  Recs.keptB h (fun b hb => ht.block b (Recs.blk_ge h b hb).2 (.inl (by have := (Recs.blk_ge h0 b hb).2; omega)))
end Go.Proofs.Ythipbeggaeogcaa

/-
  Plain words for the children of a machine.
-/
namespace Go.Proofs.Ythipbeggaeogcaa
open Go.RowKit

def row3 (w mv : Int) (K : Nat) : List R3 := (List.range K).map (fun q : Nat => ⟨w, mv, (q : Int)⟩)
def row2 (w : Int) (ms : List Int) (K : Nat) : List R3 := ms.flatMap (fun mv => row3 w mv K)
def row1 (J : Nat) (ms : List Int) (K : Nat) : List R3 := (List.range J).flatMap (fun w : Nat => row2 (w : Int) ms K)
theorem row3_zero (w mv : Int) : row3 w mv 0 = [] := rfl
theorem row3_next (w mv : Int) (K : Nat) : row3 w mv (K + 1) = row3 w mv K ++ [⟨w, mv, (K : Int)⟩] := by simp [row3, List.range_succ]
theorem row3_len (w mv : Int) (K : Nat) : (row3 w mv K).length = K := by simp [row3]
theorem row2_nil (w : Int) (K : Nat) : row2 w [] K = [] := rfl
theorem row2_next {w : Int} {ms : List Int} {i : Nat} {mv : Int} (K : Nat) (h : ms[i]? = some mv) : row2 w (ms.take (i + 1)) K = row2 w (ms.take i) K ++ row3 w mv K := by
  obtain ⟨hi, rfl⟩ := List.getElem?_eq_some_iff.1 h
  unfold row2
  rw [List.take_succ_eq_append_getElem hi, List.flatMap_append]
  simp
theorem row2_len (w : Int) (ms : List Int) (K : Nat) : (row2 w ms K).length = ms.length * K := by
  induction ms with
  | nil => simp [row2]
  | cons m r ih =>
    have e : row2 w (m :: r) K = row3 w m K ++ row2 w r K := rfl
    rw [e, List.length_append, ih, row3_len, List.length_cons, Nat.succ_mul, Nat.add_comm]
theorem row1_zero (ms : List Int) (K : Nat) : row1 0 ms K = [] := rfl
theorem row1_next (J : Nat) (ms : List Int) (K : Nat) : row1 (J + 1) ms K = row1 J ms K ++ row2 (J : Int) ms K := by
  unfold row1
  rw [List.range_succ, List.flatMap_append]
  simp
theorem row1_len (J : Nat) (ms : List Int) (K : Nat) : (row1 J ms K).length = J * (ms.length * K) := by
  induction J with
  | zero => simp [row1]
  | succ J ih => rw [row1_next, List.length_append, ih, row2_len, Nat.succ_mul]
/-- The moves of the children's rules. -/
def movesF (rs : List R3) : List Int := if (usedF rs).2.2 = 0 then [1] else [-1, 1]
def wrF (sy : Int) (rs : List R3) : Nat := (min ((usedF rs).2.1 + 1) sy).toNat
def nxF (st : Int) (rs : List R3) : Nat := (min ((usedF rs).1 + 1) st).toNat
theorem if_max (a b : Int) : (if b < a then a else b) = max a b := by split <;> omega
theorem if_min (a b : Int) : (if a < b then a else b) = min a b := by split <;> omega
/-- The rules that the children of a machine have more. -/
def childR (sy st : Int) (rs : List R3) : List R3 := row1 (wrF sy rs) (movesF rs) (nxF st rs)
theorem movesF_len (rs : List R3) : (movesF rs).length ≤ 2 := by unfold movesF; split <;> simp
theorem childR_len {sy st : Int} {rs : List R3} (h2 : sy ≤ 6) (h4 : st ≤ 1000) : (childR sy st rs).length ≤ 12000 := by
  unfold childR
  rw [row1_len]
  have h1 : wrF sy rs ≤ 6 := by unfold wrF; omega
  have h3 : nxF st rs ≤ 1000 := by unfold nxF; omega
  have h5 := movesF_len rs
  calc wrF sy rs * ((movesF rs).length * nxF st rs) ≤ 6 * (2 * 1000) := Nat.mul_le_mul h1 (Nat.mul_le_mul h5 h3)
    _ = 12000 := rfl
/-- The children of a machine that halts at an index. -/
def childM (sy st : Int) (rs : List R3) (at_ : Nat) : List R3 → List Mch := fun l => l.map (fun r => ⟨sy, st, rs.set at_ r⟩)
/-- What TnfChildren returns. -/
def tnfF (sy st : Int) (rs : List R3) (b : Int) : List Mch × Int :=
  if codeF sy st rs blankC b = 0 then (if (nodeF sy rs b.toNat).1 = 0 then (childM sy st rs (nodeF sy rs b.toNat).2.1.toNat (childR sy st rs), 0) else ([], 6)) else ([], codeF sy st rs blankC b)
theorem tnfF_len (sy st : Int) (rs : List R3) (b : Int) : (tnfF sy st rs b).1.length ≤ 12000 := by
  unfold tnfF
  split
  · rename_i h
    split
    · have hg := (codeF_zero h).1
      have hm : machB sy st rs = true := by rw [← blank_good]; exact hg
      obtain ⟨_, k2, _, k4, _⟩ := machB_parts hm
      show ((childR sy st rs).map _).length ≤ _
      rw [List.length_map]
      exact childR_len k2 k4
    · simp
  · simp
theorem tnfF_side (sy st : Int) (rs : List R3) (b : Int) : ∀ x ∈ (tnfF sy st rs b).1, x.rs.length ≤ 6000 := by
  unfold tnfF
  split
  · rename_i h
    split
    · have hg := (codeF_zero h).1
      have hm : machB sy st rs = true := by rw [← blank_good]; exact hg
      obtain ⟨k1, k2, k3, k4, k5, _⟩ := machB_parts hm
      intro x hx
      obtain ⟨r, _, rfl⟩ := List.mem_map.1 hx
      show (rs.set _ r).length ≤ 6000
      rw [List.length_set]
      have h2 : st * sy ≤ 1000 * sy := Int.mul_le_mul_of_nonneg_right k4 (by omega)
      have h3 : (1000 : Int) * sy ≤ 1000 * 6 := Int.mul_le_mul_of_nonneg_left k2 (by omega)
      omega
    · simp
  · simp
theorem alive_cons {sy : Int} {rs : List R3} {c : Conf} {i : Nat} (h1 : haltC sy rs c = false) (h2 : roomC (nextC sy rs c) = true) (h : Alive sy rs (nextC sy rs c) i) : Alive sy rs c (i + 1) := fun j hj => by
  cases j with
  | zero => exact ⟨h1, h2⟩
  | succ j =>
    have := h j (by omega)
    rw [itC_shift, itC_shift] at this
    exact this
theorem run_cases (sy : Int) (rs : List R3) : ∀ (N : Nat) (c : Conf), (∃ i, Ended sy rs c N i) ∨ ∃ i, Full sy rs c N i := by
  intro N
  induction N with
  | zero => intro c; exact .inl ⟨0, Nat.le_refl _, Alive.zero _ _ _, .inl rfl⟩
  | succ N ih =>
    intro c
    cases hh : haltC sy rs c with
    | true => exact .inl ⟨0, Nat.zero_le _, Alive.zero _ _ _, .inr hh⟩
    | false =>
      cases hr : roomC (nextC sy rs c) with
      | false => exact .inr ⟨0, by omega, Alive.zero _ _ _, hh, hr⟩
      | true =>
        rcases ih (nextC sy rs c) with ⟨i, h1, h2, h3⟩ | ⟨i, h1, h2, h3, h4⟩
        · exact .inl ⟨i + 1, by omega, alive_cons hh hr h2, by rw [itC_shift] at h3; rcases h3 with h3 | h3; exact .inl (by omega); exact .inr h3⟩
        · exact .inr ⟨i + 1, by omega, alive_cons hh hr h2, by rw [itC_shift] at h3; exact h3, by rw [itC_shift] at h4; exact h4⟩
theorem nodeF_at {sy st : Int} {rs : List R3} {N : Nat} (hg : goodC sy st rs blankC) (h : (nodeF sy rs N).1 = 0) : ∃ idx : Nat, (nodeF sy rs N).2.1 = (idx : Int) ∧ idx < rs.length := by
  rcases run_cases sy rs N blankC with ⟨i, hi⟩ | ⟨i, hi⟩
  · cases hh : haltC sy rs (itC sy rs blankC i) with
    | false => rw [nodeF_runs hi hh] at h; cases h
    | true =>
      have hg2 := hi.2.1.good hg
      obtain ⟨h1, h2, h3, h4, hnl, h5, h6, hx2, hy2, hxm, hym, hrsv⟩ := conf_parts hg2
      obtain ⟨a1, a2, a3, a4, idx, hidx, hlt⟩ := at_parts (ys := (itC sy rs blankC i).ys.reverse) h1 h2 h3 h4 hnl h5 h6 (fun y hy => hym y (List.mem_reverse.1 hy))
      by_cases hf : (freeF rs).length = 1
      · rw [nodeF_last hi hh hf] at h; cases h
      · rw [nodeF_open hi hh hf]; exact ⟨idx, hidx, hlt⟩
  · rw [nodeF_full hi] at h; cases h
/-- A new slice of machines beside a code. -/
def NewMs (w : World) (r : List Mch × Int) (e : Ending) (w' : World) : Prop :=
  ∃ A c ts, e = .returned (.tuple #[.slice A r.1.length c, .int .i64 r.2]) ∧ OMs w' w.heap.size A r.1.length c ts ∧ machs ts = r.1 ∧ Below w.heap.size w w'
theorem newMs_nil {w wf : World} {k : Int} {r : List Mch × Int} (hr : r = ([], k)) (hz : Below w.heap.size w wf) : NewMs w r (.returned (.tuple #[.slice none 0 0, .int .i64 k])) wf := by
  subst hr
  exact ⟨none, 0, [], rfl, OMs.nil Own.nil, rfl, hz⟩
theorem newMs_of {w wf : World} {k : Int} {r : List Mch × Int} {xs : List Mch} {A : Option Addr} {c : Nat} {ts : List Mc} (hr : r = (xs, k)) (hx : machs ts = xs) (ho : OMs wf w.heap.size A xs.length c ts) (hz : Below w.heap.size w wf) : NewMs w r (.returned (.tuple #[.slice A xs.length c, .int .i64 k])) wf := by
  subst hr
  exact ⟨A, c, ts, rfl, ho, hx, hz⟩
end Go.Proofs.Ythipbeggaeogcaa

/-
  Contracts of the laws' helpers over [][]int64: szInt64SS, toInt64SS, eqInt64SS, markInt64SS.
-/
namespace Go.Proofs.Ythipbeggaeogcaa
open Go.RowKit

theorem elII : Elem Try.prog 22 25 1 24 (.slice none 0 0) := ⟨Try.underlying22, by kernel_rfl, rfl, by decide⟩

set_option maxHeartbeats 400000 in
theorem szII (A : Option Addr) (n c : Nat) (ts : List Sl) (left : Int) (w : World) (hx : SII w A n ts) (hn : n ≤ 9223372036854775807) (hns : ∀ t ∈ ts, t.xs.length ≤ 9223372036854775807) (h0 : 0 ≤ left) (h1 : left ≤ 1048576) :
    Calls Try.prog 70 #[.slice A n c, .int .i64 left] w fun e w' => e = .returned (.int .i64 (szRows left (n :: ts.map (fun t => t.xs.length)))) ∧ w = w' := by
  by_cases h : left < n
  · have h2 : left - n < 0 := by omega
    go_enter Try.func70, Try.ntmps70
    go_wp2
    go_ret
    exact ⟨ret_int (by unfold szRows; rw [if_pos h]), rfl⟩
  · have h2 : ¬ left - n < 0 := by omega
    go_enter Try.func70, Try.ntmps70
    go_wp2
    go_loop [1, 5] (fun q i => ∃ (k : Nat) (z : Int), k ≤ n ∧ i = .int .i64 k ∧ q = .int .i64 z ∧ 0 ≤ z ∧ z ≤ 1048576 ∧ Hid (szRows left (n :: ts.map (fun t => t.xs.length)) = szRows z ((ts.drop k).map (fun t => t.xs.length)))) (fun _ i => n - (intOf i).toNat)
    case atStart => exact ⟨0, left - n, by omega, rfl, rfl, by omega, by omega, by show _ = _; rw [szRows, if_neg (by omega)]; simp⟩
    case round =>
      obtain ⟨k, z, hk, rfl, rfl, hz0, hz1, he⟩ := hrel
      by_cases hlt : k < n
      · obtain ⟨t, b, off, hT, htm, rfl, _, hc, hr⟩ := hx.pick hlt
        have hrl := hns t htm
        by_cases hzl : z < (t.xs.length : Int)
        · have HS : Hid (szF z (t.xs.length : Int) = -1) := by show _ = _; unfold szF; rw [if_pos hzl]
          go_wp2_with (go_at_call 71; refine (szI _ _ _ _ _ (by omega) (by omega) (by omega)).mono ?_; rintro e w' ⟨rfl, rfl⟩; rw [HS.out])
          go_ret
          refine ⟨ret_int ?_, rfl⟩
          rw [he.out, szRows_at hT.out, if_pos hzl]
        · have HS : Hid (szF z (t.xs.length : Int) = z - (t.xs.length : Int)) := by show _ = _; unfold szF; rw [if_neg hzl]
          go_wp2_with (go_at_call 71; refine (szI _ _ _ _ _ (by omega) (by omega) (by omega)).mono ?_; rintro e w' ⟨rfl, rfl⟩; rw [HS.out])
          refine ⟨⟨k + 1, _, by omega, by go_num, rfl, by omega, by omega, ?_⟩, by simp [intOf]; omega⟩
          show _ = _
          rw [he.out, szRows_at hT.out, if_neg (by omega)]
      · go_wp2
        go_ret
        refine ⟨ret_int ?_, rfl⟩
        have := hx.len
        rw [he.out, List.drop_eq_nil_of_le (by omega)]
        rfl

set_option maxHeartbeats 400000 in
theorem eqII (A B : Option Addr) (n m c d : Nat) (ts us : List Sl) (w : World) (hx : SII w A n ts) (hy : SII w B m us) (hn : n ≤ 9223372036854775807) (hns : ∀ t ∈ ts, t.xs.length ≤ 9223372036854775807) :
    Calls Try.prog 67 #[.slice A n c, .slice B m d] w fun e w' => e = .returned (.bool (sameII (nums ts) (nums us))) ∧ ∃ q, w' = w.drewN q := by
  by_cases hnm : n = m
  · subst hnm
    go_enter Try.func67, Try.ntmps67
    go_wp2
    go_loopw [5] (fun i wr => ∃ k q : Nat, k ≤ n ∧ i = .int .i64 k ∧ Hid ((nums ts).take k = (nums us).take k) ∧ wr = w.drewN q) (fun i _ => n - (intOf i).toNat)
    case atStart => exact ⟨0, 0, by omega, rfl, rfl, rfl⟩
    case round =>
      obtain ⟨k, q, hk, rfl, he, rfl⟩ := hrel
      by_cases hlt : k < n
      · obtain ⟨t, b, off, hT, htm, rfl, _, hc, hr⟩ := hx.pick hlt
        obtain ⟨u, b', off', hU, hum, rfl, _, hc', hr'⟩ := hy.pick hlt
        have hrl := hns t htm
        go_wp2
        go_quiet ((go_at_call 35; exact quiet_add (eqI _ _ _ _ _ _ _ _ _ (hr.drewN _) (hr'.drewN _) hrl)))
        go_wp2
        · go_ret
          exact ⟨ret_bool (sameII_ne hT.out hU.out (by assumption)), _, World.drewN_drewN _ _ _⟩
        · exact ⟨⟨k + 1, _, by omega, by go_num, nums_next hT.out hU.out he.out (by assumption), rfl⟩, by simp [intOf]; omega⟩
      · go_wp2
        go_ret
        exact ⟨ret_bool (sameII_eq (by omega) hx.len hy.len he.out), _, rfl⟩
  · have hne : ((n : Int) != (m : Int)) = true := by simp; omega
    go_enter Try.func67, Try.ntmps67
    go_wp2
    go_ret
    exact ⟨ret_bool (by have := hx.len; have := hy.len; unfold sameII; symm; rw [decide_eq_false_iff_not]; intro h; have := congrArg List.length h; simp [nums] at this; omega), 0, rfl⟩

def ToII (w : World) (n : Nat) (xss : List (List Int)) (e : Ending) (w' : World) : Prop :=
  ∃ A us, e = .returned (.slice A n n) ∧ OII w' w.heap.size 25 2 A n n us ∧ nums us = xss ∧ (∀ u ∈ us, u.c = u.xs.length) ∧ Below w.heap.size w w'

set_option maxHeartbeats 400000 in
theorem toII (A : Option Addr) (n c : Nat) (ts : List Sl) (w : World) (hx : SII w A n ts) (hn : n ≤ 1048576) (hns : ∀ t ∈ ts, t.xs.length ≤ 1048576) :
    Calls Try.prog 75 #[.slice A n c] w (ToII w n (nums ts)) := by
  have HL := Lib.hid hx.len
  have hxl : n ≤ ts.length := by have := hx.len; omega
  have hxl' : ts.length ≤ n := by have := hx.len; omega
  go_enter Try.func75, Try.ntmps75
  go_wp2_with (at_make; refine wpList_make_Own rfl (.tmp 6) (.tmp 6) rfl elII (n := n) (lo := w.heap.size) rfl rfl (by omega) (by unfold maxLen; omega) (Nat.le_refl _) ?_; intro w2 ho2 hb2 hs2)
  rw [made_rows n] at ho2
  have HS := Lib.hid hs2
  clear hs2
  go_loopw [4] (fun i wr => ∃ (k : Nat) (us : List Sl), k ≤ n ∧ i = .int .i64 k ∧ Hid (us.length = k) ∧ Hid (nums us = (nums ts).take k) ∧ Own wr w.heap.size 25 1 (some ⟨w.heap.size, 0, none⟩) n n (halfRows us (n - k)) ∧
    Hid (∀ u ∈ us, Own wr w.heap.size 2 1 u.A u.xs.length u.c (ints u.xs) ∧ u.c = u.xs.length) ∧ us.Pairwise Apt ∧ Below w.heap.size w wr) (fun i _ => n - (intOf i).toNat)
  case atStart => exact ⟨0, [], by omega, rfl, rfl, by simp [nums, Hid], ho2, fun _ h => absurd h (by simp), List.Pairwise.nil, hb2⟩
  case round =>
    obtain ⟨k, us, hk, rfl, hul, hnu, ho, hu, hp, hb⟩ := hrel
    by_cases hlt : k < n
    · obtain ⟨t, b, off, hT, htm, rfl, hbl, hc, hr⟩ := (hx.below hb).pick hlt
      have hrl := hns t htm
      go_wp2_with fail
      refine (toI _ _ _ _ _ hr (by omega)).mono ?_
      rintro e w3 ⟨A3, rfl, ho3, hb3⟩
      have hwz : w.heap.size < wr.heap.size := ho.blk_lt w.heap.size rfl
      have ho4 := ho.below hb3
      have hkl : k < (halfRows us (n - k)).length := by rw [halfRows_len, hul.out]; omega
      obtain ⟨b', off', he, hlo, _, hc', hf'⟩ := ho4.at_ hkl
      simp only [Option.some.injEq, Addr.mk.injEq, and_true] at he
      obtain ⟨rfl, rfl⟩ := he
      have ho5 := ho4.set_ hkl (.slice A3 t.xs.length t.xs.length)
      have e5 : (halfRows us (n - k)).set k (.slice A3 t.xs.length t.xs.length) = halfRows (us ++ [⟨A3, t.xs.length, t.xs⟩]) (n - (k + 1)) := by
        have := halfRows_next us (n - (k + 1)) ⟨A3, t.xs.length, t.xs⟩
        rw [hul.out, show n - (k + 1) + 1 = n - k from by omega] at this
        exact this
      rw [e5] at ho5
      simp only [Nat.zero_add] at hc' hf' ho5
      have hb5 := ((hb.trans (hb3.mono (by omega))).setCell (p := ⟨w.heap.size, k, none⟩) (Nat.le_refl _) (.slice A3 t.xs.length t.xs.length))
      have hu5 : Hid (∀ u ∈ us ++ [(⟨A3, t.xs.length, t.xs⟩ : Sl)], Own (w3.setCell ⟨w.heap.size, k, none⟩ (.slice A3 t.xs.length t.xs.length)) w.heap.size 2 1 u.A u.xs.length u.c (ints u.xs) ∧ u.c = u.xs.length) := by
        intro u hum
        rcases List.mem_append.1 hum with h | h
        · refine ⟨((hu.out u h).1.below hb3).far (p := ⟨w.heap.size, k, none⟩) (fun e => ?_) _, (hu.out u h).2⟩
          exact Own.blk_ne ((hu.out u h).1) ho (by decide) _ e rfl
        · simp only [List.mem_singleton] at h
          subst h
          refine ⟨(ho3.mono (by omega)).far (p := ⟨w.heap.size, k, none⟩) (fun e => ?_) _, rfl⟩
          have := ho3.blk_ge _ e
          simp only at this; omega
      have hp5 : (us ++ [(⟨A3, t.xs.length, t.xs⟩ : Sl)]).Pairwise Apt := Apt.snoc hp (fun u hum b hb1 hb2 => by
        have h1 := (hu.out u hum).1.blk_lt b hb1
        have h2 := ho3.blk_ge b hb2
        omega)
      have hnu5 : Hid (nums (us ++ [(⟨A3, t.xs.length, t.xs⟩ : Sl)]) = (nums ts).take (k + 1)) := nums_take_next hT.out hnu.out rfl
      have hul5 : Hid ((us ++ [(⟨A3, t.xs.length, t.xs⟩ : Sl)]).length = k + 1) := by show _ = _; rw [List.length_append, hul.out]; rfl
      clear e5 ho4 ho
      go_wp2
      exact ⟨⟨k + 1, _, by omega, by go_num, hul5, hnu5, ho5, hu5, hp5, hb5⟩, by simp [intOf]; omega⟩
    · go_wp2
      go_ret
      have e1 : n - k = 0 := by omega
      have hoo := ho
      rw [e1, halfRows_end] at hoo
      refine ⟨_, us, rfl, ⟨hoo, fun u h => (hu.out u h).1, hp⟩, ?_, fun u h => (hu.out u h).2, hb⟩
      rw [hnu.out, List.take_of_length_le (by simp [nums]; omega)]

theorem total_take {ts : List Sl} {t : Sl} {k : Nat} (hT : ts[k]? = some t) : total (ts.take (k + 1)) = total (ts.take k) + t.xs.length := by
  obtain ⟨h, rfl⟩ := List.getElem?_eq_some_iff.1 hT
  unfold total; rw [List.take_succ_eq_append_getElem h, List.map_append, List.sum_append]; simp
theorem total_take_le (ts : List Sl) (k : Nat) : total (ts.take k) ≤ total ts := by
  have e : total ts = total (ts.take k) + total (ts.drop k) := by unfold total; rw [← List.sum_append, ← List.map_append, List.take_append_drop]
  omega

set_option maxHeartbeats 400000 in
theorem markII_m (T : List TypeId) (A : Option Addr) (n c : Nat) (ts : List Sl) (m : Int) (w : World) (lo hi : Nat) (hx : MkII w lo hi 25 2 A n c ts) (hT : 2 ∈ T) (hT2 : 25 ∉ T) (hn : n ≤ 9223372036854775807) (h0 : 0 ≤ m) (h1 : m + total ts ≤ 9223372036854775807) :
    Calls Try.prog 68 #[.slice A n c, .int .i64 m] w (MarkP T w lo hi (total ts) m) := by
  have hl : ts.length = n := by have := hx.1.1; simp at this; omega
  have HL := Lib.hid hl
  have HT := Lib.hid hT
  have HT2 := Lib.hid hT2
  clear hl hT hT2
  go_enter Try.func68, Try.ntmps68
  go_wp2
  go_loopw [1, 5] (fun q i wr => ∃ k : Nat, k ≤ n ∧ i = .int .i64 k ∧ q = .int .i64 (m + total (ts.take k)) ∧ MkII wr lo hi 25 2 A n c ts ∧ MkF T lo hi w wr) (fun _ i _ => n - (intOf i).toNat)
  case atStart => exact ⟨0, by omega, rfl, by simp [total], hx, MkF.refl _ _ _ _⟩
  case round =>
    obtain ⟨k, hk, rfl, rfl, ho, ht⟩ := hrel
    by_cases hlt : k < n
    · have hkl : k < ts.length := by have := HL.out; omega
      obtain ⟨t, hT⟩ : ∃ t, ts[k]? = some t := ⟨ts[k], List.getElem?_eq_getElem hkl⟩
      have hmem : t ∈ ts := List.mem_of_getElem? hT
      have HTO := Lib.hid (total_take hT)
      have hle := total_take_le ts (k + 1)
      obtain ⟨b, off, rfl, _, _, hc, _⟩ := ho.1.at_ (k := k) (by simpa using hkl)
      have hcv : wr.cell? ⟨b, off + k, none⟩ = some (.slice t.A t.xs.length t.c) := by rw [hc]; obtain ⟨h, rfl⟩ := List.getElem?_eq_some_iff.1 hT; simp [Sl.val]
      have hle2 : (total (ts.take k) : Int) + t.xs.length ≤ total ts := by have := HTO.out; omega
      clear hc hT hle
      go_wp2_with (go_at_call 38; refine (markI_m T _ _ _ _ _ lo hi (ho.2 t hmem) HT.out (by omega) (by omega)).mono ?_; rintro e w3 ⟨rfl, ht3⟩)
      refine ⟨⟨k + 1, by omega, by go_num, ?_, ho.mkf ht3 HT2.out, ht.trans ht3⟩, by simp [intOf]; omega⟩
      rw [HTO.out]; go_num
    · go_wp2
      go_ret
      refine ⟨ret_int ?_, ht⟩
      rw [List.take_of_length_le (by have := HL.out; omega)]
end Go.Proofs.Ythipbeggaeogcaa

/-
  What the size helpers of the laws come to, in one form.
-/
namespace Go.Proofs.Ythipbeggaeogcaa
open Go.RowKit
def SzP (w : World) (left tot : Int) (e : Ending) (w' : World) : Prop := ∃ z : Int, e = .returned (.int .i64 z) ∧ -1 ≤ z ∧ z ≤ left ∧ (0 ≤ z → z = left - tot) ∧ Below w.heap.size w w'
theorem szF_p {left : Int} {n : Nat} (h0 : 0 ≤ left) : -1 ≤ szF left n ∧ szF left n ≤ left ∧ (0 ≤ szF left n → szF left n = left - n) := by
  unfold szF; split <;> omega
theorem szI_p (A : Option Addr) (n c : Nat) (left : Int) (w : World) (hn : n ≤ 9223372036854775807) (h0 : 0 ≤ left) (h1 : left ≤ 1048576) :
    Calls Try.prog 71 #[.slice A n c, .int .i64 left] w (SzP w left n) :=
  (szI A n c left w hn h0 h1).mono fun _e _w' ⟨he, hw⟩ => ⟨_, he, (szF_p h0).1, (szF_p h0).2.1, (szF_p h0).2.2, hw ▸ Below.refl _ _⟩
theorem szR_p (A : Option Addr) (n c : Nat) (left : Int) (w : World) (hn : n ≤ 9223372036854775807) (h0 : 0 ≤ left) (h1 : left ≤ 1048576) : Calls Try.prog 116 #[.slice A n c, .int .i64 left] w (SzP w left n) := (szR A n c left w hn h0 h1).mono fun _e _w' ⟨he, hw⟩ => ⟨_, he, (szF_p h0).1, (szF_p h0).2.1, (szF_p h0).2.2, hw ▸ Below.refl _ _⟩
end Go.Proofs.Ythipbeggaeogcaa

/-
  What the size helper over [][]int64 comes to, in one form; totals of rows.
-/
namespace Go.Proofs.Ythipbeggaeogcaa
open Go.RowKit
theorem szRows_tot : ∀ (rows : List Nat) (left : Int), 0 ≤ left → -1 ≤ szRows left rows ∧ szRows left rows ≤ left ∧ (0 ≤ szRows left rows → szRows left rows = left - rows.sum)
  | [], left, h => by simp [szRows]; omega
  | n :: r, left, h => by
    rw [szRows]
    split
    · omega
    · rename_i hn
      have h2 := szRows_tot r (left - n) (by omega)
      simp only [List.sum_cons]
      omega
theorem szII_p (A : Option Addr) (n c : Nat) (ts : List Sl) (left : Int) (w : World) (hx : SII w A n ts) (hn : n ≤ 9223372036854775807) (hns : ∀ t ∈ ts, t.xs.length ≤ 9223372036854775807) (h0 : 0 ≤ left) (h1 : left ≤ 1048576) :
    Calls Try.prog 70 #[.slice A n c, .int .i64 left] w (SzP w left ((n + total ts : Nat) : Int)) :=
  (szII A n c ts left w hx hn hns h0 h1).mono fun _e _w' ⟨he, hw⟩ => by
    have h2 := szRows_tot (n :: ts.map (fun t => t.xs.length)) left h0
    have h3 : (n :: ts.map (fun t => t.xs.length)).sum = n + total ts := by simp [total]
    rw [h3] at h2
    exact ⟨_, he, h2.1, h2.2.1, h2.2.2, hw ▸ Below.refl _ _⟩
theorem row_total {ts : List Sl} {t : Sl} (h : t ∈ ts) : t.xs.length ≤ total ts := by
  unfold total
  obtain ⟨a, b, rfl⟩ := List.append_of_mem h
  simp; omega
theorem total_of_nums (ts : List Sl) : total ts = ((nums ts).map List.length).sum := by simp [total, nums, Function.comp_def]
theorem total_same {ts us : List Sl} (h : nums us = nums ts) : total us = total ts := by rw [total_of_nums, total_of_nums, h]
theorem rows_le {ts us : List Sl} (h : nums us = nums ts) {b : Nat} (hb : ∀ t ∈ ts, t.xs.length ≤ b) : ∀ u ∈ us, u.xs.length ≤ b := by
  intro u hu
  have h1 : u.xs ∈ nums us := List.mem_map.2 ⟨u, hu, rfl⟩
  rw [h] at h1
  obtain ⟨t, ht, e⟩ := List.mem_map.1 h1
  rw [← e]; exact hb t ht
end Go.Proofs.Ythipbeggaeogcaa

/-
  Words that the laws' walks share: a box that a region made, contracts of the helpers in one form.
-/
namespace Go.Proofs.Ythipbeggaeogcaa
open Go.RowKit

theorem Own.asI {w : World} {lo n c : Nat} {e : TypeId} {A : Option Addr} {xs : List Int} (h : Own w lo e 1 A n c (ints xs)) : SI w A n xs := h.rd
theorem Own.as3 {w : World} {lo n c : Nat} {e : TypeId} {A : Option Addr} {xs : List R3} (h : Own w lo e 3 A n c (cells3 xs)) : S3 w A n xs := h.rd
/-- A block from lo on that is known whole. -/
def Bx (lo : Nat) (t : TypeId) (cs : Array Value) (g : Nat) (w : World) : Prop := lo ≤ g ∧ Blk w g t cs
theorem Bx.new {lo : Nat} (w : World) (t : TypeId) (cs : Array Value) (h : lo ≤ w.heap.size) : Bx lo t cs w.heap.size (w.alloc (.cells cs t)) := ⟨h, Blk.new w t cs⟩
theorem Bx.below' {lo g : Nat} {t : TypeId} {cs : Array Value} {w w' : World} (h : Bx lo t cs g w) (z : Below w.heap.size w w') : Bx lo t cs g w' := ⟨h.1, h.2.below' z⟩
theorem Bx.drewN {lo g : Nat} {t : TypeId} {cs : Array Value} {w : World} (h : Bx lo t cs g w) (n : Nat) : Bx lo t cs g (w.drewN n) := ⟨h.1, h.2.drewN n⟩
theorem below_of_alloc {w w' : World} {o : Obj} (h : Below (w.alloc o).heap.size (w.alloc o) w') : Below w.heap.size w w' :=
  ((Below.refl _ _).alloc (Nat.le_refl _) o).trans (h.mono (by simp))
theorem eqI_b (A B : Option Addr) (n m c d : Nat) (xs ys : List Int) (w : World) (hx : SI w A n xs) (hy : SI w B m ys) (hn : n ≤ 9223372036854775807) :
    Calls Try.prog 35 #[.slice A n c, .slice B m d] w fun e w' => e = .returned (.bool (sameI xs ys)) ∧ Below w.heap.size w w' :=
  (eqI A B n m c d xs ys w hx hy hn).mono fun _ _ ⟨he, q, hq⟩ => ⟨he, hq ▸ below_drewN (Below.refl _ _) q⟩
theorem heldI_b (A : Option Addr) (n c : Nat) (xs : List Int) (m : Int) (w : World) (hx : SI w A n xs) (h0 : 0 ≤ m) (h1 : m + n ≤ 9223372036854775807) : Calls Try.prog 39 #[.slice A n c, .int .i64 m] w fun e w' => e = .returned (.int .i64 (heldF m xs)) ∧ Below w.heap.size w w' := (heldI A n c xs m w hx h0 h1).mono fun _ _ ⟨he, hq⟩ => ⟨he, hq ▸ Below.refl _ _⟩
theorem sameII_self (xs : List (List Int)) : sameII xs xs = true := by simp [sameII]
theorem eqII_b (A B : Option Addr) (n m c d : Nat) (ts us : List Sl) (w : World) (hx : SII w A n ts) (hy : SII w B m us) (hn : n ≤ 9223372036854775807) (hns : ∀ t ∈ ts, t.xs.length ≤ 9223372036854775807) : Calls Try.prog 67 #[.slice A n c, .slice B m d] w fun e w' => e = .returned (.bool (sameII (nums ts) (nums us))) ∧ Below w.heap.size w w' := (eqII A B n m c d ts us w hx hy hn hns).mono fun _ _ ⟨he, q, hq⟩ => ⟨he, hq ▸ below_drewN (Below.refl _ _) q⟩
end Go.Proofs.Ythipbeggaeogcaa
