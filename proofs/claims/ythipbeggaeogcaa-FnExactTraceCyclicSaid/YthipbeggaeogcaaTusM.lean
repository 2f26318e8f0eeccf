/-
  Slices of turns whose numbers are marked one after the other.
-/
import Derived.Test.YthipbeggaeogcaaTus
namespace Go.Proofs.Ythipbeggaeogcaa
open Go.RowKit

theorem flat_splitU {α β : Type} {f : α → List β} {ts : List α} {k : Nat} {t : α} (h : ts[k]? = some t) : ts.flatMap f = (ts.take k).flatMap f ++ (f t ++ (ts.drop (k + 1)).flatMap f) := by
  obtain ⟨hk, he⟩ := List.getElem?_eq_some_iff.1 h
  have e : ts = ts.take k ++ t :: ts.drop (k + 1) := by rw [← he, ← List.drop_eq_getElem_cons hk, List.take_append_drop]
  conv => lhs; rw [e]
  rw [List.flatMap_append, List.flatMap_cons]
theorem flat_splitU_set {α β : Type} {f : α → List β} {ts : List α} {k : Nat} {t : α} (u : α) (h : ts[k]? = some t) : (ts.set k u).flatMap f = (ts.take k).flatMap f ++ (f u ++ (ts.drop (k + 1)).flatMap f) := by
  obtain ⟨hk, he⟩ := List.getElem?_eq_some_iff.1 h
  have e : (ts.set k u)[k]? = some u := by simp [hk]
  rw [flat_splitU e]
  congr 1
  · rw [List.take_set_of_le (Nat.le_refl k)]
  · congr 2
    rw [List.drop_set_of_lt (by omega)]
section
variable {w w' : World} {lo n c s : Nat} {e : TypeId} {A : Option Addr} {cs : List Value} {rows : List Rw}
/-- A store into a cell of the spine. -/
theorem Recs.cellU {b off : Nat} (h : Recs w lo e s (some ⟨b, off, none⟩) n c cs rows) {j : Nat} (hj : j < cs.length) (u : Value) : Recs (w.setCell ⟨b, off + j, none⟩ u) lo e s (some ⟨b, off, none⟩) n c (cs.set j u) rows :=
  ⟨h.spine.set_ hj u, fun r hr => Own.far (h.each r hr) (p := ⟨b, off + j, none⟩) (fun hb => h.row_ne r hr b rfl hb) u, h.apt, h.types⟩
/-- A row that is written. -/
theorem Recs.rowU {l1 l2 : List Rw} {r r' : Rw} (h : Recs w lo e s A n c cs (l1 ++ r :: l2)) (hA : r'.A = r.A) (he : r'.e = r.e) (ho : r'.own w' lo) (hf : ∀ b, blk r.A ≠ some b → w'.heap[b]? = w.heap[b]?) : Recs w' lo e s A n c cs (l1 ++ r' :: l2) := by
  have hp := h.apt
  rw [List.pairwise_append, List.pairwise_cons] at hp
  obtain ⟨p1, ⟨p2, p3⟩, p4⟩ := hp
  have hr : r ∈ l1 ++ r :: l2 := by simp
  refine ⟨h.spine.kept (fun b hb _ _ => hf b (fun hb' => h.row_ne r hr b hb hb')), fun x hx => ?_, ?_, fun x hx => ?_⟩
  · rcases List.mem_append.1 hx with h1 | h1
    · exact Own.kept (h.each x (by simp [h1])) (fun b hb _ _ => hf b (fun hb' => p4 x h1 r (by simp) b hb hb'))
    · rcases List.mem_cons.1 h1 with rfl | h1
      · exact ho
      · exact Own.kept (h.each x (by simp [h1])) (fun b hb _ _ => hf b (fun hb' => p2 x h1 b hb' hb))
  · rw [List.pairwise_append, List.pairwise_cons]
    refine ⟨p1, ⟨fun x hx b hb => p2 x hx b (hA ▸ hb), p3⟩, fun x hx y hy => ?_⟩
    rcases List.mem_cons.1 hy with rfl | hy
    · intro b hb hb'; exact p4 x hx r (by simp) b hb (hA ▸ hb')
    · exact p4 x hx y (by simp [hy])
  · rcases List.mem_append.1 hx with h1 | h1
    · exact h.types x (by simp [h1])
    · rcases List.mem_cons.1 h1 with rfl | h1
      · rw [he]; exact h.types r hr
      · exact h.types x (by simp [h1])
end
section
variable {w w' : World} {lo n c : Nat} {A : Option Addr} {ts : List Tm}
theorem OTs.setq {b off k : Nat} {t : Tm} (h : OTs w lo (some ⟨b, off, none⟩) n c ts) (hT : ts[k]? = some t) (p : Int) : OTs (w.setCell ⟨b, off + k * 2, none⟩ (.int .i64 p)) lo (some ⟨b, off, none⟩) n c (ts.set k { t with q := p }) := by
  have hk := (List.getElem?_eq_some_iff.1 hT).1
  have h1 := Recs.cellU h (j := k * 2) (by rw [flat_len Tm.cells_len]; omega) (.int .i64 p)
  have h2 : (ts.flatMap Tm.cells).set (k * 2) (.int .i64 p) = (ts.set k { t with q := p }).flatMap Tm.cells := flat_set (j := 0) Tm.cells_len hT (by omega) rfl
  have h3 : (ts.set k { t with q := p }).flatMap Tm.rows = ts.flatMap Tm.rows := by rw [flat_splitU_set _ hT, flat_splitU hT]; rfl
  unfold OTs
  rw [← h2, h3]
  exact h1
theorem OTs.setL {k : Nat} {t : Tm} {xs : List Int} (h : OTs w lo A n c ts) (hT : ts[k]? = some t) (hl : xs.length = t.xs.length) (ho : Own w' lo 2 1 t.L t.xs.length t.a (ints xs)) (hf : ∀ b, blk t.L ≠ some b → w'.heap[b]? = w.heap[b]?) : OTs w' lo A n c (ts.set k { t with xs := xs }) := by
  have h2 : (ts.set k { t with xs := xs }).flatMap Tm.cells = ts.flatMap Tm.cells := by rw [flat_splitU_set _ hT, flat_splitU hT]; simp [Tm.cells, hl]
  unfold OTs at h ⊢
  rw [flat_splitU (f := Tm.rows) hT] at h
  rw [h2, flat_splitU_set _ hT]
  have h' : Recs w lo 30 2 A n c (ts.flatMap Tm.cells) ((ts.take k).flatMap Tm.rows ++ Rw.i 2 t.L t.a t.xs :: (ts.drop (k + 1)).flatMap Tm.rows) := by
    exact h
  exact Recs.rowU (r' := Rw.i 2 t.L t.a xs) h' rfl rfl (by show Own w' lo _ 1 t.L xs.length t.a (ints xs); rw [hl]; exact ho) hf
end
/-! ### marks -/
def Tm.size (t : Tm) : Nat := 1 + t.xs.length
def Tm.mark (p : Int) (t : Tm) : Tm := ⟨p, t.L, t.a, marks (p + 1) t.xs.length⟩
def offU (ts : List Tm) (k : Nat) : Nat := ((ts.take k).map Tm.size).sum
theorem offU_zero (ts : List Tm) : offU ts 0 = 0 := by simp [offU]
theorem sum_take_nextU {f : Tm → Nat} {ts : List Tm} {t : Tm} {k : Nat} (hT : ts[k]? = some t) : ((ts.take (k + 1)).map f).sum = ((ts.take k).map f).sum + f t := by
  obtain ⟨hk, rfl⟩ := List.getElem?_eq_some_iff.1 hT
  rw [List.take_succ_eq_append_getElem hk, List.map_append, List.sum_append]
  simp only [List.map_cons, List.map_nil, List.sum_cons, List.sum_nil, Nat.add_zero]
theorem offU_next {ts : List Tm} {t : Tm} {k : Nat} (hT : ts[k]? = some t) : offU ts (k + 1) = offU ts k + t.size := sum_take_nextU hT
theorem offU_le (ts : List Tm) (b : Nat) (h : ∀ t ∈ ts, t.size ≤ b) (k : Nat) : offU ts k ≤ ts.length * b := by
  have key : ∀ us : List Tm, (∀ t ∈ us, t.size ≤ b) → (us.map Tm.size).sum ≤ us.length * b := by
    intro us
    induction us with
    | nil => simp
    | cons x r ih =>
      intro hu
      have h1 := hu x (by simp)
      have h2 := ih (fun y hy => hu y (by simp [hy]))
      simp only [List.map_cons, List.sum_cons, List.length_cons, Nat.succ_mul]
      omega
  refine Nat.le_trans (key _ (fun t ht => h t (List.mem_of_mem_take ht))) (Nat.mul_le_mul_right _ ?_)
  simp; omega
/-- Behind k marked configurations. -/
def markTu (p : Int) (ts : List Tm) (k : Nat) : List Tm := ts.mapIdx (fun i t => if i < k then t.mark (p + (offU ts i : Int)) else t)
theorem markTu_zero (p : Int) (ts : List Tm) : markTu p ts 0 = ts := by
  unfold markTu
  apply List.ext_getElem?
  intro i
  simp
theorem markTu_get {p : Int} {ts : List Tm} {k i : Nat} {t : Tm} (h : ts[i]? = some t) : (markTu p ts k)[i]? = some (if i < k then t.mark (p + (offU ts i : Int)) else t) := by
  unfold markTu; simp [h]
theorem markTu_len (p : Int) (ts : List Tm) (k : Nat) : (markTu p ts k).length = ts.length := by simp [markTu]
theorem markTu_next {p : Int} {ts : List Tm} {k : Nat} {t : Tm} (h : ts[k]? = some t) : (markTu p ts k).set k (t.mark (p + (offU ts k : Int))) = markTu p ts (k + 1) := by
  obtain ⟨hk, he⟩ := List.getElem?_eq_some_iff.1 h
  apply List.ext_getElem?
  intro i
  by_cases hi : i = k
  · subst hi
    rw [List.getElem?_set_self (by rw [markTu_len]; exact hk), markTu_get h]
    simp
  · rw [List.getElem?_set_ne (by omega)]
    by_cases hlt : i < ts.length
    · rw [markTu_get (List.getElem?_eq_getElem hlt), markTu_get (List.getElem?_eq_getElem hlt)]
      congr 1
      by_cases h1 : i < k
      · rw [if_pos h1, if_pos (by omega)]
      · rw [if_neg h1, if_neg (by omega)]
    · rw [List.getElem?_eq_none (by rw [markTu_len]; omega), List.getElem?_eq_none (by rw [markTu_len]; omega)]
end Go.Proofs.Ythipbeggaeogcaa
