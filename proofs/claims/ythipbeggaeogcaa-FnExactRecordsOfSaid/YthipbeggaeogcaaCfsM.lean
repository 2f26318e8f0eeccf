/-
  Slices of configurations whose numbers are marked one after the other.
-/
import Derived.Test.YthipbeggaeogcaaCfs
namespace Go.Proofs.Ythipbeggaeogcaa
open Go.RowKit

theorem flat_split {α β : Type} {f : α → List β} {ts : List α} {k : Nat} {t : α} (h : ts[k]? = some t) : ts.flatMap f = (ts.take k).flatMap f ++ (f t ++ (ts.drop (k + 1)).flatMap f) := by
  obtain ⟨hk, he⟩ := List.getElem?_eq_some_iff.1 h
  have e : ts = ts.take k ++ t :: ts.drop (k + 1) := by rw [← he, ← List.drop_eq_getElem_cons hk, List.take_append_drop]
  conv => lhs; rw [e]
  rw [List.flatMap_append, List.flatMap_cons]
theorem flat_split_set {α β : Type} {f : α → List β} {ts : List α} {k : Nat} {t : α} (u : α) (h : ts[k]? = some t) : (ts.set k u).flatMap f = (ts.take k).flatMap f ++ (f u ++ (ts.drop (k + 1)).flatMap f) := by
  obtain ⟨hk, he⟩ := List.getElem?_eq_some_iff.1 h
  have e : (ts.set k u)[k]? = some u := by simp [hk]
  rw [flat_split e]
  congr 1
  · rw [List.take_set_of_le (Nat.le_refl k)]
  · congr 2
    rw [List.drop_set_of_lt (by omega)]
section
variable {w w' : World} {lo n c s : Nat} {e : TypeId} {A : Option Addr} {cs : List Value} {rows : List Rw}
/-- A store into a cell of the spine. -/
theorem Recs.cell {b off : Nat} (h : Recs w lo e s (some ⟨b, off, none⟩) n c cs rows) {j : Nat} (hj : j < cs.length) (u : Value) : Recs (w.setCell ⟨b, off + j, none⟩ u) lo e s (some ⟨b, off, none⟩) n c (cs.set j u) rows :=
  ⟨h.spine.set_ hj u, fun r hr => Own.far (h.each r hr) (p := ⟨b, off + j, none⟩) (fun hb => h.row_ne r hr b rfl hb) u, h.apt, h.types⟩
/-- A row that is written. -/
theorem Recs.row {l1 l2 : List Rw} {r r' : Rw} (h : Recs w lo e s A n c cs (l1 ++ r :: l2)) (hA : r'.A = r.A) (he : r'.e = r.e) (ho : r'.own w' lo) (hf : ∀ b, blk r.A ≠ some b → w'.heap[b]? = w.heap[b]?) : Recs w' lo e s A n c cs (l1 ++ r' :: l2) := by
  have hp := h.apt
  rw [List.pairwise_append, List.pairwise_cons] at hp
  obtain ⟨p1, ⟨p2, p3⟩, p4⟩ := hp
  have hr : r ∈ l1 ++ r :: l2 := by simp
  refine ⟨h.spine.kept (fun b hb _ _ => hf b (fun hb' => h.row_ne r hr b hb hb')), fun x hx => ?_, ?_, fun x hx => ?_⟩
  · rcases List.mem_append.1 hx with h1 | h1
    · exact Own.kept (h.each x (by simp [h1])) (fun b hb _ _ => hf b (fun hb' => p4 x h1 r (by simp) b hb hb'))
    · rcases List.mem_cons.1 h1 with rfl | h1
      · exact ho
      · exact Own.kept (h.each x (by simp [h1])) (fun b hb _ _ => hf b (fun hb' => p2 x h1 b hb' hb))
  · rw [List.pairwise_append, List.pairwise_cons]
    refine ⟨p1, ⟨fun x hx b hb => p2 x hx b (hA ▸ hb), p3⟩, fun x hx y hy => ?_⟩
    rcases List.mem_cons.1 hy with rfl | hy
    · intro b hb hb'; exact p4 x hx r (by simp) b hb (hA ▸ hb')
    · exact p4 x hx y (by simp [hy])
  · rcases List.mem_append.1 hx with h1 | h1
    · exact h.types x (by simp [h1])
    · rcases List.mem_cons.1 h1 with rfl | h1
      · rw [he]; exact h.types r hr
      · exact h.types x (by simp [h1])
end
section
variable {w w' : World} {lo n c : Nat} {A : Option Addr} {ts : List Cf}
theorem OCs.setq {b off k : Nat} {t : Cf} (h : OCs w lo (some ⟨b, off, none⟩) n c ts) (hT : ts[k]? = some t) (p : Int) : OCs (w.setCell ⟨b, off + k * 3, none⟩ (.int .i64 p)) lo (some ⟨b, off, none⟩) n c (ts.set k { t with q := p }) := by
  have hk := (List.getElem?_eq_some_iff.1 hT).1
  have h1 := Recs.cell h (j := k * 3) (by rw [flat_len Cf.cells_len]; omega) (.int .i64 p)
  have h2 : (ts.flatMap Cf.cells).set (k * 3) (.int .i64 p) = (ts.set k { t with q := p }).flatMap Cf.cells := flat_set (j := 0) Cf.cells_len hT (by omega) rfl
  have h3 : (ts.set k { t with q := p }).flatMap Cf.rows = ts.flatMap Cf.rows := by rw [flat_split_set _ hT, flat_split hT]; rfl
  unfold OCs
  rw [← h2, h3]
  exact h1
theorem OCs.setL {k : Nat} {t : Cf} {xs : List Int} (h : OCs w lo A n c ts) (hT : ts[k]? = some t) (hl : xs.length = t.xs.length) (ho : Own w' lo 2 1 t.L t.xs.length t.a (ints xs)) (hf : ∀ b, blk t.L ≠ some b → w'.heap[b]? = w.heap[b]?) : OCs w' lo A n c (ts.set k { t with xs := xs }) := by
  have h2 : (ts.set k { t with xs := xs }).flatMap Cf.cells = ts.flatMap Cf.cells := by rw [flat_split_set _ hT, flat_split hT]; simp [Cf.cells, hl]
  unfold OCs at h ⊢
  rw [flat_split (f := Cf.rows) hT] at h
  rw [h2, flat_split_set _ hT]
  have h' : Recs w lo 172 3 A n c (ts.flatMap Cf.cells) ((ts.take k).flatMap Cf.rows ++ Rw.i 2 t.L t.a t.xs :: (Rw.i 2 t.R t.d t.ys :: (ts.drop (k + 1)).flatMap Cf.rows)) := by
    exact h
  exact Recs.row (r' := Rw.i 2 t.L t.a xs) h' rfl rfl (by show Own w' lo _ 1 t.L xs.length t.a (ints xs); rw [hl]; exact ho) hf
theorem OCs.setR {k : Nat} {t : Cf} {ys : List Int} (h : OCs w lo A n c ts) (hT : ts[k]? = some t) (hl : ys.length = t.ys.length) (ho : Own w' lo 2 1 t.R t.ys.length t.d (ints ys)) (hf : ∀ b, blk t.R ≠ some b → w'.heap[b]? = w.heap[b]?) : OCs w' lo A n c (ts.set k { t with ys := ys }) := by
  have h2 : (ts.set k { t with ys := ys }).flatMap Cf.cells = ts.flatMap Cf.cells := by rw [flat_split_set _ hT, flat_split hT]; simp [Cf.cells, hl]
  unfold OCs at h ⊢
  rw [flat_split (f := Cf.rows) hT] at h
  rw [h2, flat_split_set _ hT]
  have h' : Recs w lo 172 3 A n c (ts.flatMap Cf.cells) (((ts.take k).flatMap Cf.rows ++ [Rw.i 2 t.L t.a t.xs]) ++ Rw.i 2 t.R t.d t.ys :: (ts.drop (k + 1)).flatMap Cf.rows) := by
    simpa [Cf.rows] using h
  have := Recs.row (r' := Rw.i 2 t.R t.d ys) h' rfl rfl (by show Own w' lo _ 1 t.R ys.length t.d (ints ys); rw [hl]; exact ho) hf
  simpa [Cf.rows] using this
end
theorem OCs.lr {w : World} {lo n c k : Nat} {A : Option Addr} {ts : List Cf} {t : Cf} (h : OCs w lo A n c ts) (hT : ts[k]? = some t) : ∀ b, blk t.L = some b → blk t.R ≠ some b := by
  have hp := h.apt
  rw [flat_split (f := Cf.rows) hT, List.pairwise_append] at hp
  have h2 := hp.2.1
  simp only [Cf.rows, List.cons_append, List.nil_append, List.pairwise_cons] at h2
  exact h2.1 (Rw.i 2 t.R t.d t.ys) List.mem_cons_self
/-! ### marks -/
def Cf.size (t : Cf) : Nat := 1 + t.xs.length + t.ys.length
def Cf.mark (p : Int) (t : Cf) : Cf := ⟨p, t.L, t.a, marks (p + 1) t.xs.length, t.R, t.d, marks (p + 1 + t.xs.length) t.ys.length⟩
def offC (ts : List Cf) (k : Nat) : Nat := ((ts.take k).map Cf.size).sum
theorem offC_zero (ts : List Cf) : offC ts 0 = 0 := by simp [offC]
theorem sum_take_next {f : Cf → Nat} {ts : List Cf} {t : Cf} {k : Nat} (hT : ts[k]? = some t) : ((ts.take (k + 1)).map f).sum = ((ts.take k).map f).sum + f t := by
  obtain ⟨hk, rfl⟩ := List.getElem?_eq_some_iff.1 hT
  rw [List.take_succ_eq_append_getElem hk, List.map_append, List.sum_append]
  simp only [List.map_cons, List.map_nil, List.sum_cons, List.sum_nil, Nat.add_zero]
theorem offC_next {ts : List Cf} {t : Cf} {k : Nat} (hT : ts[k]? = some t) : offC ts (k + 1) = offC ts k + t.size := sum_take_next hT
theorem offC_le (ts : List Cf) (b : Nat) (h : ∀ t ∈ ts, t.size ≤ b) (k : Nat) : offC ts k ≤ ts.length * b := by
  have key : ∀ us : List Cf, (∀ t ∈ us, t.size ≤ b) → (us.map Cf.size).sum ≤ us.length * b := by
    intro us
    induction us with
    | nil => simp
    | cons x r ih =>
      intro hu
      have h1 := hu x (by simp)
      have h2 := ih (fun y hy => hu y (by simp [hy]))
      simp only [List.map_cons, List.sum_cons, List.length_cons, Nat.succ_mul]
      omega
  refine Nat.le_trans (key _ (fun t ht => h t (List.mem_of_mem_take ht))) (Nat.mul_le_mul_right _ ?_)
  simp; omega
/-- Behind k marked configurations. -/
def markTo (p : Int) (ts : List Cf) (k : Nat) : List Cf := ts.mapIdx (fun i t => if i < k then t.mark (p + (offC ts i : Int)) else t)
theorem markTo_zero (p : Int) (ts : List Cf) : markTo p ts 0 = ts := by
  unfold markTo
  apply List.ext_getElem?
  intro i
  simp
theorem markTo_get {p : Int} {ts : List Cf} {k i : Nat} {t : Cf} (h : ts[i]? = some t) : (markTo p ts k)[i]? = some (if i < k then t.mark (p + (offC ts i : Int)) else t) := by
  unfold markTo; simp [h]
theorem markTo_len (p : Int) (ts : List Cf) (k : Nat) : (markTo p ts k).length = ts.length := by simp [markTo]
theorem markTo_next {p : Int} {ts : List Cf} {k : Nat} {t : Cf} (h : ts[k]? = some t) : (markTo p ts k).set k (t.mark (p + (offC ts k : Int))) = markTo p ts (k + 1) := by
  obtain ⟨hk, he⟩ := List.getElem?_eq_some_iff.1 h
  apply List.ext_getElem?
  intro i
  by_cases hi : i = k
  · subst hi
    rw [List.getElem?_set_self (by rw [markTo_len]; exact hk), markTo_get h]
    simp
  · rw [List.getElem?_set_ne (by omega)]
    by_cases hlt : i < ts.length
    · rw [markTo_get (List.getElem?_eq_getElem hlt), markTo_get (List.getElem?_eq_getElem hlt)]
      congr 1
      by_cases h1 : i < k
      · rw [if_pos h1, if_pos (by omega)]
      · rw [if_neg h1, if_neg (by omega)]
    · rw [List.getElem?_eq_none (by rw [markTo_len]; omega), List.getElem?_eq_none (by rw [markTo_len]; omega)]
end Go.Proofs.Ythipbeggaeogcaa
