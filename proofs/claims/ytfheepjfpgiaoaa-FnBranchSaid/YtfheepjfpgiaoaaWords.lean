/-
  Plain words for memory: a slice value that reads as a list of cells, a slice that the call owns, frames, appends. No program is in sight.
-/
import Derived.WalkKit
import Derived.WalkSpells
import Derived.Deep.Draws
import Derived.Lib.Hide
import Derived.RegionTactic
import Derived.Deep.QuietTactic
namespace Go.Proofs.Ytfheepjfpgiaoaa
open Go.RowKit

theorem add_lit (b off k : Nat) : (⟨b, off, none⟩ : Addr).add k = ⟨b, off + k, none⟩ := by
  unfold Addr.add; split <;> simp_all

/-- The slice value '.slice A n c', elements of s cells, reads in w as the cells cs. -/
def Rd (w : World) (s : Nat) (A : Option Addr) (n : Nat) (cs : List Value) : Prop :=
  cs.length = n * s ∧ (0 < cs.length → ∃ b off, A = some ⟨b, off, none⟩ ∧ ∀ k (h : k < cs.length), w.cell? ⟨b, off + k, none⟩ = some cs[k])

/-- A slice that the call owns: nil, or a stretch of a block from lo on, not frozen, with its whole capacity inside. -/
def Own (w : World) (lo : Nat) (e : TypeId) (s : Nat) (A : Option Addr) (n c : Nat) (cs : List Value) : Prop :=
  cs.length = n * s ∧ ((A = none ∧ n = 0 ∧ c = 0) ∨ ∃ b off cur, A = some ⟨b, off, none⟩ ∧ lo ≤ b ∧ w.heap[b]? = some (.cells cur e (0, 0)) ∧ n ≤ c ∧ c ≤ maxLen ∧ off + c * s ≤ cur.size ∧
    ∀ k (h : k < cs.length), cur[off + k]? = some cs[k])

/-- The block of an address that may be missing. -/
def blk (A : Option Addr) : Option Nat := A.map (·.block)

section
variable {w w' : World} {A : Option Addr} {n c s lo lo' : Nat} {e : TypeId} {cs : List Value}
theorem Rd.nil : Rd w s A 0 [] := ⟨by simp, fun h => absurd h (by simp)⟩
theorem Rd.lt {b off : Nat} (h : Rd w s (some ⟨b, off, none⟩) n cs) (h0 : 0 < cs.length) : b < w.heap.size := by
  obtain ⟨b', off', e, hc⟩ := h.2 h0
  simp at e; obtain ⟨rfl, rfl⟩ := e
  exact World.block_lt_of_cell? w _ (hc 0 h0)
theorem Rd.at_ (h : Rd w s A n cs) {k : Nat} (hk : k < cs.length) : ∃ b off, A = some ⟨b, off, none⟩ ∧ b < w.heap.size ∧ w.cell? ⟨b, off + k, none⟩ = some cs[k] := by
  obtain ⟨b, off, e, hc⟩ := h.2 (by omega)
  exact ⟨b, off, e, World.block_lt_of_cell? w _ (hc k hk), hc k hk⟩
theorem Rd.keep (h : Rd w s A n cs) (hk : ∀ p : Addr, p.block < w.heap.size → some p.block = blk A → w'.cell? p = w.cell? p) : Rd w' s A n cs := by
  refine ⟨h.1, fun hn => ?_⟩
  obtain ⟨b, off, e, hc⟩ := h.2 hn
  refine ⟨b, off, e, fun k hk' => ?_⟩
  have := hc k hk'
  rw [hk ⟨b, off + k, none⟩ (World.block_lt_of_cell? w _ this) (by subst e; rfl)]
  exact this
theorem Rd.below (h : Rd w s A n cs) (hb : Below w.heap.size w w') : Rd w' s A n cs := h.keep fun _ hp _ => hb.cell hp
theorem Rd.drewN (h : Rd w s A n cs) (k : Nat) : Rd (w.drewN k) s A n cs := h
theorem Rd.alloc (h : Rd w s A n cs) (o : Obj) : Rd (w.alloc o) s A n cs := h.keep fun p hp _ => World.cell?_alloc_lt w o p hp
theorem Rd.grown {row : Option Nat} (h : Rd w s A n cs) (hg : w.grownBy w' row) (hr : ∀ g, row = some g → blk A ≠ some g) : Rd w' s A n cs :=
  h.keep fun p hp he => World.cell?_of_block (hg.block p.block hp (fun e => hr _ e.symm (by rw [← he])))
theorem Rd.news (h : Rd w s A n cs) {ad : Addr} (hA : A = some ad) : ∀ j u, cs[j]? = some u → w.cell? (ad.add j) = some u := by
  intro j u hu
  obtain ⟨hj, rfl⟩ := List.getElem?_eq_some_iff.1 hu
  obtain ⟨b, off, e, hc⟩ := h.2 (by omega)
  rw [hA] at e; simp at e; subst e
  rw [add_lit]; exact hc j hj
/-- A cut at both ends: s[i:j]. -/
theorem Rd.cut (h : Rd w 1 A n cs) {i j : Nat} (hij : i ≤ j) (hj : j ≤ n) {A' : Option Addr} (hA : i < j → ∀ b off, A = some ⟨b, off, none⟩ → A' = some ⟨b, off + i, none⟩) : Rd w 1 A' (j - i) ((cs.take j).drop i) := by
  have hl := h.1
  refine ⟨by simp; omega, fun hn => ?_⟩
  simp at hn
  obtain ⟨b, off, e, hc⟩ := h.2 (by omega)
  refine ⟨b, off + i, hA (by omega) b off e, fun k hk => ?_⟩
  simp at hk
  rw [Nat.add_assoc, hc (i + k) (by omega)]
  simp

theorem Own.len (h : Own w lo e s A n c cs) : cs.length = n * s := h.1
theorem Own.le (h : Own w lo e s A n c cs) : n ≤ c := by
  rcases h.2 with ⟨_, h1, h2⟩ | ⟨_, _, _, _, _, _, h1, _⟩ <;> omega
theorem Own.rd (h : Own w lo e s A n c cs) : Rd w s A n cs := by
  refine ⟨h.1, fun hn => ?_⟩
  rcases h.2 with ⟨_, h1, _⟩ | ⟨b, off, cur, hA, _, hg, _, _, _, hc⟩
  · have := h.1; subst h1; simp at this; simp [this] at hn
  · exact ⟨b, off, hA, fun k hk => by rw [← hc k hk]; simp [World.cell?, hg]⟩
theorem Own.nil : Own w lo e s none 0 0 [] := ⟨by simp, .inl ⟨rfl, rfl, rfl⟩⟩
theorem Own.kept (h : Own w lo e s A n c cs) (hk : ∀ b, blk A = some b → lo ≤ b → b < w.heap.size → w'.heap[b]? = w.heap[b]?) : Own w' lo e s A n c cs := by
  refine ⟨h.1, ?_⟩
  rcases h.2 with h1 | ⟨b, off, cur, hA, hb, hg, r⟩
  · exact .inl h1
  · exact .inr ⟨b, off, cur, hA, hb, by rw [hk b (by subst hA; rfl) hb (Array.getElem?_eq_some_iff.1 hg).1]; exact hg, r⟩
theorem Own.below (h : Own w lo e s A n c cs) (hb : Below w.heap.size w w') : Own w' lo e s A n c cs := h.kept fun b _ _ hlt => hb.block b hlt
theorem Own.drewN (h : Own w lo e s A n c cs) (k : Nat) : Own (w.drewN k) lo e s A n c cs := h
theorem Own.alloc (h : Own w lo e s A n c cs) (o : Obj) : Own (w.alloc o) lo e s A n c cs := h.kept fun b _ _ hlt => Below.heap_alloc w o b hlt
theorem Own.mono (h : Own w lo e s A n c cs) (hl : lo' ≤ lo) : Own w lo' e s A n c cs := by
  refine ⟨h.1, ?_⟩
  rcases h.2 with h1 | ⟨b, off, cur, hA, hb, r⟩
  · exact .inl h1
  · exact .inr ⟨b, off, cur, hA, Nat.le_trans hl hb, r⟩
theorem Own.grown {row : Option Nat} (h : Own w lo e s A n c cs) (hg : w.grownBy w' row) (hr : ∀ g, row = some g → blk A ≠ some g) : Own w' lo e s A n c cs :=
  h.kept fun b hb _ hlt => hg.block b hlt (fun e => hr b e.symm hb)
theorem Own.blk_ge (h : Own w lo e s A n c cs) : ∀ b, blk A = some b → lo ≤ b := by
  intro b hb
  rcases h.2 with ⟨rfl, _⟩ | ⟨b', off, cur, rfl, h1, _⟩
  · simp [blk] at hb
  · simp [blk] at hb; omega
theorem Own.blk_lt (h : Own w lo e s A n c cs) : ∀ b, blk A = some b → b < w.heap.size := by
  intro b hb
  rcases h.2 with ⟨rfl, _⟩ | ⟨b', off, cur, rfl, h1, hg, _⟩
  · simp [blk] at hb
  · simp [blk] at hb; subst hb; exact (Array.getElem?_eq_some_iff.1 hg).1
/-- The place of an element's cell: there, not frozen. -/
theorem Own.at_ (h : Own w lo e s A n c cs) {k : Nat} (hk : k < cs.length) : ∃ b off, A = some ⟨b, off, none⟩ ∧ lo ≤ b ∧ b < w.heap.size ∧ w.cell? ⟨b, off + k, none⟩ = some cs[k] ∧ w.frozen? ⟨b, off + k, none⟩ = false := by
  rcases h.2 with ⟨_, h1, _⟩ | ⟨b, off, cur, hA, hb, hg, _, _, _, hc⟩
  · have := h.1; subst h1; simp at this; simp [this] at hk
  · exact ⟨b, off, hA, hb, (Array.getElem?_eq_some_iff.1 hg).1, by rw [← hc k hk]; simp [World.cell?, hg], by simp [World.frozen?, hg]⟩
/-- A store into an element's cell. -/
theorem Own.set_ {b off : Nat} (h : Own w lo e s (some ⟨b, off, none⟩) n c cs) {k : Nat} (hk : k < cs.length) (u : Value) : Own (w.setCell ⟨b, off + k, none⟩ u) lo e s (some ⟨b, off, none⟩) n c (cs.set k u) := by
  refine ⟨by simpa using h.1, ?_⟩
  rcases h.2 with ⟨h0, _⟩ | ⟨b', off', cur, hA, hb, hg, h1, h2, h3, hc⟩
  · simp at h0
  · simp at hA; obtain ⟨rfl, rfl⟩ := hA
    refine .inr ⟨b, off, cur.setIfInBounds (off + k) u, rfl, hb, heap_setCell_same w b (off + k) cur e u hg, h1, h2, by simpa using h3, fun j hj => ?_⟩
    simp at hj
    have hk' := hc k hk
    have hj' := hc j hj
    have hlt : off + k < cur.size := (Array.getElem?_eq_some_iff.1 hk').1
    by_cases hjk : j = k
    · subst hjk; simp [hlt]
    · have : ¬ off + k = off + j := by omega
      rw [Array.getElem?_setIfInBounds_ne this, hj', List.getElem_set_ne (by omega)]
theorem Own.far (h : Own w lo e s A n c cs) {p : Addr} (hp : blk A ≠ some p.block) (u : Value) : Own (w.setCell p u) lo e s A n c cs :=
  h.kept fun b hb _ _ => Below.heap_setCell w p u b (fun e => hp (by rw [hb, e]))
/-- A cut at both ends: s[i:j]. -/
theorem Own.cut (h : Own w lo e 1 A n c cs) {i j : Nat} (hij : i ≤ j) (hj : j ≤ n) {A' : Option Addr} (hA0 : A = none → A' = none) (hA : ∀ b off, A = some ⟨b, off, none⟩ → A' = some ⟨b, off + i, none⟩ ∨ (i = c ∧ A' = A)) :
    Own w lo e 1 A' (j - i) (c - i) ((cs.take j).drop i) := by
  have hl := h.1
  refine ⟨by simp; omega, ?_⟩
  rcases h.2 with ⟨h0, h1, h2⟩ | ⟨b, off, cur, hA', hb, hg, h1, h2, h3, hc⟩
  · exact .inl ⟨hA0 h0, by omega, by omega⟩
  · rcases hA b off hA' with e | ⟨e1, e2⟩
    · refine .inr ⟨b, off + i, cur, e, hb, hg, by omega, by omega, by omega, fun k hk => ?_⟩
      simp at hk
      rw [Nat.add_assoc, hc (i + k) (by omega)]
      simp
    · refine .inr ⟨b, off, cur, by rw [e2, hA'], hb, hg, by omega, by omega, by omega, fun k hk => ?_⟩
      simp at hk; omega
end

/-- What a slice type is, in a program: its elements' type, cells and bytes. -/
structure Elem (P : Program) (t e : TypeId) (s bytes : Nat) (z : Value) : Prop where
  under : P.underlying t = some (.slice e)
  info : (P.info? e).map (fun i => (i.zero, i.size, i.bytes)) = some (some z, s, bytes)
  cells : z.cells.size = s
  pos : 0 < s

section
variable {P : Program} {t e : TypeId} {s bytes : Nat} {z : Value}

theorem run_append_Own (E : Elem P t e s bytes z) (w : World) (ty : TypeId) {lo : Nat} {A : Option Addr} {n c : Nat} {xs : List Value} (h : Own w lo e s A n c xs)
    {A' : Option Addr} {m c' : Nat} {news : List Value} (hr : Rd w s A' m news) (h1 : ∀ u ∈ news, u.oneCell' = true) (hb : (n + m) * bytes ≤ 140737488355328) (hm : n + m ≤ maxLen) (hlo : lo ≤ w.heap.size) :
    ∃ A2 c2 w2, (Builtin.append_ #[t, t] ty #[.slice A n c, .slice A' m c']).run P w = .ok (.slice A2 (n + m) c2) w2 ∧ Own w2 lo e s A2 (n + m) c2 (xs ++ news) ∧ w.grownBy w2 (blk A) ∧ (blk A2 = blk A ∨ blk A2 = some w.heap.size) ∧ Own w2 lo e s A n c xs := by
  obtain ⟨i, hi, hz, hsz, hby⟩ := info_parts E.info
  have ht := E.under
  subst hsz
  subst hby
  have hcap : ∀ old, n + m ≤ grownCap w (n + m) old e ∧ grownCap w (n + m) old e ≤ maxLen := fun old => ⟨grownCap_ge w (n + m) old e, grownCap_le_maxLen w (n + m) old e hm⟩
  have hm' : ((n + m : Nat) : Int) ≤ 9223372036854775807 := by have := hm; simp only [maxLen] at this; omega
  have hlen : (xs ++ news).length = (n + m) * i.size := by rw [List.length_append, h.1, hr.1, Nat.add_mul]
  have made : ∀ old, Own (w.drew.alloc (.cells (xs.toArray ++ news.toArray ++ Builtin.zeroCells z.cells (grownCap w (n + m) old e - (n + m))) e)) lo e i.size (some ⟨w.heap.size, 0, none⟩) (n + m) (grownCap w (n + m) old e) (xs ++ news) := by
    intro old
    refine ⟨hlen, .inr ⟨w.heap.size, 0, _, rfl, hlo, heap_alloc_new w.drew _, (hcap old).1, (hcap old).2, ?_, fun k hk => ?_⟩⟩
    · have h1 := h.1
      have h2 := hr.1
      have e1 : grownCap w (n + m) old e * i.size = (n + m) * i.size + (grownCap w (n + m) old e - (n + m)) * i.size := by rw [← Nat.add_mul]; congr 1; have := (hcap old).1; omega
      simp only [Array.size_append, List.size_toArray, size_zeroCells, E.cells, Nat.zero_add]
      rw [e1, Nat.add_mul]; omega
    · rw [Nat.zero_add, Array.getElem?_append_left (by simpa using hk)]
      simp only [List.append_toArray, List.getElem?_toArray]
      rw [List.getElem?_eq_getElem hk]
  have grown : ∀ (o : Obj) (row : Option Nat), w.grownBy (w.drew.alloc o) row := fun o row => ⟨rfl, rfl, rfl, by simp, fun k hk _ => Below.heap_alloc w.drew o k hk⟩
  rcases A' with _ | ad
  · have hn0 : news = [] := by
      rcases Nat.eq_zero_or_pos news.length with h0 | h0
      · exact List.eq_nil_of_length_eq_zero h0
      · obtain ⟨_, _, he, _⟩ := hr.2 h0; cases he
    subst hn0
    have hm0 : m = 0 := by
      have h0 := hr.1
      simp only [List.length_nil] at h0
      rcases Nat.eq_zero_or_pos m with h2 | h2
      · exact h2
      · have h3 := Nat.mul_pos h2 E.pos
        omega
    subst hm0
    refine ⟨A, c, w, ?_, by simpa using h, World.grownBy.refl w _, .inl rfl, h⟩
    have hle := h.le
    cases A <;> simp [Builtin.append_, run_underlying ht, sizeOf, typeInfo, hi, Builtin.lenOf, Builtin.firstCells, hle, storeCells]
  · have hnews := hr.news (ad := ad) rfl
    by_cases hroom : n + m ≤ c
    · rcases h.2 with ⟨hA, hn0, hc0⟩ | ⟨b, off, cur, hA, hb0, hg, hnc, hcm, hfit, hc⟩
      · have hm0 : m = 0 := by omega
        subst hm0; subst hn0; subst hA; subst hc0
        have hn0 : news = [] := List.eq_nil_of_length_eq_zero (by have := hr.1; simpa using this)
        subst hn0
        refine ⟨none, 0, w, ?_, by simpa using h, World.grownBy.refl w _, .inl rfl, h⟩
        simp [Builtin.append_, run_underlying ht, sizeOf, typeInfo, hi, Builtin.lenOf, Builtin.firstCells, loadCells, loadCellsFrom]
      · subst hA
        have hf := run_firstCells_some (P := P) w i.size m ad m c' news hr.1 hnews
        have hfit2 : off + n * i.size + 0 + news.length ≤ cur.size := by
          have e1 : (n + m) * i.size ≤ c * i.size := Nat.mul_le_mul_right _ hroom
          rw [Nat.add_mul] at e1; have := hr.1; omega
        have hst := run_storeCells_at P b (off + n * i.size) e news 0 cur w hg hfit2 h1
        simp only [Nat.add_zero] at hst
        refine ⟨some ⟨b, off, none⟩, c, w.setRow b (cur.toList.take (off + n * i.size) ++ news ++ cur.toList.drop (off + n * i.size + news.length)).toArray, ?_, ⟨hlen, .inr ⟨b, off, _, rfl, hb0, setRow_heap w b cur _ e _ hg, hroom, hcm, ?_, fun k hk => ?_⟩⟩,
          ⟨rfl, rfl, rfl, by simp, fun k _ hk => setRow_other w b k _ (fun e => hk (by simp [blk, e]))⟩, .inl rfl, ⟨h.1, .inr ⟨b, off, _, rfl, hb0, setRow_heap w b cur _ e _ hg, hnc, hcm, ?_, fun k hk => ?_⟩⟩⟩
        · simp [Builtin.append_, run_underlying ht, sizeOf, typeInfo, hi, Builtin.lenOf, hroom, hf, add_lit, hst]
        · simp; omega
        · have hxl := h.1
          simp only [List.getElem?_toArray]
          rw [List.append_assoc, List.getElem?_append]
          have htl : (cur.toList.take (off + n * i.size)).length = off + n * i.size := by simp; omega
          rw [htl]
          by_cases hkn : k < n * i.size
          · rw [if_pos (by omega), List.getElem?_take, if_pos (by omega), List.getElem_append_left (by omega)]
            simpa using hc k (by omega)
          · rw [if_neg (by omega), List.getElem?_append_left (by simp at hk; omega)]
            rw [List.getElem_append_right (by omega), ← List.getElem?_eq_getElem]
            congr 1; omega
        · simp; omega
        · have hxl := h.1
          simp only [List.getElem?_toArray]
          rw [List.append_assoc, List.getElem?_append]
          have htl : (cur.toList.take (off + n * i.size)).length = off + n * i.size := by simp; omega
          rw [htl, if_pos (by omega), List.getElem?_take, if_pos (by omega)]
          simpa using hc k hk
    · have hr2 : (Builtin.append_ #[t, t] ty #[.slice A n c, .slice (some ad) m c']).run P w = .ok (.slice (some ⟨w.heap.size, 0, none⟩) (n + m) (grownCap w (n + m) c e)) (w.drew.alloc (.cells (xs.toArray ++ news.toArray ++ Builtin.zeroCells z.cells (grownCap w (n + m) c e - (n + m))) e)) := by
        rcases h.2 with ⟨hA, hn0, hc0⟩ | ⟨b, off, cur, hA, hb0, hg, hnc, hcm, hfit, hc⟩
        · subst hA; subst hn0; subst hc0
          have hx : xs = [] := List.eq_nil_of_length_eq_zero (by have := h.1; simpa using this)
          subst hx
          have := run_append_nil (P := P) w t ty e i z ht hi hz ad m c' news hr.1 hnews (by omega) (by omega) (by have := hb; simp only [Nat.zero_add] at this; omega)
          simpa using this
        · subst hA
          exact run_append_grow (P := P) w t ty e i z ht hi hz ⟨b, off, none⟩ n c xs h.1 (h.rd.news rfl) ad m c' news hr.1 hnews (by omega) hm' (growslice_fits (by omega) hb)
      exact ⟨_, _, _, hr2, made c, grown _ _, .inr rfl, h.kept fun b _ _ hlt => Below.heap_alloc w.drew _ b hlt⟩

theorem wp_append_Own {o : Oper} {a : Act} {K : Act → World → Prop} {Q : Exit → Act → World → Prop} (sl x : Operand) (ho : o.op = .call { callee := .builtin .append, args := #[sl, x], argTypes := #[t, t] })
    (E : Elem P t e s bytes z) {w : World} {lo : Nat} {A : Option Addr} {n c : Nat} {xs : List Value} (hs : a.eval sl = .slice A n c) (h : Own w lo e s A n c xs)
    {A' : Option Addr} {m c' : Nat} {news : List Value} (hx : a.eval x = .slice A' m c') (hr : Rd w s A' m news) (h1 : ∀ u ∈ news, u.oneCell' = true) (hb : (n + m) * bytes ≤ 140737488355328) (hm : n + m ≤ maxLen) (hlo : lo ≤ w.heap.size)
    (hK : ∀ A2 c2 w2, Own w2 lo e s A2 (n + m) c2 (xs ++ news) → w.grownBy w2 (blk A) → (blk A2 = blk A ∨ blk A2 = some w.heap.size) ∧ Own w2 lo e s A n c xs → K (a.put o.dst (.slice A2 (n + m) c2)) w2) : o.wp P a w K Q := by
  obtain ⟨A2, c2, w2, hrun, h2, h3, h4⟩ := run_append_Own E w o.type h hr (c' := c') h1 hb hm hlo
  unfold Oper.wp execOp
  simp only [ho, resolve, invoke, builtin, Sem.run_bind, Sem.run_pure, Result.andThen_ok, List.map_toArray, List.map_cons, List.map_nil, hs, hx, hrun]
  exact hK A2 c2 w2 h2 h3 h4

theorem wpList_append_Own {ops : Array Oper} {rest : List Oper} {o : Oper} {a : Act} {Q : Exit → Act → World → Prop} (hgd : o.guard = none) (sl x : Operand) (ho : o.op = .call { callee := .builtin .append, args := #[sl, x], argTypes := #[t, t] })
    (E : Elem P t e s bytes z) {w : World} {lo : Nat} {A : Option Addr} {n c : Nat} {xs : List Value} (hs : a.eval sl = .slice A n c) (h : Own w lo e s A n c xs)
    {A' : Option Addr} {m c' : Nat} {news : List Value} (hx : a.eval x = .slice A' m c') (hr : Rd w s A' m news) (h1 : ∀ u ∈ news, u.oneCell' = true) (hb : (n + m) * bytes ≤ 140737488355328) (hm : n + m ≤ maxLen) (hlo : lo ≤ w.heap.size)
    (hK : ∀ A2 c2 w2, Own w2 lo e s A2 (n + m) c2 (xs ++ news) → w.grownBy w2 (blk A) → (blk A2 = blk A ∨ blk A2 = some w.heap.size) ∧ Own w2 lo e s A n c xs → wpList P ops Q rest (a.put o.dst (.slice A2 (n + m) c2)) w2) : wpList P ops Q (o :: rest) a w :=
  wpList_plain hgd fun _ hK' => wp_append_Own sl x ho E hs h hx hr h1 hb hm hlo fun A2 c2 w2 h2 h3 h4 => hK' _ _ (hK A2 c2 w2 h2 h3 h4)

theorem step_append_Own {ops : Array Oper} {o : Oper} {a : Act} {K : Act → World → Prop} {Q : Exit → Act → World → Prop} {F : Prop} (hgd : o.guard = none) (sl x : Operand) (ho : o.op = .call { callee := .builtin .append, args := #[sl, x], argTypes := #[t, t] })
    (E : Elem P t e s bytes z) {w : World} {lo : Nat} {A : Option Addr} {n c : Nat} {xs : List Value} (hs : a.eval sl = .slice A n c) (h : Own w lo e s A n c xs)
    {A' : Option Addr} {m c' : Nat} {news : List Value} (hx : a.eval x = .slice A' m c') (hr : Rd w s A' m news) (h1 : ∀ u ∈ news, u.oneCell' = true) (hb : (n + m) * bytes ≤ 140737488355328) (hm : n + m ≤ maxLen) (hlo : lo ≤ w.heap.size)
    (hK : ∀ A2 c2 w2, Own w2 lo e s A2 (n + m) c2 (xs ++ news) → w.grownBy w2 (blk A) → (blk A2 = blk A ∨ blk A2 = some w.heap.size) ∧ Own w2 lo e s A n c xs → K (a.put o.dst (.slice A2 (n + m) c2)) w2) :
    if Region.wanted o (yielded ops a.tmps) = true then Oper.wp P o a w K Q else F := by
  have hw : Region.wanted o (yielded ops a.tmps) = true := by simp [Region.wanted, hgd]
  rw [if_pos hw]
  exact wp_append_Own sl x ho E hs h hx hr h1 hb hm hlo hK

/-- make([]T, n), n a variable. -/
theorem run_make_Own (E : Elem P t e s bytes z) (w : World) (kl kc : IntKind) {n : Nat} (hb : bytes * n ≤ 281474976710656) (hm : n ≤ maxLen) {lo : Nat} (hlo : lo ≤ w.heap.size) :
    ∃ w2, (Instr.makeSlice t (.int kl (n : Int)) (.int kc (n : Int))).run P w = .ok (.slice (some ⟨w.heap.size, 0, none⟩) n n) w2 ∧ Own w2 lo e s (some ⟨w.heap.size, 0, none⟩) n n (madeCells z.cells (n * s)).toList ∧ Below w.heap.size w w2 ∧ w2.heap.size = w.heap.size + 1 := by
  obtain ⟨i, hi, hz, hsz, hby⟩ := info_parts E.info
  subst hsz
  subst hby
  have h63' : (n : Int) ≤ 9223372036854775807 := by have h := hm; simp [maxLen] at h; omega
  have hb' : (i.bytes : Int) * (n : Int) ≤ 281474976710656 := by
    have h : ((i.bytes * n : Nat) : Int) ≤ 281474976710656 := by omega
    rwa [Int.natCast_mul] at h
  have hr := run_make (P := P) w t e i z E.under hi hz kl kc n n (by omega) (Int.le_refl _) hb' h63'
  simp only [Int.toNat_natCast] at hr
  refine ⟨_, hr, ⟨by simp [size_madeCells], .inr ⟨w.heap.size, 0, _, rfl, hlo, heap_alloc_new w _, Nat.le_refl _, hm, by simp [size_madeCells], fun k hk => ?_⟩⟩, (Below.refl _ _).alloc (Nat.le_refl _) _, by simp⟩
  simp at hk
  simp [hk]

theorem wpList_make_Own {ops : Array Oper} {rest : List Oper} {o : Oper} {a : Act} {Q : Exit → Act → World → Prop} (hgd : o.guard = none) (l c : Operand) (ho : o.op = Op.makeSlice t l c)
    (E : Elem P t e s bytes z) {w : World} {kl kc : IntKind} {n : Nat} (hl : a.eval l = .int kl (n : Int)) (hc : a.eval c = .int kc (n : Int)) (hb : bytes * n ≤ 281474976710656) (hm : n ≤ maxLen) {lo : Nat} (hlo : lo ≤ w.heap.size)
    (hK : ∀ w2, Own w2 lo e s (some ⟨w.heap.size, 0, none⟩) n n (madeCells z.cells (n * s)).toList → Below w.heap.size w w2 → w2.heap.size = w.heap.size + 1 → wpList P ops Q rest (a.put o.dst (.slice (some ⟨w.heap.size, 0, none⟩) n n)) w2) : wpList P ops Q (o :: rest) a w := by
  refine wpList_plain hgd fun K hK' => ?_
  obtain ⟨w2, hrun, r1, r2, r3⟩ := run_make_Own E w kl kc hb hm hlo
  unfold Oper.wp
  simp [execOp, ho, hl, hc, hrun, Result.andThen]
  exact hK' _ _ (hK w2 r1 r2 r3)
end
/-- The one cell of a block that was laid just now. -/
theorem Rd.new1 (w : World) (u : Value) (e : TypeId) : Rd (w.alloc (.cells #[u] e)) 1 (some ⟨w.heap.size, 0, none⟩) 1 [u] := by
  refine ⟨by simp, fun _ => ⟨_, 0, rfl, fun k hk => ?_⟩⟩
  simp at hk; subst hk
  rw [cell_of_row _ w.heap.size (0 + 0) #[u] e (0, 0) (heap_alloc_new w _)]; rfl

theorem below_drewN {B : Nat} {a w : World} (h : Below B a w) (n : Nat) : Below B a (w.drewN n) := ⟨h.os, h.tape, h.output, h.size, h.block⟩
theorem below_undrew {B : Nat} {w w2 : World} {n : Nat} (h : Below B (w.drewN n) w2) : Below B w w2 := ⟨h.os, h.tape, h.output, h.size, h.block⟩
theorem ret_int {k : IntKind} {a b : Int} (h : a = b) : Ending.returned (.int k a) = .returned (.int k b) := by rw [h]
theorem ret_bool {a b : Bool} (h : a = b) : Ending.returned (.bool a) = .returned (.bool b) := by rw [h]

/-! ### []int64 -/
def ints (xs : List Int) : List Value := xs.map (Value.int .i64)
theorem length_ints (xs : List Int) : (ints xs).length = xs.length := by simp [ints]
theorem ints_one (xs : List Int) : ∀ u ∈ ints xs, u.oneCell' = true := by
  intro u hu; simp [ints] at hu; obtain ⟨x, _, rfl⟩ := hu; rfl
theorem ints_get (xs : List Int) (k : Nat) (h : k < (ints xs).length) : (ints xs)[k] = .int .i64 (xs[k]'(by rw [length_ints] at h; exact h)) := by simp [ints]
theorem ints_append (xs ys : List Int) : ints xs ++ ints ys = ints (xs ++ ys) := by simp [ints]
theorem ints_drop (xs : List Int) (k : Nat) : (ints xs).drop k = ints (xs.drop k) := by simp [ints]
theorem ints_take (xs : List Int) (k : Nat) : (ints xs).take k = ints (xs.take k) := by simp [ints]

/-- A slice that reads as a list of numbers. -/
def SI (w : World) (A : Option Addr) (n : Nat) (xs : List Int) : Prop := Rd w 1 A n (ints xs)
section
variable {w w' : World} {A : Option Addr} {n : Nat} {xs : List Int}
theorem SI.len (h : SI w A n xs) : xs.length = n := by have := h.1; rw [length_ints] at this; omega
theorem SI.at_ (h : SI w A n xs) {k : Nat} (hk : k < n) : ∃ b off, A = some ⟨b, off, none⟩ ∧ b < w.heap.size ∧ w.cell? ⟨b, off + k, none⟩ = some (.int .i64 (xs[k]'(by have := h.len; omega))) := by
  have hl := h.len
  obtain ⟨b, off, e, hlt, hc⟩ := Rd.at_ h (k := k) (by rw [length_ints]; omega)
  exact ⟨b, off, e, hlt, by rw [hc, ints_get]⟩
theorem SI.at0 (h : SI w A n xs) (hk : 0 < n) : ∃ b off, A = some ⟨b, off, none⟩ ∧ b < w.heap.size ∧ w.cell? ⟨b, off, none⟩ = some (.int .i64 (xs.headD 0)) := by
  obtain ⟨b, off, e, hlt, hc⟩ := h.at_ hk
  refine ⟨b, off, e, hlt, ?_⟩
  rw [Nat.add_zero] at hc
  rw [hc]
  have hl := h.len
  rcases xs with _ | ⟨x, r⟩
  · simp at hl; omega
  · rfl
theorem SI.below (h : SI w A n xs) (hb : Below w.heap.size w w') : SI w' A n xs := Rd.below h hb
theorem SI.drewN (h : SI w A n xs) (k : Nat) : SI (w.drewN k) A n xs := h
theorem SI.alloc (h : SI w A n xs) (o : Obj) : SI (w.alloc o) A n xs := Rd.alloc h o
theorem SI.nil : SI w A 0 [] := Rd.nil
end

/-- Whether two lists are equal, as a value that the walk does not open. -/
def sameI (xs ys : List Int) : Bool := decide (xs = ys)
theorem sameI_len {xs ys : List Int} {n m : Nat} (h : ¬ n = m) (hx : xs.length = n) (hy : ys.length = m) : false = sameI xs ys := by
  unfold sameI; symm; rw [decide_eq_false_iff_not]; rintro rfl; omega
theorem sameI_ne {xs ys : List Int} {n k : Nat} (hk : k < n) (hx : xs.length = n) (hy : ys.length = n) (h : (xs[k]'(by omega) != ys[k]'(by omega)) = true) : false = sameI xs ys := by
  unfold sameI; symm; rw [decide_eq_false_iff_not]; rintro rfl; simp at h
theorem sameI_eq {xs ys : List Int} {n k : Nat} (hk : n ≤ k) (hx : xs.length = n) (hy : ys.length = n) (h : xs.take k = ys.take k) : true = sameI xs ys := by
  rw [List.take_of_length_le (by omega), List.take_of_length_le (by omega)] at h
  unfold sameI; symm; rw [decide_eq_true_iff]; exact h
theorem take_next {xs ys : List Int} {n k : Nat} (hk : k < n) (hx : xs.length = n) (hy : ys.length = n) (h : xs.take k = ys.take k) (h1 : (xs[k]'(by omega) != ys[k]'(by omega)) = false) : xs.take (k + 1) = ys.take (k + 1) := by
  rw [List.take_succ_eq_append_getElem (by omega), List.take_succ_eq_append_getElem (by omega), h]
  simp at h1; rw [h1]
theorem sameI_self (xs : List Int) : sameI xs xs = true := by simp [sameI]
/-- Blocks outside lo .. hi - 1 are as they were; blocks may have come. -/
structure Tch (lo hi : Nat) (w w' : World) : Prop where
  os : w'.os = w.os
  tape : w'.tape = w.tape
  output : w'.output = w.output
  size : w.heap.size ≤ w'.heap.size
  block : ∀ k, k < w.heap.size → (k < lo ∨ hi ≤ k) → w'.heap[k]? = w.heap[k]?
theorem Tch.refl (lo hi : Nat) (w : World) : Tch lo hi w w := ⟨rfl, rfl, rfl, Nat.le_refl _, fun _ _ _ => rfl⟩
theorem Tch.trans {lo hi : Nat} {a b c : World} (h : Tch lo hi a b) (k : Tch lo hi b c) : Tch lo hi a c :=
  ⟨k.os.trans h.os, k.tape.trans h.tape, k.output.trans h.output, Nat.le_trans h.size k.size, fun i h1 h2 => (k.block i (Nat.lt_of_lt_of_le h1 h.size) h2).trans (h.block i h1 h2)⟩
theorem Tch.drewN {lo hi : Nat} {a w : World} (h : Tch lo hi a w) (n : Nat) : Tch lo hi a (w.drewN n) := ⟨h.os, h.tape, h.output, h.size, h.block⟩
theorem Tch.setCell {lo hi : Nat} {a w : World} (h : Tch lo hi a w) {p : Addr} (h1 : lo ≤ p.block) (h2 : p.block < hi) (u : Value) : Tch lo hi a (w.setCell p u) :=
  h.trans ⟨rfl, rfl, rfl, by simp [World.setCell], fun k _ hk => Below.heap_setCell _ _ _ _ (by omega)⟩
theorem Tch.alloc {lo hi : Nat} {a w : World} (h : Tch lo hi a w) (o : Obj) : Tch lo hi a (w.alloc o) :=
  h.trans ⟨rfl, rfl, rfl, by simp, fun k hk _ => Below.heap_alloc _ _ _ hk⟩
theorem Tch.mono {lo hi lo' hi' : Nat} {a w : World} (h : Tch lo hi a w) (h1 : lo' ≤ lo) (h2 : hi ≤ hi') : Tch lo' hi' a w := ⟨h.os, h.tape, h.output, h.size, fun k hk h => h.elim (fun h => by exact ‹Tch lo hi a w›.block k hk (by omega)) (fun h => by exact ‹Tch lo hi a w›.block k hk (by omega))⟩
theorem Tch.below {lo hi B : Nat} {a w : World} (h : Tch lo hi a w) (hB : B ≤ lo) (hB2 : B ≤ a.heap.size) : Below B a w := ⟨h.os, h.tape, h.output, h.size, fun k hk => h.block k (by omega) (by omega)⟩
theorem Tch.of_below {lo hi : Nat} {a w : World} (h : Below a.heap.size a w) : Tch lo hi a w := ⟨h.os, h.tape, h.output, h.size, fun k hk _ => h.block k hk⟩
theorem Own.touch {w w' : World} {A : Option Addr} {n c s lo l h : Nat} {e : TypeId} {cs : List Value} (ho : Own w lo e s A n c cs) (ht : Tch l h w w') (hd : ∀ b, blk A = some b → b < l ∨ h ≤ b) : Own w' lo e s A n c cs :=
  ho.kept fun b hb _ hlt => ht.block b hlt (hd b hb)
theorem Rd.touch {w w' : World} {A : Option Addr} {n s l h : Nat} {cs : List Value} (hr : Rd w s A n cs) (ht : Tch l h w w') (hd : ∀ b, blk A = some b → b < l ∨ h ≤ b) : Rd w' s A n cs :=
  hr.keep fun p hlt hp => World.cell?_of_block (ht.block p.block hlt (hd _ hp.symm))

/-! ### marks -/
def marks (m : Int) (n : Nat) : List Int := (List.range n).map (fun k : Nat => m + (k : Int))
theorem length_marks (m : Int) (n : Nat) : (marks m n).length = n := by simp [marks]
/-- What 'held' gives: the number behind the last mark, or -1. -/
def heldF (m : Int) (xs : List Int) : Int := if xs = marks m xs.length then m + xs.length else -1
theorem heldF_marks (m : Int) (n : Nat) : heldF m (marks m n) = m + n := by simp [heldF, length_marks]
theorem marks_get (m : Int) (n k : Nat) (h : k < (marks m n).length) : (marks m n)[k] = m + k := by simp [marks]
theorem heldF_ne {m : Int} {xs : List Int} {n k : Nat} (hk : k < n) (hx : xs.length = n) (h : (xs[k]'(by omega) != m + k) = true) : -1 = heldF m xs := by
  unfold heldF
  rw [if_neg]
  intro he
  have h2 : xs[k]'(by omega) = (marks m xs.length)[k]'(by rw [length_marks]; omega) := by congr 1
  rw [marks_get] at h2
  simp [h2] at h
theorem heldF_eq {m : Int} {xs : List Int} {n k : Nat} (hk : n ≤ k) (hx : xs.length = n) (h : xs.take k = (marks m n).take k) (hkn : k ≤ n) : m + (k : Int) = heldF m xs := by
  rw [List.take_of_length_le (by omega), List.take_of_length_le (by rw [length_marks]; omega)] at h
  unfold heldF
  rw [if_pos (by rw [hx]; exact h), hx]
  omega
theorem held_next {m : Int} {xs : List Int} {n k : Nat} (hk : k < n) (hx : xs.length = n) (h : xs.take k = (marks m n).take k) (h1 : (xs[k]'(by omega) != m + k) = false) : xs.take (k + 1) = (marks m n).take (k + 1) := by
  rw [List.take_succ_eq_append_getElem (by omega), List.take_succ_eq_append_getElem (by rw [length_marks]; omega), h, marks_get]
  simp at h1; rw [h1]
/-- After k marks. -/
def marked (m : Int) (xs : List Int) (k : Nat) : List Int := marks m k ++ xs.drop k
theorem marked_zero (m : Int) (xs : List Int) : marked m xs 0 = xs := by simp [marked, marks]
theorem marked_end (m : Int) (xs : List Int) : marked m xs xs.length = marks m xs.length := by simp [marked]
theorem length_marked (m : Int) (xs : List Int) (k : Nat) (h : k ≤ xs.length) : (marked m xs k).length = xs.length := by simp [marked, length_marks]; omega
theorem ints_set (xs : List Int) (k : Nat) (x : Int) : (ints xs).set k (.int .i64 x) = ints (xs.set k x) := by simp [ints, List.map_set]
theorem marked_next (m : Int) (xs : List Int) (k : Nat) (h : k < xs.length) : (marked m xs k).set k (m + k) = marked m xs (k + 1) := by
  have e1 : marks m (k + 1) = marks m k ++ [m + (k : Int)] := by simp [marks, List.range_succ]
  unfold marked
  rw [List.set_append_right _ _ (by rw [length_marks]; omega), length_marks, Nat.sub_self, e1, List.drop_eq_getElem_cons h]
  simp only [List.set_cons_zero, List.append_assoc, List.singleton_append]
/-- After k copies into a list of zeros. -/
def copied (xs : List Int) (k : Nat) : List Int := xs.take k ++ List.replicate (xs.length - k) 0
theorem copied_end (xs : List Int) {k : Nat} (h : xs.length ≤ k) : copied xs k = xs := by
  unfold copied
  rw [List.take_of_length_le h, show xs.length - k = 0 from by omega]; simp
theorem length_copied (xs : List Int) (k : Nat) (h : k ≤ xs.length) : (copied xs k).length = xs.length := by simp [copied]; omega
theorem copied_next (xs : List Int) (k : Nat) (h : k < xs.length) : (copied xs k).set k xs[k] = copied xs (k + 1) := by
  unfold copied
  have e1 : (xs.take k).length = k := by simp; omega
  rw [List.set_append_right _ _ (by omega), e1, Nat.sub_self, List.take_succ_eq_append_getElem h, show xs.length - k = (xs.length - (k + 1)) + 1 from by omega, List.replicate_succ]
  simp only [List.set_cons_zero, List.append_assoc, List.singleton_append]
theorem made_ints (n : Nat) (xs : List Int) (h : xs.length = n) : (madeCells (Value.int .i64 0).cells (n * 1)).toList = ints (copied xs 0) := by
  show (madeCells #[Value.int .i64 0] (n * 1)).toList = _
  rw [toList_madeCells_one]
  simp [ints, copied, h]

/-! ### [][]int64 -/
/-- Owned, or empty (then nothing is said). -/
def OwnE (w : World) (lo : Nat) (e : TypeId) (A : Option Addr) (n c : Nat) (xs : List Int) : Prop := (n = 0 ∧ xs = []) ∨ Own w lo e 1 A n c (ints xs)
theorem OwnE.si {w : World} {lo n c : Nat} {e : TypeId} {A : Option Addr} {xs : List Int} (h : OwnE w lo e A n c xs) : SI w A n xs := by
  rcases h with ⟨rfl, rfl⟩ | h
  · exact Rd.nil
  · exact h.rd
theorem OwnE.kept {w w' : World} {lo n c : Nat} {e : TypeId} {A : Option Addr} {xs : List Int} (h : OwnE w lo e A n c xs) (hk : ∀ b, blk A = some b → lo ≤ b → b < w.heap.size → w'.heap[b]? = w.heap[b]?) : OwnE w' lo e A n c xs := by
  rcases h with h | h
  · exact .inl h
  · exact .inr (h.kept hk)
theorem OwnE.below {w w' : World} {lo n c : Nat} {e : TypeId} {A : Option Addr} {xs : List Int} (h : OwnE w lo e A n c xs) (hb : Below w.heap.size w w') : OwnE w' lo e A n c xs := h.kept fun b _ _ hlt => hb.block b hlt
theorem OwnE.touch {w w' : World} {lo n c l hh : Nat} {e : TypeId} {A : Option Addr} {xs : List Int} (h : OwnE w lo e A n c xs) (ht : Tch l hh w w') (hd : ∀ b, blk A = some b → b < l ∨ hh ≤ b) : OwnE w' lo e A n c xs :=
  h.kept fun b hb _ hlt => ht.block b hlt (hd b hb)
theorem Own.blk_ne {w : World} {lo lo' n n' c c' s s' : Nat} {e e' : TypeId} {A A' : Option Addr} {cs cs' : List Value} (h : Own w lo e s A n c cs) (h' : Own w lo' e' s' A' n' c' cs') (hne : e ≠ e') : ∀ b, blk A = some b → blk A' ≠ some b := by
  intro b hb hb'
  rcases h.2 with ⟨rfl, _⟩ | ⟨b1, off, cur, rfl, _, hg, _⟩
  · simp [blk] at hb
  · rcases h'.2 with ⟨rfl, _⟩ | ⟨b2, off', cur', rfl, _, hg', _⟩
    · simp [blk] at hb'
    · simp [blk] at hb hb'
      subst hb; subst hb'
      rw [hg] at hg'
      simp at hg'
      exact hne hg'.2

/-- A row of numbers: its place, its capacity, its numbers. -/
structure Sl where
  A : Option Addr
  c : Nat
  xs : List Int
def Sl.val (t : Sl) : Value := .slice t.A t.xs.length t.c
/-- Two rows that share no block. -/
def Apt (t u : Sl) : Prop := ∀ b, blk t.A = some b → blk u.A ≠ some b

/-- A slice of slices of numbers, read. -/
def SII (w : World) (A : Option Addr) (n : Nat) (ts : List Sl) : Prop := Rd w 1 A n (ts.map Sl.val) ∧ ∀ t ∈ ts, SI w t.A t.xs.length t.xs
/-- A slice of slices of numbers, owned. -/
def OII (w : World) (lo : Nat) (e2 e1 : TypeId) (A : Option Addr) (n c : Nat) (ts : List Sl) : Prop :=
  Own w lo e2 1 A n c (ts.map Sl.val) ∧ (∀ t ∈ ts, Own w lo e1 1 t.A t.xs.length t.c (ints t.xs)) ∧ ts.Pairwise Apt
section
variable {w w' : World} {A : Option Addr} {n c lo : Nat} {e1 e2 : TypeId} {ts : List Sl}
theorem SII.len (h : SII w A n ts) : ts.length = n := by have := h.1.1; simp at this; omega
theorem SII.below (h : SII w A n ts) (hb : Below w.heap.size w w') : SII w' A n ts := ⟨h.1.below hb, fun t ht => (h.2 t ht).below hb⟩
theorem SII.drewN (h : SII w A n ts) (k : Nat) : SII (w.drewN k) A n ts := h
theorem SII.alloc (h : SII w A n ts) (o : Obj) : SII (w.alloc o) A n ts := ⟨h.1.alloc o, fun t ht => (h.2 t ht).alloc o⟩
theorem SII.at_ (h : SII w A n ts) {k : Nat} (hk : k < n) : ∃ b off, A = some ⟨b, off, none⟩ ∧ b < w.heap.size ∧ w.cell? ⟨b, off + k, none⟩ = some (.slice (ts[k]'(by have := h.len; omega)).A (ts[k]'(by have := h.len; omega)).xs.length (ts[k]'(by have := h.len; omega)).c) := by
  have hl := h.len
  obtain ⟨b, off, e, hlt, hc⟩ := h.1.at_ (k := k) (by simp; omega)
  refine ⟨b, off, e, hlt, ?_⟩
  rw [hc]; simp [Sl.val]
theorem SII.row (h : SII w A n ts) {k : Nat} (hk : k < n) : SI w (ts[k]'(by have := h.len; omega)).A (ts[k]'(by have := h.len; omega)).xs.length (ts[k]'(by have := h.len; omega)).xs := h.2 _ (List.getElem_mem _)
theorem SII.pick (h : SII w A n ts) {k : Nat} (hk : k < n) : ∃ t b off, Hid (ts[k]? = some t) ∧ t ∈ ts ∧ A = some ⟨b, off, none⟩ ∧ b < w.heap.size ∧ w.cell? ⟨b, off + k, none⟩ = some (.slice t.A t.xs.length t.c) ∧ SI w t.A t.xs.length t.xs := by
  have hl := h.len
  obtain ⟨b, off, e, hlt, hc⟩ := h.at_ hk
  exact ⟨ts[k]'(by omega), b, off, List.getElem?_eq_getElem (by omega), List.getElem_mem _, e, hlt, hc, h.row hk⟩
theorem OII.sii (h : OII w lo e2 e1 A n c ts) : SII w A n ts := ⟨h.1.rd, fun t ht => (h.2.1 t ht).rd⟩
theorem OII.below (h : OII w lo e2 e1 A n c ts) (hb : Below w.heap.size w w') : OII w' lo e2 e1 A n c ts := ⟨h.1.below hb, fun t ht => (h.2.1 t ht).below hb, h.2.2⟩
theorem OII.far (h : OII w lo e2 e1 A n c ts) {p : Addr} (hp : ∀ b, lo ≤ b → b ≠ p.block) (u : Value) : OII (w.setCell p u) lo e2 e1 A n c ts :=
  ⟨h.1.far (fun e => hp _ (h.1.blk_ge _ e) rfl) u, fun t ht => (h.2.1 t ht).far (fun e => hp _ ((h.2.1 t ht).blk_ge _ e) rfl) u, h.2.2⟩
theorem OII.drewN (h : OII w lo e2 e1 A n c ts) (k : Nat) : OII (w.drewN k) lo e2 e1 A n c ts := h
end
/-- The numbers of all rows. -/
def nums (ts : List Sl) : List (List Int) := ts.map Sl.xs
def total (ts : List Sl) : Nat := (ts.map (fun t => t.xs.length)).sum
def sameII (xs ys : List (List Int)) : Bool := decide (xs = ys)
/-- What szInt64SS leaves after k rows. -/
def szRows (left : Int) : List Nat → Int
  | [] => left
  | n :: r => if left < n then -1 else szRows (left - n) r
theorem szRows_at {z : Int} {ts : List Sl} {t : Sl} {k : Nat} (h : ts[k]? = some t) : szRows z ((ts.drop k).map (fun t => t.xs.length)) = if z < (t.xs.length : Int) then -1 else szRows (z - (t.xs.length : Int)) ((ts.drop (k + 1)).map (fun t => t.xs.length)) := by
  obtain ⟨hk, rfl⟩ := List.getElem?_eq_some_iff.1 h
  rw [List.drop_eq_getElem_cons hk, List.map_cons, szRows]
theorem sameII_ne {ts us : List Sl} {t u : Sl} {k : Nat} (ht : ts[k]? = some t) (hu : us[k]? = some u) (h : (!sameI t.xs u.xs) = true) : false = sameII (nums ts) (nums us) := by
  unfold sameII; symm; rw [decide_eq_false_iff_not]; intro he
  have := congrArg (·[k]?) he
  simp [nums, ht, hu] at this
  simp [this, sameI] at h
theorem sameII_eq {ts us : List Sl} {n k : Nat} (hk : n ≤ k) (hx : ts.length = n) (hy : us.length = n) (h : (nums ts).take k = (nums us).take k) : true = sameII (nums ts) (nums us) := by
  rw [List.take_of_length_le (by simp [nums]; omega), List.take_of_length_le (by simp [nums]; omega)] at h
  unfold sameII; symm; rw [decide_eq_true_iff]; exact h
theorem nums_next {ts us : List Sl} {t u : Sl} {k : Nat} (ht : ts[k]? = some t) (hu : us[k]? = some u) (h : (nums ts).take k = (nums us).take k) (h1 : (!sameI t.xs u.xs) = false) : (nums ts).take (k + 1) = (nums us).take (k + 1) := by
  obtain ⟨hk, rfl⟩ := List.getElem?_eq_some_iff.1 ht
  obtain ⟨hk', rfl⟩ := List.getElem?_eq_some_iff.1 hu
  rw [List.take_succ_eq_append_getElem (by simpa [nums] using hk), List.take_succ_eq_append_getElem (by simpa [nums] using hk'), h]
  simp [sameI] at h1
  simp [nums, h1]
theorem quiet_add {P : Program} {f : FuncId} {args : Array Value} {w : World} {a n : Nat} {v : Value}
    (h : Calls P f args (w.drewN (a + n)) fun e w' => e = .returned v ∧ ∃ m, w' = (w.drewN (a + n)).drewN m) :
    Calls P f args (w.drewN (a + n)) fun e w'' => e = .returned v ∧ ∃ m, w'' = w.drewN (a + m) :=
  h.mono fun _ _ ⟨he, m, hm⟩ => ⟨he, n + m, by rw [hm, World.drewN_drewN, Nat.add_assoc]⟩
theorem quiet_add_left {P : Program} {f : FuncId} {args : Array Value} {w : World} {a n : Nat} {v : Value}
    (h : Calls P f args (w.drewN (a + n)) fun e w' => e = .returned v ∧ w.drewN (a + n) = w') :
    Calls P f args (w.drewN (a + n)) fun e w'' => e = .returned v ∧ ∃ m, w'' = w.drewN (a + m) :=
  h.mono fun _ _ ⟨he, hm⟩ => ⟨he, n, hm.symm⟩
theorem quiet_left {P : Program} {f : FuncId} {args : Array Value} {w : World} {n : Nat} {v : Value}
    (h : Calls P f args (w.drewN n) fun e w' => e = .returned v ∧ w.drewN n = w') : Calls P f args (w.drewN n) fun e w'' => e = .returned v ∧ ∃ m, w'' = w.drewN m :=
  h.mono fun _ _ ⟨he, hm⟩ => ⟨he, n, hm.symm⟩
theorem quiet_1 {P : Program} {f : FuncId} {args : Array Value} {w : World} {n : Nat} {v : Value}
    (h : Calls P f args (w.drewN n) fun e w' => e = .returned v ∧ ∃ m, w' = (w.drewN n).drewN m) : Calls P f args (w.drewN n) fun e w'' => e = .returned v ∧ ∃ m, w'' = w.drewN m :=
  h.mono fun _ _ ⟨he, m, hm⟩ => ⟨he, n + m, by rw [hm, World.drewN_drewN]⟩
/-- After k rows of a copy, the rest nil. -/
def halfRows (us : List Sl) (r : Nat) : List Value := us.map Sl.val ++ List.replicate r (.slice none 0 0)
theorem halfRows_len (us : List Sl) (r : Nat) : (halfRows us r).length = us.length + r := by simp [halfRows]
theorem halfRows_next (us : List Sl) (r : Nat) (u : Sl) : (halfRows us (r + 1)).set us.length u.val = halfRows (us ++ [u]) r := by
  unfold halfRows
  rw [List.set_append_right _ _ (by simp), List.replicate_succ]
  simp
theorem halfRows_end (us : List Sl) : halfRows us 0 = us.map Sl.val := by simp [halfRows]
theorem made_rows (n : Nat) : (madeCells (Value.slice none 0 0).cells (n * 1)).toList = halfRows [] n := by
  show (madeCells #[Value.slice none 0 0] (n * 1)).toList = _
  rw [toList_madeCells_one]
  simp [halfRows]
theorem nums_append (us : List Sl) (u : Sl) : nums (us ++ [u]) = nums us ++ [u.xs] := by simp [nums]
theorem nums_take_next {ts us : List Sl} {t u : Sl} {k : Nat} (ht : ts[k]? = some t) (h : nums us = (nums ts).take k) (hu : u.xs = t.xs) : nums (us ++ [u]) = (nums ts).take (k + 1) := by
  obtain ⟨hk, rfl⟩ := List.getElem?_eq_some_iff.1 ht
  rw [nums_append, h, List.take_succ_eq_append_getElem (by simpa [nums] using hk), hu]
  simp [nums]
theorem Apt.snoc {us : List Sl} {u : Sl} (h : us.Pairwise Apt) (hu : ∀ t ∈ us, Apt t u) : (us ++ [u]).Pairwise Apt := by
  rw [List.pairwise_append]
  exact ⟨h, by simp, fun a ha b hb => by simp at hb; subst hb; exact hu a ha⟩
/-- A cell of a box that was laid just ahead of a call. -/
theorem box_at {w w2 : World} {cs : Array Value} {e : TypeId} (hb : Below (w.alloc (.cells cs e)).heap.size (w.alloc (.cells cs e)) w2) (i : Nat) : w2.cell? ⟨w.heap.size, i, none⟩ = cs[i]? := by
  rw [hb.cell (p := ⟨w.heap.size, i, none⟩) (by simp)]
  exact cell_of_row _ w.heap.size i cs e (0, 0) (heap_alloc_new w _)
theorem box_blk {w w2 : World} {cs : Array Value} {e : TypeId} (hb : Below (w.alloc (.cells cs e)).heap.size (w.alloc (.cells cs e)) w2) : w2.heap[w.heap.size]? = some (.cells cs e (0, 0)) := by
  rw [hb.block w.heap.size (by simp)]
  exact heap_alloc_new w _
theorem below_box {w w2 : World} {o : Obj} (hb : Below (w.alloc o).heap.size (w.alloc o) w2) : Below w.heap.size w w2 :=
  ((Below.refl _ _).alloc (Nat.le_refl _) _).trans (hb.mono (by simp))
/-- A slice literal that was laid just now: its cells, the capacity its length. -/
theorem Own.lit (w : World) (cs : Array Value) (e : TypeId) (n s lo : Nat) (hs : cs.size = n * s) (hn : n ≤ maxLen) (hlo : lo ≤ w.heap.size) : Own (w.alloc (.cells cs e)) lo e s (some ⟨w.heap.size, 0, none⟩) n n cs.toList := by
  refine ⟨by simpa using hs, .inr ⟨w.heap.size, 0, cs, rfl, hlo, heap_alloc_new w _, Nat.le_refl _, hn, by omega, fun k hk => ?_⟩⟩
  simp at hk
  simp [hk]
theorem Own.lit0 (w : World) (e : TypeId) (s : Nat) : Own (w.alloc (.cells #[] e)) w.heap.size e s (some ⟨w.heap.size, 0, none⟩) 0 0 [] := Own.lit w #[] e 0 s w.heap.size (by simp) (by simp [maxLen]) (Nat.le_refl _)
/-- From 'grownBy' over an owned slice's block to 'Below'. -/
theorem Own.below_of {w0 w w2 : World} {lo n c s : Nat} {e : TypeId} {A : Option Addr} {cs : List Value} (h : Own w lo e s A n c cs) (hb : Below lo w0 w) (hg : w.grownBy w2 (blk A)) (hlo : lo ≤ w.heap.size) : Below lo w0 w2 :=
  hb.grown hg hlo (fun k hk => h.blk_ge k hk)
/-- 's[k:]' as the model writes it. -/
theorem Own.from_ {w : World} {lo n c k : Nat} {e : TypeId} {A : Option Addr} {cs : List Value} (h : Own w lo e 1 A n c cs) (hk : k ≤ n) : Own w lo e 1 (if c = k then A else A.map (fun x => x.add k)) (n - k) (c - k) (cs.drop k) := by
  have := h.cut (i := k) (j := n) hk (Nat.le_refl _) (A' := if c = k then A else A.map (fun x => x.add k)) (fun h0 => by subst h0; split <;> rfl) (fun b off hA => by
    subst hA
    by_cases hc : c = k
    · exact .inr ⟨hc.symm, by rw [if_pos hc]⟩
    · exact .inl (by rw [if_neg hc]; simp [add_lit]))
  rwa [List.take_of_length_le (by have := h.1; omega)] at this
theorem Rd.from_ {w : World} {n c k : Nat} {A : Option Addr} {cs : List Value} (h : Rd w 1 A n cs) (hk : k ≤ n) (hc : n ≤ c) : Rd w 1 (if c = k then A else A.map (fun x => x.add k)) (n - k) (cs.drop k) := by
  have := h.cut (i := k) (j := n) hk (Nat.le_refl _) (A' := if c = k then A else A.map (fun x => x.add k)) (fun h0 b off hA => by
    subst hA
    rw [if_neg (by omega)]; simp [add_lit])
  rwa [List.take_of_length_le (by have := h.1; omega)] at this
/-! ### A block that is known whole -/
def Blk (w : World) (g : Nat) (t : TypeId) (cs : Array Value) : Prop := w.heap[g]? = some (.cells cs t (0, 0))
section
variable {w w' : World} {g : Nat} {t : TypeId} {cs : Array Value}
theorem Blk.lt (h : Blk w g t cs) : g < w.heap.size := (Array.getElem?_eq_some_iff.1 h).1
theorem Blk.cell (h : Blk w g t cs) (i : Nat) : w.cell? ⟨g, i, none⟩ = cs[i]? := cell_of_row w g i cs t (0, 0) h
theorem Blk.frozen (h : Blk w g t cs) (i : Nat) : w.frozen? ⟨g, i, none⟩ = false := by unfold Blk at h; simp [World.frozen?, h]
theorem Blk.new (w : World) (t : TypeId) (cs : Array Value) : Blk (w.alloc (.cells cs t)) w.heap.size t cs := heap_alloc_new w _
theorem Blk.drewN (h : Blk w g t cs) (n : Nat) : Blk (w.drewN n) g t cs := h
theorem Blk.alloc (h : Blk w g t cs) (o : Obj) : Blk (w.alloc o) g t cs := (Below.heap_alloc w o g h.lt).trans h
theorem Blk.set_ (h : Blk w g t cs) (i : Nat) (u : Value) : Blk (w.setCell ⟨g, i, none⟩ u) g t (cs.setIfInBounds i u) := heap_setCell_same w g i cs t u h
theorem Blk.far (h : Blk w g t cs) {p : Addr} (hp : g ≠ p.block) (u : Value) : Blk (w.setCell p u) g t cs := (Below.heap_setCell w p u g hp).trans h
theorem Blk.below {B : Nat} (h : Blk w g t cs) (hb : Below B w w') (hg : g < B) : Blk w' g t cs := (hb.block g hg).trans h
theorem Blk.below' (h : Blk w g t cs) (hb : Below w.heap.size w w') : Blk w' g t cs := h.below hb h.lt
end
/-! ### Marks on copies whose contents no longer matter -/
/-- Cells that may be written: n elements of s cells, in a block of element type e between lo and hi. -/
def Mk (w : World) (lo hi : Nat) (e : TypeId) (s : Nat) (A : Option Addr) (n : Nat) : Prop :=
  n = 0 ∨ ∃ b off cur, A = some ⟨b, off, none⟩ ∧ lo ≤ b ∧ b < hi ∧ w.heap[b]? = some (.cells cur e (0, 0)) ∧ off + n * s ≤ cur.size
/-- Blocks are as they were, but for cells of blocks between lo and hi whose element type is in T; blocks may have come. -/
structure MkF (T : List TypeId) (lo hi : Nat) (w w' : World) : Prop where
  os : w'.os = w.os
  tape : w'.tape = w.tape
  output : w'.output = w.output
  size : w.heap.size ≤ w'.heap.size
  block : ∀ k, k < w.heap.size → w'.heap[k]? = w.heap[k]? ∨ (lo ≤ k ∧ k < hi ∧ ∃ e cur cur', e ∈ T ∧ w.heap[k]? = some (.cells cur e (0, 0)) ∧ w'.heap[k]? = some (.cells cur' e (0, 0)) ∧ cur'.size = cur.size)
theorem MkF.refl (T : List TypeId) (lo hi : Nat) (w : World) : MkF T lo hi w w := ⟨rfl, rfl, rfl, Nat.le_refl _, fun _ _ => .inl rfl⟩
theorem MkF.trans {T : List TypeId} {lo hi : Nat} {a b c : World} (h : MkF T lo hi a b) (k : MkF T lo hi b c) : MkF T lo hi a c := by
  refine ⟨k.os.trans h.os, k.tape.trans h.tape, k.output.trans h.output, Nat.le_trans h.size k.size, fun i hi => ?_⟩
  rcases h.block i hi with h1 | ⟨h1, h2, e, cur, cur', h3, h4, h5, h6⟩
  · rcases k.block i (Nat.lt_of_lt_of_le hi h.size) with k1 | ⟨k1, k2, e', c1, c2, k3, k4, k5, k6⟩
    · exact .inl (k1.trans h1)
    · exact .inr ⟨k1, k2, e', c1, c2, k3, h1.symm.trans k4, k5, k6⟩
  · rcases k.block i (Nat.lt_of_lt_of_le hi h.size) with k1 | ⟨k1, k2, e', c1, c2, k3, k4, k5, k6⟩
    · exact .inr ⟨h1, h2, e, cur, cur', h3, h4, k1.trans h5, h6⟩
    · have hh := h5.symm.trans k4
      simp at hh
      obtain ⟨rfl, rfl⟩ := hh
      exact .inr ⟨h1, h2, e, cur, c2, h3, h4, k5, k6.trans h6⟩
theorem MkF.drewN {T : List TypeId} {lo hi : Nat} {a w : World} (h : MkF T lo hi a w) (n : Nat) : MkF T lo hi a (w.drewN n) := ⟨h.os, h.tape, h.output, h.size, h.block⟩
theorem MkF.alloc {T : List TypeId} {lo hi : Nat} {a w : World} (h : MkF T lo hi a w) (o : Obj) : MkF T lo hi a (w.alloc o) :=
  h.trans ⟨rfl, rfl, rfl, by simp, fun k hk => .inl (Below.heap_alloc _ _ _ hk)⟩
theorem MkF.setCell {T : List TypeId} {lo hi : Nat} {a w : World} (h : MkF T lo hi a w) {b i : Nat} {cur : Array Value} {e : TypeId} (hb : w.heap[b]? = some (.cells cur e (0, 0))) (he : e ∈ T) (h1 : lo ≤ b) (h2 : b < hi) (u : Value) : MkF T lo hi a (w.setCell ⟨b, i, none⟩ u) := by
  refine h.trans ⟨rfl, rfl, rfl, by simp [World.setCell], fun k _ => ?_⟩
  by_cases hk : k = b
  · subst hk
    exact .inr ⟨h1, h2, e, cur, cur.setIfInBounds i u, he, hb, heap_setCell_same w k i cur e u hb, by simp⟩
  · exact .inl (Below.heap_setCell _ _ _ _ hk)
theorem MkF.below {T : List TypeId} {lo hi B : Nat} {a w : World} (h : MkF T lo hi a w) (hB : B ≤ lo) (hB2 : B ≤ a.heap.size) : Below B a w :=
  ⟨h.os, h.tape, h.output, h.size, fun k hk => by
    rcases h.block k (by omega) with h1 | ⟨h1, _⟩
    · exact h1
    · omega⟩
theorem MkF.of_below {T : List TypeId} {lo hi : Nat} {a w : World} (h : Below a.heap.size a w) : MkF T lo hi a w := ⟨h.os, h.tape, h.output, h.size, fun k hk => .inl (h.block k hk)⟩
theorem MkF.mono {T T' : List TypeId} {lo hi : Nat} {a w : World} (h : MkF T lo hi a w) (hT : ∀ e ∈ T, e ∈ T') : MkF T' lo hi a w :=
  ⟨h.os, h.tape, h.output, h.size, fun k hk => by
    rcases h.block k hk with h1 | ⟨h1, h2, e, cur, cur', h3, r⟩
    · exact .inl h1
    · exact .inr ⟨h1, h2, e, cur, cur', hT e h3, r⟩⟩
theorem MkF.far {T : List TypeId} {lo hi : Nat} {a w : World} (h : MkF T lo hi a w) {k : Nat} (hk : k < a.heap.size) (hf : k < lo ∨ hi ≤ k) : w.heap[k]? = a.heap[k]? := by
  rcases h.block k hk with h1 | ⟨h1, h2, _⟩
  · exact h1
  · omega
theorem Mk.mkf {T : List TypeId} {l h lo hi n s : Nat} {e : TypeId} {A : Option Addr} {w w' : World} (hm : Mk w lo hi e s A n) (hf : MkF T l h w w') : Mk w' lo hi e s A n := by
  rcases hm with h0 | ⟨b, off, cur, hA, h1, h2, h3, h4⟩
  · exact .inl h0
  · rcases hf.block b (Array.getElem?_eq_some_iff.1 h3).1 with k1 | ⟨_, _, e', c1, c2, _, k4, k5, k6⟩
    · exact .inr ⟨b, off, cur, hA, h1, h2, k1.trans h3, h4⟩
    · have hh := h3.symm.trans k4
      simp at hh
      obtain ⟨rfl, rfl⟩ := hh
      exact .inr ⟨b, off, c2, hA, h1, h2, k5, by omega⟩
theorem Mk.below {lo hi n s : Nat} {e : TypeId} {A : Option Addr} {w w' : World} (hm : Mk w lo hi e s A n) (hb : Below w.heap.size w w') : Mk w' lo hi e s A n := hm.mkf (T := []) (l := 0) (h := 0) (MkF.of_below hb)
theorem Own.mk {w : World} {lo hi n c s : Nat} {e : TypeId} {A : Option Addr} {cs : List Value} (h : Own w lo e s A n c cs) (hh : ∀ b, blk A = some b → b < hi) : Mk w lo hi e s A n := by
  rcases h.2 with ⟨_, h1, _⟩ | ⟨b, off, cur, rfl, h1, h2, h3, h4, h5, _⟩
  · exact .inl h1
  · refine .inr ⟨b, off, cur, rfl, h1, hh b rfl, h2, ?_⟩
    have := Nat.mul_le_mul_right s h3
    omega
theorem Own.mkf {T : List TypeId} {w w' : World} {l h lo n c s : Nat} {e : TypeId} {A : Option Addr} {cs : List Value} (ho : Own w lo e s A n c cs) (hf : MkF T l h w w') (he : e ∉ T) : Own w' lo e s A n c cs := by
  refine ⟨ho.1, ?_⟩
  rcases ho.2 with h1 | ⟨b, off, cur, hA, hb, hg, r⟩
  · exact .inl h1
  · refine .inr ⟨b, off, cur, hA, hb, ?_, r⟩
    rcases hf.block b (Array.getElem?_eq_some_iff.1 hg).1 with k1 | ⟨_, _, e', c1, c2, k3, k4, _⟩
    · exact k1.trans hg
    · have hh := hg.symm.trans k4
      simp at hh
      exact absurd (hh.2 ▸ k3) he
theorem Own.mkf_far {T : List TypeId} {w w' : World} {l h lo n c s : Nat} {e : TypeId} {A : Option Addr} {cs : List Value} (ho : Own w lo e s A n c cs) (hf : MkF T l h w w') (hd : ∀ b, blk A = some b → b < l ∨ h ≤ b) : Own w' lo e s A n c cs :=
  ho.kept fun b hb _ hlt => hf.far hlt (hd b hb)
theorem Rd.mkf_far {T : List TypeId} {w w' : World} {l h n s : Nat} {A : Option Addr} {cs : List Value} (hr : Rd w s A n cs) (hf : MkF T l h w w') (hd : ∀ b, blk A = some b → b < l ∨ h ≤ b) : Rd w' s A n cs :=
  hr.keep fun _p hlt hp => World.cell?_of_block (hf.far hlt (hd _ hp.symm))
/-- The place of a cell that may be written. -/
theorem Mk.at_ {lo hi n s k : Nat} {e : TypeId} {A : Option Addr} {w : World} (h : Mk w lo hi e s A n) (hk : k < n * s) : ∃ b off cur v, A = some ⟨b, off, none⟩ ∧ lo ≤ b ∧ b < hi ∧ w.heap[b]? = some (.cells cur e (0, 0)) ∧ w.cell? ⟨b, off + k, none⟩ = some v ∧ w.frozen? ⟨b, off + k, none⟩ = false := by
  rcases h with h0 | ⟨b, off, cur, hA, h1, h2, h3, h4⟩
  · subst h0; simp at hk
  · exact ⟨b, off, cur, cur[off + k]'(by omega), hA, h1, h2, h3, by rw [cell_of_row w b (off + k) cur e (0, 0) h3]; simp, by simp [World.frozen?, h3]⟩
/-- A slice of slices of numbers that may be marked. -/
def MkII (w : World) (lo hi : Nat) (e2 e1 : TypeId) (A : Option Addr) (n c : Nat) (ts : List Sl) : Prop := Own w lo e2 1 A n c (ts.map Sl.val) ∧ ∀ t ∈ ts, Mk w lo hi e1 1 t.A t.xs.length
theorem MkII.mkf {T : List TypeId} {l h lo hi n c : Nat} {e2 e1 : TypeId} {A : Option Addr} {ts : List Sl} {w w' : World} (hm : MkII w lo hi e2 e1 A n c ts) (hf : MkF T l h w w') (he : e2 ∉ T) : MkII w' lo hi e2 e1 A n c ts :=
  ⟨hm.1.mkf hf he, fun t ht => (hm.2 t ht).mkf hf⟩
theorem MkII.below {lo hi n c : Nat} {e2 e1 : TypeId} {A : Option Addr} {ts : List Sl} {w w' : World} (hm : MkII w lo hi e2 e1 A n c ts) (hb : Below w.heap.size w w') : MkII w' lo hi e2 e1 A n c ts :=
  ⟨hm.1.below hb, fun t ht => (hm.2 t ht).below hb⟩
theorem OII.mk {w : World} {lo hi n c : Nat} {e2 e1 : TypeId} {A : Option Addr} {ts : List Sl} (h : OII w lo e2 e1 A n c ts) (hh : w.heap.size ≤ hi) : MkII w lo hi e2 e1 A n c ts :=
  ⟨h.1, fun t ht => (h.2.1 t ht).mk (fun b hb => by have := (h.2.1 t ht).blk_lt b hb; omega)⟩
theorem Own.mk' {w : World} {lo hi n c s : Nat} {e : TypeId} {A : Option Addr} {cs : List Value} (h : Own w lo e s A n c cs) (hh : w.heap.size ≤ hi) : Mk w lo hi e s A n := h.mk (fun b hb => by have := h.blk_lt b hb; omega)
theorem Blk.mkf {T : List TypeId} {w w' : World} {g l h : Nat} {t : TypeId} {cs : Array Value} (hb : Blk w g t cs) (hf : MkF T l h w w') (he : t ∉ T) : Blk w' g t cs := by
  rcases hf.block g hb.lt with k1 | ⟨_, _, e', c1, c2, k3, k4, _⟩
  · exact k1.trans hb
  · have hh := Eq.trans (Eq.symm hb) k4
    simp at hh
    exact absurd (hh.2 ▸ k3) he
theorem Blk.touch {w w' : World} {g l h : Nat} {t : TypeId} {cs : Array Value} (hb : Blk w g t cs) (ht : Tch l h w w') (hd : g < l ∨ h ≤ g) : Blk w' g t cs := (ht.block g hb.lt hd).trans hb
end Go.Proofs.Ytfheepjfpgiaoaa
