/-
  append to a slice that is full: all that was there stays.
-/
import Derived.Test.YtfheepjfpgiaoaaWords
namespace Go.Proofs.Ytfheepjfpgiaoaa
open Go.RowKit

section
variable {P : Program} {t e : TypeId} {s bytes : Nat} {z : Value}

theorem run_append_full (E : Elem P t e s bytes z) (w : World) (ty : TypeId) {lo : Nat} {A : Option Addr} {n : Nat} {xs : List Value} (h : Own w lo e s A n n xs)
    {A' : Option Addr} {m c' : Nat} {news : List Value} (hr : Rd w s A' m news) (h1 : ∀ u ∈ news, u.oneCell' = true) (hb : (n + m) * bytes ≤ 140737488355328) (hm : n + m ≤ maxLen) (hlo : lo ≤ w.heap.size) :
    ∃ A2 c2 w2, (Builtin.append_ #[t, t] ty #[.slice A n n, .slice A' m c']).run P w = .ok (.slice A2 (n + m) c2) w2 ∧ Own w2 lo e s A2 (n + m) c2 (xs ++ news) ∧ Below w.heap.size w w2 := by
  obtain ⟨i, hi, hz, hsz, hby⟩ := info_parts E.info
  have ht := E.under
  subst hsz
  subst hby
  have hcap : ∀ old, n + m ≤ grownCap w (n + m) old e ∧ grownCap w (n + m) old e ≤ maxLen := fun old => ⟨grownCap_ge w (n + m) old e, grownCap_le_maxLen w (n + m) old e hm⟩
  have hm' : ((n + m : Nat) : Int) ≤ 9223372036854775807 := by have := hm; simp only [maxLen] at this; omega
  have hlen : (xs ++ news).length = (n + m) * i.size := by rw [List.length_append, h.1, hr.1, Nat.add_mul]
  have made : ∀ old, Own (w.drew.alloc (.cells (xs.toArray ++ news.toArray ++ Builtin.zeroCells z.cells (grownCap w (n + m) old e - (n + m))) e)) lo e i.size (some ⟨w.heap.size, 0, none⟩) (n + m) (grownCap w (n + m) old e) (xs ++ news) := by
    intro old
    refine ⟨hlen, .inr ⟨w.heap.size, 0, _, rfl, hlo, heap_alloc_new w.drew _, (hcap old).1, (hcap old).2, ?_, fun k hk => ?_⟩⟩
    · have h1 := h.1
      have h2 := hr.1
      have e1 : grownCap w (n + m) old e * i.size = (n + m) * i.size + (grownCap w (n + m) old e - (n + m)) * i.size := by rw [← Nat.add_mul]; congr 1; have := (hcap old).1; omega
      simp only [Array.size_append, List.size_toArray, size_zeroCells, E.cells, Nat.zero_add]
      rw [e1, Nat.add_mul]; omega
    · rw [Nat.zero_add, Array.getElem?_append_left (by simpa using hk)]
      simp only [List.append_toArray, List.getElem?_toArray]
      rw [List.getElem?_eq_getElem hk]
  have grown : ∀ (o : Obj), Below w.heap.size w (w.drew.alloc o) := fun o => (below_drewN (Below.refl _ _) 1).alloc (by simp) _
  rcases A' with _ | ad
  · have hn0 : news = [] := by
      rcases Nat.eq_zero_or_pos news.length with h0 | h0
      · exact List.eq_nil_of_length_eq_zero h0
      · obtain ⟨_, _, he, _⟩ := hr.2 h0; cases he
    subst hn0
    have hm0 : m = 0 := by
      have h0 := hr.1
      simp only [List.length_nil] at h0
      rcases Nat.eq_zero_or_pos m with h2 | h2
      · exact h2
      · have h3 := Nat.mul_pos h2 E.pos
        omega
    subst hm0
    refine ⟨A, n, w, ?_, by simpa using h, Below.refl _ _⟩
    have hle := h.le
    cases A <;> simp [Builtin.append_, run_underlying ht, sizeOf, typeInfo, hi, Builtin.lenOf, Builtin.firstCells, storeCells]
  · have hnews := hr.news (ad := ad) rfl
    by_cases hroom : n + m ≤ n
    · have hm0 : m = 0 := by omega
      subst hm0
      have hn0 : news = [] := List.eq_nil_of_length_eq_zero (by have := hr.1; simpa using this)
      subst hn0
      rcases h.2 with ⟨hA, hn0, hc0⟩ | ⟨b, off, cur, hA, hb0, hg, hnc, hcm, hfit, hc⟩
      · subst hn0; subst hA
        refine ⟨none, 0, w, ?_, by simpa using h, Below.refl _ _⟩
        simp [Builtin.append_, run_underlying ht, sizeOf, typeInfo, hi, Builtin.lenOf, Builtin.firstCells, loadCells, loadCellsFrom]
      · subst hA
        have hf := run_firstCells_some (P := P) w i.size 0 ad 0 c' [] hr.1 hnews
        have hfit2 : off + n * i.size + 0 + ([] : List Value).length ≤ cur.size := by simp; omega
        have hst := run_storeCells_at P b (off + n * i.size) e [] 0 cur w hg hfit2 h1
        simp only [Nat.add_zero] at hst
        have hnew : (cur.toList.take (off + n * i.size) ++ [] ++ cur.toList.drop (off + n * i.size + ([] : List Value).length)).toArray = cur := by simp
        rw [hnew] at hst
        have hsame : (w.setRow b cur).heap[b]? = some (.cells cur e (0, 0)) := setRow_heap w b cur _ e _ hg
        have hz : Below w.heap.size w (w.setRow b cur) := ⟨rfl, rfl, rfl, by simp, fun k hk => by
          by_cases hkb : k = b
          · rw [hkb, hsame, hg]
          · exact setRow_other w b k _ hkb⟩
        refine ⟨some ⟨b, off, none⟩, n, w.setRow b cur, ?_, by simpa using h.below hz, hz⟩
        simp [Builtin.append_, run_underlying ht, sizeOf, typeInfo, hi, Builtin.lenOf, hf, add_lit, hst]
    · have hr2 : (Builtin.append_ #[t, t] ty #[.slice A n n, .slice (some ad) m c']).run P w = .ok (.slice (some ⟨w.heap.size, 0, none⟩) (n + m) (grownCap w (n + m) n e)) (w.drew.alloc (.cells (xs.toArray ++ news.toArray ++ Builtin.zeroCells z.cells (grownCap w (n + m) n e - (n + m))) e)) := by
        rcases h.2 with ⟨hA, hn0, hc0⟩ | ⟨b, off, cur, hA, hb0, hg, hnc, hcm, hfit, hc⟩
        · subst hA; subst hn0
          have hx : xs = [] := List.eq_nil_of_length_eq_zero (by have := h.1; simpa using this)
          subst hx
          have := run_append_nil (P := P) w t ty e i z ht hi hz ad m c' news hr.1 hnews (by omega) (by omega) (by have := hb; simp only [Nat.zero_add] at this; omega)
          simpa using this
        · subst hA
          exact run_append_grow (P := P) w t ty e i z ht hi hz ⟨b, off, none⟩ n n xs h.1 (h.rd.news rfl) ad m c' news hr.1 hnews (by omega) hm' (growslice_fits (by omega) hb)
      exact ⟨_, _, _, hr2, made n, grown _⟩

theorem wp_append_full {o : Oper} {a : Act} {K : Act → World → Prop} {Q : Exit → Act → World → Prop} (sl x : Operand) (ho : o.op = .call { callee := .builtin .append, args := #[sl, x], argTypes := #[t, t] })
    (E : Elem P t e s bytes z) {w : World} {lo : Nat} {A : Option Addr} {n : Nat} {xs : List Value} (hs : a.eval sl = .slice A n n) (h : Own w lo e s A n n xs)
    {A' : Option Addr} {m c' : Nat} {news : List Value} (hx : a.eval x = .slice A' m c') (hr : Rd w s A' m news) (h1 : ∀ u ∈ news, u.oneCell' = true) (hb : (n + m) * bytes ≤ 140737488355328) (hm : n + m ≤ maxLen) (hlo : lo ≤ w.heap.size)
    (hK : ∀ A2 c2 w2, Own w2 lo e s A2 (n + m) c2 (xs ++ news) → Below w.heap.size w w2 → K (a.put o.dst (.slice A2 (n + m) c2)) w2) : o.wp P a w K Q := by
  obtain ⟨A2, c2, w2, hrun, h2, h3⟩ := run_append_full E w o.type h hr (c' := c') h1 hb hm hlo
  unfold Oper.wp execOp
  simp only [ho, resolve, invoke, builtin, Sem.run_bind, Sem.run_pure, Result.andThen_ok, List.map_toArray, List.map_cons, List.map_nil, hs, hx, hrun]
  exact hK A2 c2 w2 h2 h3
end
end Go.Proofs.Ytfheepjfpgiaoaa
