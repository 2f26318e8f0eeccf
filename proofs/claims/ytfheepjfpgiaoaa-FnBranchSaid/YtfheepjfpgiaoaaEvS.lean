/-
  Contract of the reference's l22Eval.
-/
import Derived.Test.YtfheepjfpgiaoaaEsI
import Derived.Test.YtfheepjfpgiaoaaEvP
import Derived.Test.YtfheepjfpgiaoaaHelpBoS
namespace Go.Proofs.Ytfheepjfpgiaoaa
open Go.RowKit

theorem Own.ty {w w' : World} {lo n c s : Nat} {e : TypeId} {A : Option Addr} {cs : List Value} (h : Own w lo e s A n c cs) (k : ∀ b cs, Blk w b e cs → Blk w' b e cs) : Own w' lo e s A n c cs := by
  refine ⟨h.1, ?_⟩
  rcases h.2 with h1 | ⟨b, off, cur, hA, hb, hg, r⟩
  · exact .inl h1
  · exact .inr ⟨b, off, cur, hA, hb, k b cur hg, r⟩
/-- Rows of nodes are as they were. -/
def KB (w w' : World) : Prop := ∀ b cs, Blk w b 4 cs → Blk w' b 4 cs
theorem KB.below {w w' : World} (z : Below w.heap.size w w') : KB w w' := fun _ _ h => h.below' z
theorem KB.trans {a b c : World} (h : KB a b) (k : KB b c) : KB a c := fun x cs hb => k x cs (h x cs hb)
theorem KB.grown {w w2 : World} {lo n c s : Nat} {e : TypeId} {A : Option Addr} {cs : List Value} (h : Own w lo e s A n c cs) (hg : w.grownBy w2 (blk A)) (he : 4 ≠ e) : KB w w2 := fun _ _ x => x.grown h hg he
/-- A row that reads as a tree. -/
def RowB (w : World) (t : Tr) (u : Bl) : Prop := u.xs = t.enc ∧ Own w 0 4 1 u.A u.xs.length u.c (bools u.xs)
theorem RowB.kb {w w' : World} {t : Tr} {u : Bl} (h : RowB w t u) (k : KB w w') : RowB w' t u := ⟨h.1, h.2.ty k⟩
theorem RowB.sb {w : World} {t : Tr} {u : Bl} (h : RowB w t u) : SB w u.A t.nodes t.enc := by
  have h1 := h.2.rd
  rw [h.1, enc_len] at h1
  exact h1
theorem RowB.le {w : World} {t : Tr} {u : Bl} (h : RowB w t u) : t.nodes ≤ u.c := by have h1 := h.2.le; rw [h.1, enc_len] at h1; exact h1
/-- Trees in rows: read. -/
def TRd (w : World) (A : Option Addr) (ts : List Tr) : Prop := ∃ us : List Bl, us.length = ts.length ∧ Rd w 1 A ts.length (us.map Bl.val) ∧ ∀ (k : Nat) (t : Tr), ts[k]? = some t → ∃ u, us[k]? = some u ∧ RowB w t u
/-- Trees in rows: the spine owned. -/
def TOw (w : World) (lo : Nat) (A : Option Addr) (c : Nat) (ts : List Tr) : Prop := ∃ us : List Bl, us.length = ts.length ∧ Own w lo 43 1 A ts.length c (us.map Bl.val) ∧ ∀ (k : Nat) (t : Tr), ts[k]? = some t → ∃ u, us[k]? = some u ∧ RowB w t u
theorem TRd.below {w w' : World} {A : Option Addr} {ts : List Tr} (h : TRd w A ts) (z : Below w.heap.size w w') : TRd w' A ts := by
  obtain ⟨us, h1, h2, h3⟩ := h
  exact ⟨us, h1, h2.below z, fun k t hk => by obtain ⟨u, e, hr⟩ := h3 k t hk; exact ⟨u, e, hr.kb (KB.below z)⟩⟩
theorem TOw.below {w w' : World} {lo c : Nat} {A : Option Addr} {ts : List Tr} (h : TOw w lo A c ts) (z : Below w.heap.size w w') : TOw w' lo A c ts := by
  obtain ⟨us, h1, h2, h3⟩ := h
  exact ⟨us, h1, h2.below z, fun k t hk => by obtain ⟨u, e, hr⟩ := h3 k t hk; exact ⟨u, e, hr.kb (KB.below z)⟩⟩
theorem TOw.rd {w : World} {lo c : Nat} {A : Option Addr} {ts : List Tr} (h : TOw w lo A c ts) : TRd w A ts := by
  obtain ⟨us, h1, h2, h3⟩ := h
  exact ⟨us, h1, h2.rd, h3⟩
theorem TRd.pick {w : World} {A : Option Addr} {ts : List Tr} (h : TRd w A ts) {k : Nat} {t : Tr} (hk : ts[k]? = some t) : ∃ u b off, RowB w t u ∧ A = some ⟨b, off, none⟩ ∧ b < w.heap.size ∧ w.cell? ⟨b, off + k, none⟩ = some (.slice u.A t.nodes u.c) := by
  obtain ⟨us, h1, h2, h3⟩ := h
  obtain ⟨u, e, hr⟩ := h3 k t hk
  obtain ⟨hl, he⟩ := List.getElem?_eq_some_iff.1 e
  obtain ⟨b, off, hA, hlt, hc⟩ := h2.at_ (k := k) (by rw [List.length_map]; exact hl)
  refine ⟨u, b, off, hr, hA, hlt, ?_⟩
  rw [hc, List.getElem_map, he, Bl.val, hr.1, enc_len]
/-- The first trees alone. -/
theorem TOw.cut {w : World} {lo c : Nat} {A : Option Addr} {ts us : List Tr} (h : TOw w lo A c (ts ++ us)) : TOw w lo A c ts := by
  obtain ⟨vs, h1, h2, h3⟩ := h
  rw [List.length_append] at h1
  refine ⟨vs.take ts.length, by rw [List.length_take]; omega, ?_, fun k t hk => ?_⟩
  · have h4 := Own.cut h2 (i := 0) (j := ts.length) (Nat.zero_le _) (by rw [List.length_append]; omega) (A' := A) (fun e => e) (fun b off e => .inl (by rw [e]; rfl))
    rw [Nat.sub_zero, Nat.sub_zero, List.drop_zero, ← List.map_take] at h4
    exact h4
  · have hlt := (List.getElem?_eq_some_iff.1 hk).1
    obtain ⟨u, e, hr⟩ := h3 k t (by rw [List.getElem?_append_left hlt]; exact hk)
    exact ⟨u, by rw [List.getElem?_take, if_pos hlt]; exact e, hr⟩
/-- One tree more. -/
theorem TOw.push {w w2 : World} {lo c c2 : Nat} {A A2 : Option Addr} {ts : List Tr} {t : Tr} {u : Bl} {us : List Bl} (h1 : us.length = ts.length) (h2 : Own w lo 43 1 A ts.length c (us.map Bl.val)) (h3 : ∀ (k : Nat) (t : Tr), ts[k]? = some t → ∃ u, us[k]? = some u ∧ RowB w t u) (hr : RowB w t u)
    (ho : Own w2 lo 43 1 A2 (ts.length + 1) c2 (us.map Bl.val ++ [.slice u.A t.nodes u.c])) (hg : w.grownBy w2 (blk A)) : TOw w2 lo A2 c2 (ts ++ [t]) := by
  have kb := KB.grown h2 hg (by decide)
  refine ⟨us ++ [u], by simp [h1], ?_, fun k x hk => ?_⟩
  · rw [List.length_append, List.map_append, List.map_singleton, Bl.val, hr.1, enc_len]
    exact ho
  · by_cases hlt : k < ts.length
    · rw [List.getElem?_append_left hlt] at hk
      obtain ⟨v, e, hv⟩ := h3 k x hk
      exact ⟨v, by rw [List.getElem?_append_left (by omega)]; exact e, hv.kb kb⟩
    · rw [List.getElem?_append_right (by omega)] at hk
      have hk0 : k - ts.length = 0 := by
        have := (List.getElem?_eq_some_iff.1 hk).1
        simp at this; omega
      rw [hk0] at hk
      cases hk
      exact ⟨u, by rw [List.getElem?_append_right (by omega), show k - us.length = 0 by omega]; rfl, hr.kb kb⟩
end Go.Proofs.Ytfheepjfpgiaoaa
