/-
  From the reading of an argument that is a slice of Bools, of expressions or of commands to the words of the walks. No program is in sight.
-/
import Derived.Test.YtfheepjfpgiaoaaOpen3
import Derived.Test.YtfheepjfpgiaoaaCm
import Derived.Test.YtfheepjfpgiaoaaBools
namespace Go.Proofs.Ytfheepjfpgiaoaa
open Go.ChangeShapes Go.WideShapes Go.ChangeAt Go.RowKit Go.Deep

section
variable {H : Type} {enc : TypeId × Value → H} {P : Program} {w : World} {base : Nat} {held : Bool}
/-- A slice of Bools that came in. -/
theorem bo_of_trod {t e : TypeId} {fuel : Nat} {v : Value} {x : DataW H × List MemPlace} (ht : P.underlying t = some (.slice e)) (he : P.underlying e = some .bool) (ce : P.cellsOf e = 1)
    (h : DataW.trod enc P w base (fun _ => true) held fuel t [v] = some x) :
    ∃ A n c xs, v = .slice A n c ∧ SB w A n xs ∧ n ≤ c ∧ c ≤ 9223372036854775807 := by
  rcases open_slice1 ht ce h with ⟨hcs, _⟩ | ⟨a, len, cap, m, n, V, D, Pl, hcs, _, hl, hm, hmm, _, hi⟩
  · simp at hcs; subst hcs
    exact ⟨none, 0, 0, [], rfl, Rd.nil, by omega, by omega⟩
  · simp at hcs; subst hcs
    simp at hmm; subst hmm
    have hm' : m ≤ 9223372036854775807 := by simp only [maxLen] at hm; omega
    have each : ∀ i, i < m → ∃ b : Bool, V i = .bool b := by
      intro i him
      obtain ⟨b, e0, _⟩ := DataW.trod_bool he (hi i him).2
      simp only [List.cons.injEq, and_true] at e0
      exact ⟨b, e0⟩
    have hall : ∃ T : Nat → Bool, ∀ i, i < m → V i = .bool (T i) :=
      ⟨fun i => if h : i < m then (each i h).choose else false, fun i him => by simp only [him, dif_pos]; exact (each i him).choose_spec⟩
    obtain ⟨T, hT⟩ := hall
    refine ⟨some a, len, m, (List.range len).map T, rfl, ⟨by rw [length_bools]; simp, fun hn => ?_⟩, hl, hm'⟩
    rw [length_bools] at hn
    simp at hn
    have h0 := (hi 0 (by omega)).1
    have hs : a = ⟨a.block, a.off, none⟩ := by
      rcases addr_none h0 with h1 | h1
      · exact h1
      · omega
    refine ⟨a.block, a.off, by rw [← hs], fun k hk => ?_⟩
    rw [length_bools] at hk
    simp at hk
    have hk' := (hi k (by omega)).1
    rw [hs, add_lit, hT k (by omega)] at hk'
    rw [hk']; simp [bools]
theorem trod_struct2' {t : TypeId} {f0 f1 : Field} {fuel : Nat} {cs : List Value} {x : DataW H × List MemPlace} (ht : P.underlying t = some (.struct #[f0, f1])) (h : DataW.trod enc P w base (fun _ => true) held fuel t cs = some x) :
    ∃ y0 y1 n, DataW.trod enc P w base (fun _ => true) held n f0.type ((cs.drop f0.offset).take (P.cellsOf f0.type)) = some y0 ∧ DataW.trod enc P w base (fun _ => true) held n f1.type ((cs.drop f1.offset).take (P.cellsOf f1.type)) = some y1 := by
  obtain ⟨xs, n, _, rfl, hl, hlen, hf⟩ := DataW.trod_struct ht h
  match xs, hlen with
  | [y0, y1], _ => exact ⟨y0, y1, n, by simpa using hf 0 f0 rfl, by simpa using hf 1 f1 rfl⟩
theorem trod_struct4' {t : TypeId} {f0 f1 f2 f3 : Field} {fuel : Nat} {cs : List Value} {x : DataW H × List MemPlace} (ht : P.underlying t = some (.struct #[f0, f1, f2, f3])) (h : DataW.trod enc P w base (fun _ => true) held fuel t cs = some x) :
    ∃ y0 y1 y2 y3 n, DataW.trod enc P w base (fun _ => true) held n f0.type ((cs.drop f0.offset).take (P.cellsOf f0.type)) = some y0 ∧ DataW.trod enc P w base (fun _ => true) held n f1.type ((cs.drop f1.offset).take (P.cellsOf f1.type)) = some y1 ∧ DataW.trod enc P w base (fun _ => true) held n f2.type ((cs.drop f2.offset).take (P.cellsOf f2.type)) = some y2 ∧ DataW.trod enc P w base (fun _ => true) held n f3.type ((cs.drop f3.offset).take (P.cellsOf f3.type)) = some y3 := by
  obtain ⟨xs, n, _, rfl, hl, hlen, hf⟩ := DataW.trod_struct ht h
  match xs, hlen with
  | [y0, y1, y2, y3], _ => exact ⟨y0, y1, y2, y3, n, by simpa using hf 0 f0 rfl, by simpa using hf 1 f1 rfl, by simpa using hf 2 f2 rfl, by simpa using hf 3 f3 rfl⟩
/-- A slice of expressions' elements that came in. -/
theorem s2_of_trod {t e q : TypeId} {f0 f1 : Field} {fuel : Nat} {v : Value} {x : DataW H × List MemPlace} (ht : P.underlying t = some (.slice e)) (he : P.underlying e = some (.struct #[f0, f1])) (t0 : f0.type = q) (t1 : f1.type = q) (o0 : f0.offset = 0) (o1 : f1.offset = 1) (hq : P.underlying q = some (.int .i64)) (ce : P.cellsOf e = 2) (cq : P.cellsOf q = 1)
    (h : DataW.trod enc P w base (fun _ => true) held fuel t [v] = some x) :
    ∃ A n c rs, v = .slice A n c ∧ S2 w A n rs ∧ n ≤ c ∧ c ≤ 9223372036854775807 := by
  rcases open_slice ht h with ⟨hcs, _⟩ | ⟨a, len, cap, m, n, D, Pl, hcs, _, hl, hm, hmm, _, hi⟩
  · simp at hcs; subst hcs
    exact ⟨none, 0, 0, [], rfl, Rd.nil, by omega, by omega⟩
  · simp at hcs; subst hcs
    simp at hmm; subst hmm
    have hm' : m ≤ 9223372036854775807 := by simp only [maxLen] at hm; omega
    have each : ∀ i, i < m → ∃ r : R2, w.cell? (a.add (i * 2 + 0)) = some (.int .i64 r.a) ∧ w.cell? (a.add (i * 2 + 1)) = some (.int .i64 r.b) := by
      intro i him
      obtain ⟨cs', hc, htr⟩ := hi i him
      rw [ce] at hc
      obtain ⟨_, hlen, hcell⟩ := World.cells?_some hc
      obtain ⟨y0, y1, n', h0, h1⟩ := trod_struct2' he htr
      rw [t0, o0, cq] at h0
      rw [t1, o1, cq] at h1
      match cs', hlen, hcell, h0, h1 with
      | [c0, c1], _, hcell, h0, h1 =>
        simp at h0 h1
        obtain ⟨z0, e0, _, _⟩ := DataW.trod_int hq h0
        obtain ⟨z1, e1, _, _⟩ := DataW.trod_int hq h1
        simp only [List.cons.injEq, and_true] at e0 e1
        subst e0 e1
        exact ⟨⟨z0, z1⟩, addr_add_add _ _ _ _ _ (by simpa using hcell 0 (by omega)), addr_add_add _ _ _ _ _ (by simpa using hcell 1 (by omega))⟩
    have hall : ∃ T : Nat → R2, ∀ i, i < m → w.cell? (a.add (i * 2 + 0)) = some (.int .i64 (T i).a) ∧ w.cell? (a.add (i * 2 + 1)) = some (.int .i64 (T i).b) :=
      ⟨fun i => if h : i < m then (each i h).choose else ⟨0, 0⟩, fun i him => by simp only [him, dif_pos]; exact (each i him).choose_spec⟩
    obtain ⟨T, hT⟩ := hall
    refine ⟨some a, len, m, (List.range len).map T, rfl, ⟨by rw [length_cells2]; simp, fun hn => ?_⟩, hl, hm'⟩
    rw [length_cells2] at hn
    simp at hn
    have h0 := (hT 0 (by omega)).1
    have hs : a = ⟨a.block, a.off, none⟩ := by
      rcases addr_none h0 with h1 | h1
      · exact h1
      · omega
    refine ⟨a.block, a.off, by rw [← hs], fun k hk => ?_⟩
    have hk2 := hk
    rw [length_cells2] at hk2
    simp at hk2
    obtain ⟨i, j, hj, rfl⟩ : ∃ i j, j < 2 ∧ k = i * 2 + j := ⟨k / 2, k % 2, by omega, by omega⟩
    have hg : ((List.range len).map T)[i]? = some (T i) := by simp [show i < len by omega]
    obtain ⟨g0, g1⟩ := cells2_get hg
    obtain ⟨q0, q1⟩ := hT i (by omega)
    rw [hs, add_lit] at q0 q1
    match j, hj with
    | 0, _ => rw [q0, ← g0]; exact List.getElem?_eq_getElem _
    | 1, _ => rw [q1, ← g1]; exact List.getElem?_eq_getElem _
/-- A slice of commands that came in. -/
theorem sc_of_trod {t e q s d : TypeId} {f0 f1 f2 f3 g0 g1 : Field} {fuel : Nat} {v : Value} {x : DataW H × List MemPlace} (ht : P.underlying t = some (.slice e)) (he : P.underlying e = some (.struct #[f0, f1, f2, f3])) (t0 : f0.type = q) (t1 : f1.type = q) (t2 : f2.type = q) (t3 : f3.type = s) (o0 : f0.offset = 0) (o1 : f1.offset = 1) (o2 : f2.offset = 2) (o3 : f3.offset = 3) (hq : P.underlying q = some (.int .i64)) (ce : P.cellsOf e = 4) (cq : P.cellsOf q = 1) (cs_ : P.cellsOf s = 1)
    (hs : P.underlying s = some (.slice d)) (hd : P.underlying d = some (.struct #[g0, g1])) (u0 : g0.type = q) (u1 : g1.type = q) (p0 : g0.offset = 0) (p1 : g1.offset = 1) (cd : P.cellsOf d = 2)
    (h : DataW.trod enc P w base (fun _ => true) held fuel t [v] = some x) :
    ∃ A n c ts, v = .slice A n c ∧ SC w A n ts ∧ n ≤ c ∧ c ≤ 9223372036854775807 ∧ ∀ t ∈ ts, t.e.length ≤ 9223372036854775807 := by
  rcases open_slice ht h with ⟨hcs, _⟩ | ⟨a, len, cap, m, n, D, Pl, hcs, _, hl, hm, hmm, _, hi⟩
  · simp at hcs; subst hcs
    exact ⟨none, 0, 0, [], rfl, ⟨Rd.nil, by simp⟩, by omega, by omega, by simp⟩
  · simp at hcs; subst hcs
    simp at hmm; subst hmm
    have hm' : m ≤ 9223372036854775807 := by simp only [maxLen] at hm; omega
    have each : ∀ i, i < m → ∃ r : Ce, (w.cell? (a.add (i * 4 + 0)) = some (.int .i64 r.k) ∧ w.cell? (a.add (i * 4 + 1)) = some (.int .i64 r.v) ∧ w.cell? (a.add (i * 4 + 2)) = some (.int .i64 r.l) ∧ w.cell? (a.add (i * 4 + 3)) = some (.slice r.A r.e.length r.c)) ∧ S2 w r.A r.e.length r.e ∧ r.e.length ≤ 9223372036854775807 := by
      intro i him
      obtain ⟨cs', hc, htr⟩ := hi i him
      rw [ce] at hc
      obtain ⟨_, hlen, hcell⟩ := World.cells?_some hc
      obtain ⟨y0, y1, y2, y3, n', h0, h1, h2, h3⟩ := trod_struct4' he htr
      rw [t0, o0, cq] at h0
      rw [t1, o1, cq] at h1
      rw [t2, o2, cq] at h2
      rw [t3, o3, cs_] at h3
      match cs', hlen, hcell, h0, h1, h2, h3 with
      | [c0, c1, c2, c3], _, hcell, h0, h1, h2, h3 =>
        simp at h0 h1 h2 h3
        obtain ⟨z0, e0, _, _⟩ := DataW.trod_int hq h0
        obtain ⟨z1, e1, _, _⟩ := DataW.trod_int hq h1
        obtain ⟨z2, e2, _, _⟩ := DataW.trod_int hq h2
        obtain ⟨A, k, c, xs, e3, hS, l1, l2⟩ := s2_of_trod hs hd u0 u1 p0 p1 hq cd cq h3
        simp only [List.cons.injEq, and_true] at e0 e1 e2
        subst e0 e1 e2 e3
        have hk : xs.length = k := hS.len
        subst hk
        exact ⟨⟨z0, z1, z2, A, c, xs⟩, ⟨addr_add_add _ _ _ _ _ (by simpa using hcell 0 (by omega)), addr_add_add _ _ _ _ _ (by simpa using hcell 1 (by omega)), addr_add_add _ _ _ _ _ (by simpa using hcell 2 (by omega)), addr_add_add _ _ _ _ _ (by simpa using hcell 3 (by omega))⟩, hS, Nat.le_trans l1 l2⟩
    have hall : ∃ T : Nat → Ce, ∀ i, i < m → (w.cell? (a.add (i * 4 + 0)) = some (.int .i64 (T i).k) ∧ w.cell? (a.add (i * 4 + 1)) = some (.int .i64 (T i).v) ∧ w.cell? (a.add (i * 4 + 2)) = some (.int .i64 (T i).l) ∧ w.cell? (a.add (i * 4 + 3)) = some (.slice (T i).A (T i).e.length (T i).c)) ∧ S2 w (T i).A (T i).e.length (T i).e ∧ (T i).e.length ≤ 9223372036854775807 :=
      ⟨fun i => if h : i < m then (each i h).choose else ⟨0, 0, 0, none, 0, []⟩, fun i him => by simp only [him, dif_pos]; exact (each i him).choose_spec⟩
    obtain ⟨T, hT⟩ := hall
    refine ⟨some a, len, m, (List.range len).map T, rfl, ⟨⟨by rw [flat_len Ce.cells_len]; simp, fun hn => ?_⟩, fun t ht' => ?_⟩, hl, hm', fun t ht' => ?_⟩
    · rw [flat_len Ce.cells_len] at hn
      simp at hn
      have h0 := (hT 0 (by omega)).1.1
      have hs : a = ⟨a.block, a.off, none⟩ := by
        rcases addr_none h0 with h1 | h1
        · exact h1
        · omega
      refine ⟨a.block, a.off, by rw [← hs], fun k hk => ?_⟩
      have hk2 := hk
      rw [flat_len Ce.cells_len] at hk2
      simp at hk2
      obtain ⟨i, j, hj, rfl⟩ : ∃ i j, j < 4 ∧ k = i * 4 + j := ⟨k / 4, k % 4, by omega, by omega⟩
      have hg : ((List.range len).map T)[i]? = some (T i) := by simp [show i < len by omega]
      have g := flat_get Ce.cells_len hg hj
      rw [List.getElem?_eq_getElem hk] at g
      obtain ⟨⟨q0, q1, q2, q3⟩, _⟩ := hT i (by omega)
      rw [hs, add_lit] at q0 q1 q2 q3
      match j, hj with
      | 0, _ => rw [q0]; exact g.symm
      | 1, _ => rw [q1]; exact g.symm
      | 2, _ => rw [q2]; exact g.symm
      | 3, _ => rw [q3]; exact g.symm
    · obtain ⟨i, hi', rfl⟩ := List.mem_map.1 ht'
      exact (hT i (by have := List.mem_range.1 hi'; omega)).2.1
    · obtain ⟨i, hi', rfl⟩ := List.mem_map.1 ht'
      exact (hT i (by have := List.mem_range.1 hi'; omega)).2.2
end
end Go.Proofs.Ytfheepjfpgiaoaa
