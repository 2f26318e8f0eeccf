/-
  Slices of expression elements (two cells) and of commands (four cells, the last one a slice): read, owned, marked.
-/
import Derived.Test.YtfheepjfpgiaoaaExP
import Derived.Test.YtfheepjfpgiaoaaRecs
import Derived.Test.YtfheepjfpgiaoaaHelpA
namespace Go.Proofs.Ytfheepjfpgiaoaa
open Go.RowKit

theorem elEx : Elem Try.prog 37 118 2 16 (.agg #[.int .i64 0, .int .i64 0]) := ⟨Try.underlying37, by kernel_rfl, rfl, by decide⟩
theorem elCm : Elem Try.prog 28 99 4 48 (.agg #[.int .i64 0, .int .i64 0, .int .i64 0, .slice none 0 0]) := ⟨Try.underlying28, by kernel_rfl, rfl, by decide⟩
def R2.cells (r : R2) : List Value := [.int .i64 r.a, .int .i64 r.b]
theorem R2.cells_len (r : R2) : r.cells.length = 2 := rfl
def cells2 (rs : List R2) : List Value := rs.flatMap R2.cells
theorem length_cells2 (rs : List R2) : (cells2 rs).length = rs.length * 2 := flat_len R2.cells_len rs
theorem cells2_get {rs : List R2} {k : Nat} {r : R2} (h : rs[k]? = some r) : (cells2 rs)[k * 2]? = some (.int .i64 r.a) ∧ (cells2 rs)[k * 2 + 1]? = some (.int .i64 r.b) :=
  ⟨(flat_get (j := 0) R2.cells_len h (by omega)).trans rfl, (flat_get (j := 1) R2.cells_len h (by omega)).trans rfl⟩
theorem cells2_one (rs : List R2) : ∀ u ∈ cells2 rs, u.oneCell' = true := by
  intro u hu
  simp only [cells2, List.mem_flatMap, R2.cells, List.mem_cons, List.not_mem_nil, or_false] at hu
  obtain ⟨r, _, h | h⟩ := hu <;> subst h <;> rfl
theorem cells2_append (xs ys : List R2) : cells2 xs ++ cells2 ys = cells2 (xs ++ ys) := by simp [cells2]
theorem cells2_set {rs : List R2} {k : Nat} (h : k < rs.length) (r : R2) : ((cells2 rs).set (k * 2) (.int .i64 r.a)).set (k * 2 + 1) (.int .i64 r.b) = cells2 (rs.set k r) := by
  obtain ⟨s, hs⟩ : ∃ s, rs[k]? = some s := ⟨rs[k], List.getElem?_eq_getElem h⟩
  have h1 := flat_set (f := R2.cells) (s := 2) R2.cells_len (k := k) (j := 0) (u := ⟨r.a, s.b⟩) (v := .int .i64 r.a) hs (by omega) rfl
  have h2 := flat_set (f := R2.cells) (s := 2) R2.cells_len (ts := rs.set k ⟨r.a, s.b⟩) (k := k) (j := 1) (t := ⟨r.a, s.b⟩) (u := r) (v := .int .i64 r.b) (by rw [List.getElem?_set_self h]) (by omega) rfl
  unfold cells2
  rw [Nat.add_zero] at h1
  rw [h1, h2, List.set_set]
/-- A slice that reads as expression elements. -/
def S2 (w : World) (A : Option Addr) (n : Nat) (rs : List R2) : Prop := Rd w 2 A n (cells2 rs)
section
variable {w w' : World} {A : Option Addr} {n c lo : Nat} {rs : List R2}
theorem S2.len (h : S2 w A n rs) : rs.length = n := by have := h.1; rw [length_cells2] at this; omega
theorem S2.pick (h : S2 w A n rs) {k : Nat} (hk : k < n) : ∃ r b off, Hid (rs[k]? = some r) ∧ r ∈ rs ∧ A = some ⟨b, off, none⟩ ∧ b < w.heap.size ∧ w.cell? ⟨b, off + k * 2, none⟩ = some (.int .i64 r.a) ∧ w.cell? ⟨b, off + k * 2 + 1, none⟩ = some (.int .i64 r.b) := by
  have hl := h.len
  have hr : rs[k]? = some (rs[k]'(by omega)) := List.getElem?_eq_getElem (by omega)
  obtain ⟨h0, h1⟩ := cells2_get hr
  obtain ⟨b, off, e, hc⟩ := h.2 (by rw [length_cells2]; omega)
  obtain ⟨l0, g0⟩ := List.getElem?_eq_some_iff.1 h0
  obtain ⟨l1, g1⟩ := List.getElem?_eq_some_iff.1 h1
  have k0 := hc _ l0
  have k1 := hc _ l1
  rw [g0] at k0
  rw [g1] at k1
  exact ⟨_, b, off, Lib.hid hr, List.getElem_mem _, e, World.block_lt_of_cell? w _ k0, k0, by rw [Nat.add_assoc]; exact k1⟩
theorem S2.below (h : S2 w A n rs) (hb : Below w.heap.size w w') : S2 w' A n rs := Rd.below h hb
theorem S2.drewN (h : S2 w A n rs) (k : Nat) : S2 (w.drewN k) A n rs := h
theorem S2.alloc (h : S2 w A n rs) (o : Obj) : S2 (w.alloc o) A n rs := Rd.alloc h o
theorem S2.of_own {e : TypeId} (h : Own w lo e 2 A n c (cells2 rs)) : S2 w A n rs := h.rd
end
def copied2 (rs : List R2) (k : Nat) : List R2 := rs.take k ++ List.replicate (rs.length - k) ⟨0, 0⟩
theorem copied2_end (rs : List R2) {k : Nat} (h : rs.length ≤ k) : copied2 rs k = rs := by
  unfold copied2
  rw [List.take_of_length_le h, show rs.length - k = 0 from by omega]; simp
theorem length_copied2 (rs : List R2) (k : Nat) (h : k ≤ rs.length) : (copied2 rs k).length = rs.length := by simp [copied2]; omega
theorem copied2_next (rs : List R2) (k : Nat) (r : R2) (h : rs[k]? = some r) : (copied2 rs k).set k r = copied2 rs (k + 1) := by
  obtain ⟨hk, rfl⟩ := List.getElem?_eq_some_iff.1 h
  unfold copied2
  have e1 : (rs.take k).length = k := by simp; omega
  rw [List.set_append_right _ _ (by omega), e1, Nat.sub_self, List.take_succ_eq_append_getElem hk, show rs.length - k = (rs.length - (k + 1)) + 1 from by omega, List.replicate_succ]
  simp only [List.set_cons_zero, List.append_assoc, List.singleton_append]
/-- Cells of s to an element, all alike, behind make. -/
theorem made_flat {α : Type} {f : α → List Value} {s : Nat} (hf : ∀ a, (f a).length = s) (hs : 0 < s) (z : α) (n : Nat) : (madeCells (f z).toArray (n * s)).toList = (List.replicate n z).flatMap f := by
  have hl : ((List.replicate n z).flatMap f).length = n * s := by rw [flat_len hf]; simp
  have hm : (madeCells (f z).toArray (n * s)).toList.length = n * s := by simp [size_madeCells]
  apply List.ext_getElem?
  intro j
  by_cases hj : j < n * s
  · obtain ⟨q, r, rfl, hr⟩ : ∃ q r, j = q * s + r ∧ r < s := ⟨j / s, j % s, by rw [Nat.mul_comm]; exact (Nat.div_add_mod j s).symm, Nat.mod_lt _ hs⟩
    have hq : q < n := by
      rcases Nat.lt_or_ge q n with h | h
      · exact h
      · have := Nat.mul_le_mul_right s h; omega
    have h1 : (List.replicate n z)[q]? = some z := by rw [List.getElem?_replicate, if_pos hq]
    rw [flat_get hf h1 hr]
    have hmod : (q * s + r) % s = r := by rw [Nat.add_comm, Nat.add_mul_mod_self_right, Nat.mod_eq_of_lt hr]
    have hrl : r < (f z).length := by rw [hf]; exact hr
    simp [madeCells, hj, hf, hmod]
    try rw [List.getElem?_eq_getElem hrl]
    try rfl
  · rw [List.getElem?_eq_none (by omega), List.getElem?_eq_none (by omega)]
theorem made_cells2 (n : Nat) (rs : List R2) (h : rs.length = n) : (madeCells (Value.agg #[.int .i64 0, .int .i64 0]).cells (n * 2)).toList = cells2 (copied2 rs 0) := by
  have e : copied2 rs 0 = List.replicate n ⟨0, 0⟩ := by simp [copied2, h]
  rw [e]
  exact made_flat R2.cells_len (by omega) ⟨0, 0⟩ n
def same2 (xs ys : List R2) : Bool := decide (xs = ys)
theorem same2_self (xs : List R2) : same2 xs xs = true := by simp [same2]
theorem same2_ne {xs ys : List R2} {x y : R2} {k : Nat} (hx : xs[k]? = some x) (hy : ys[k]? = some y) (h : (!decide (x = y)) = true) : false = same2 xs ys := by
  unfold same2; symm; rw [decide_eq_false_iff_not]; rintro rfl
  rw [hx] at hy
  simp at hy
  simp [hy] at h
theorem same2_len {xs ys : List R2} {n m : Nat} (h : ¬ n = m) (hx : xs.length = n) (hy : ys.length = m) : false = same2 xs ys := by
  unfold same2; symm; rw [decide_eq_false_iff_not]; rintro rfl; omega
theorem same2_eq {xs ys : List R2} {n k : Nat} (hk : n ≤ k) (hx : xs.length = n) (hy : ys.length = n) (h : xs.take k = ys.take k) : true = same2 xs ys := by
  rw [List.take_of_length_le (by omega), List.take_of_length_le (by omega)] at h
  unfold same2; symm; rw [decide_eq_true_iff]; exact h
theorem same2_next {xs ys : List R2} {x y : R2} {k : Nat} (hx : xs[k]? = some x) (hy : ys[k]? = some y) (h : xs.take k = ys.take k) (h1 : (!decide (x = y)) = false) : xs.take (k + 1) = ys.take (k + 1) := by
  obtain ⟨hk, rfl⟩ := List.getElem?_eq_some_iff.1 hx
  obtain ⟨hk', rfl⟩ := List.getElem?_eq_some_iff.1 hy
  rw [List.take_succ_eq_append_getElem hk, List.take_succ_eq_append_getElem hk', h]
  simp at h1
  rw [h1]
/-! ### commands -/
/-- A command in memory. -/
structure Ce where
  k : Int
  v : Int
  l : Int
  A : Option Addr
  c : Nat
  e : List R2
def Ce.cells (t : Ce) : List Value := [.int .i64 t.k, .int .i64 t.v, .int .i64 t.l, .slice t.A t.e.length t.c]
def Ce.cmd (t : Ce) : Cmd := ⟨t.k, t.v, t.l, t.e⟩
theorem Ce.cells_len (t : Ce) : t.cells.length = 4 := rfl
def cmds (ts : List Ce) : List Cmd := ts.map Ce.cmd
def totE (ts : List Ce) : Nat := (ts.map (fun t => t.e.length)).sum
theorem cmds_len (ts : List Ce) : (cmds ts).length = ts.length := by simp [cmds]
theorem totE_cmds (ts : List Ce) : totE ts = ((cmds ts).map (fun c => c.e.length)).sum := by unfold totE cmds; rw [List.map_map]; rfl
theorem totE_same {ts us : List Ce} (h : cmds us = cmds ts) : totE us = totE ts := by rw [totE_cmds, h, ← totE_cmds]
theorem totE_row : ∀ {ts : List Ce} {t : Ce}, t ∈ ts → t.e.length ≤ totE ts
  | [], t, h => by cases h
  | u :: r, t, h => by
    have e : totE (u :: r) = u.e.length + totE r := by simp [totE]
    rcases List.mem_cons.1 h with rfl | h
    · omega
    · have := totE_row h; omega
theorem cmds_rows {ts us : List Ce} {M : Nat} (h : cmds us = cmds ts) (hs : ∀ t ∈ ts, t.e.length ≤ M) : ∀ t ∈ us, t.e.length ≤ M := by
  intro t ht
  have h1 : t.cmd ∈ cmds ts := by rw [← h]; exact List.mem_map.2 ⟨t, ht, rfl⟩
  obtain ⟨u, hu, he⟩ := List.mem_map.1 h1
  have h2 : u.e = t.e := congrArg Cmd.e he
  rw [← h2]; exact hs u hu
theorem Ce.one (ts : List Ce) : ∀ u ∈ ts.flatMap Ce.cells, u.oneCell' = true := by
  intro u hu
  simp only [List.mem_flatMap, Ce.cells, List.mem_cons, List.not_mem_nil, or_false] at hu
  obtain ⟨t, _, h | h | h | h⟩ := hu <;> subst h <;> rfl
/-- A slice that reads as commands. -/
def SC (w : World) (A : Option Addr) (n : Nat) (ts : List Ce) : Prop := Rd w 4 A n (ts.flatMap Ce.cells) ∧ ∀ t ∈ ts, S2 w t.A t.e.length t.e
/-- Commands that the call owns. -/
def OC (w : World) (lo : Nat) (A : Option Addr) (n c : Nat) (ts : List Ce) : Prop := Own w lo 99 4 A n c (ts.flatMap Ce.cells) ∧ ∀ t ∈ ts, Own w lo 118 2 t.A t.e.length t.c (cells2 t.e)
/-- Commands that may be marked. -/
def MkC (w : World) (lo hi : Nat) (A : Option Addr) (n _c : Nat) (ts : List Ce) : Prop := Mk w lo hi 99 4 A n ∧ (∀ k t, ts[k]? = some t → ∃ b off, A = some ⟨b, off, none⟩ ∧ w.cell? ⟨b, off + k * 4 + 3, none⟩ = some (.slice t.A t.e.length t.c)) ∧ ∀ t ∈ ts, Mk w lo hi 118 2 t.A t.e.length
section
variable {w w' : World} {A : Option Addr} {n c lo : Nat} {ts : List Ce}
theorem SC.len (h : SC w A n ts) : ts.length = n := by have := h.1.1; rw [flat_len Ce.cells_len] at this; omega
theorem SC.below (h : SC w A n ts) (hb : Below w.heap.size w w') : SC w' A n ts := ⟨h.1.below hb, fun t ht => (h.2 t ht).below hb⟩
theorem SC.drewN (h : SC w A n ts) (k : Nat) : SC (w.drewN k) A n ts := h
theorem SC.alloc (h : SC w A n ts) (o : Obj) : SC (w.alloc o) A n ts := ⟨h.1.alloc o, fun t ht => (h.2 t ht).alloc o⟩
theorem SC.pick (h : SC w A n ts) {k : Nat} (hk : k < n) : ∃ t b off, Hid (ts[k]? = some t) ∧ t ∈ ts ∧ A = some ⟨b, off, none⟩ ∧ b < w.heap.size ∧ w.cell? ⟨b, off + k * 4, none⟩ = some (.int .i64 t.k) ∧ w.cell? ⟨b, off + k * 4 + 1, none⟩ = some (.int .i64 t.v) ∧ w.cell? ⟨b, off + k * 4 + 2, none⟩ = some (.int .i64 t.l) ∧ w.cell? ⟨b, off + k * 4 + 3, none⟩ = some (.slice t.A t.e.length t.c) ∧ S2 w t.A t.e.length t.e := by
  have hl := h.len
  have hT : ts[k]? = some (ts[k]'(by omega)) := List.getElem?_eq_getElem (by omega)
  have hmem : ts[k]'(by omega) ∈ ts := List.getElem_mem _
  revert hT hmem
  generalize ts[k]'(by omega) = t
  intro hT hmem
  have hfl : (ts.flatMap Ce.cells).length = n * 4 := by rw [flat_len Ce.cells_len, hl]
  obtain ⟨b, off, e, hc⟩ := h.1.2 (by omega)
  have cell : ∀ j, (hj : j < 4) → w.cell? ⟨b, off + (k * 4 + j), none⟩ = some (t.cells[j]'(by rw [Ce.cells_len]; exact hj)) := by
    intro j hj
    have h1 := flat_get Ce.cells_len hT hj
    rw [List.getElem?_eq_getElem (l := t.cells) (i := j) (by rw [Ce.cells_len]; exact hj)] at h1
    obtain ⟨h2, h3⟩ := List.getElem?_eq_some_iff.1 h1
    have h4 := hc (k * 4 + j) h2
    rw [h3] at h4
    exact h4
  have c0 := cell 0 (by omega)
  exact ⟨t, b, off, Lib.hid hT, hmem, e, World.block_lt_of_cell? w _ c0, c0, by rw [Nat.add_assoc]; exact cell 1 (by omega), by rw [Nat.add_assoc]; exact cell 2 (by omega), by rw [Nat.add_assoc]; exact cell 3 (by omega), h.2 t hmem⟩
theorem OC.sc (h : OC w lo A n c ts) : SC w A n ts := ⟨h.1.rd, fun t ht => (h.2 t ht).rd⟩
theorem OC.below (h : OC w lo A n c ts) (hb : Below w.heap.size w w') : OC w' lo A n c ts := ⟨h.1.below hb, fun t ht => (h.2 t ht).below hb⟩
theorem OC.mono {lo' : Nat} (h : OC w lo A n c ts) (hl : lo' ≤ lo) : OC w lo' A n c ts := ⟨h.1.mono hl, fun t ht => (h.2 t ht).mono hl⟩
theorem OC.mk {hi : Nat} (h : OC w lo A n c ts) (hh : w.heap.size ≤ hi) : MkC w lo hi A n c ts := by
  refine ⟨h.1.mk' hh, fun k t hT => ?_, fun t ht => (h.2 t ht).mk' hh⟩
  have hk : k < n := by have h1 := h.sc.len; have h2 := (List.getElem?_eq_some_iff.1 hT).1; omega
  obtain ⟨t', b, off, HT, _, e, _, _, _, _, c3, _⟩ := h.sc.pick hk
  rw [HT.out] at hT
  cases hT
  exact ⟨b, off, e, c3⟩
theorem MkC.mkf {T : List TypeId} {l h lo hi : Nat} (hm : MkC w lo hi A n c ts) (hf : MkF T l h w w') (he : 99 ∉ T) (hl : ts.length ≤ n) : MkC w' lo hi A n c ts := by
  refine ⟨hm.1.mkf hf, fun k t hT => ?_, fun t ht => (hm.2.2 t ht).mkf hf⟩
  obtain ⟨b, off, e, h1⟩ := hm.2.1 k t hT
  refine ⟨b, off, e, ?_⟩
  have hk := (List.getElem?_eq_some_iff.1 hT).1
  rcases hm.1 with h0 | ⟨b2, off2, cur, hA, _, _, hg, hfit⟩
  · omega
  · rw [hA] at e
    simp only [Option.some.injEq, Addr.mk.injEq, and_true] at e
    obtain ⟨rfl, rfl⟩ := e
    have hB : Blk w b2 99 cur := hg
    rw [hB.cell] at h1
    rw [(hB.mkf hf he).cell]; exact h1
theorem MkC.below {lo hi : Nat} (hm : MkC w lo hi A n c ts) (hb : Below w.heap.size w w') (hl : ts.length ≤ n) : MkC w' lo hi A n c ts := hm.mkf (T := []) (l := 0) (h := 0) (MkF.of_below hb) (by simp) hl
end
/-- After k commands of a copy, the rest empty. -/
def halfC (us : List Ce) (r : Nat) : List Value := us.flatMap Ce.cells ++ (List.replicate r (⟨0, 0, 0, none, 0, []⟩ : Ce)).flatMap Ce.cells
theorem halfC_len (us : List Ce) (r : Nat) : (halfC us r).length = (us.length + r) * 4 := by unfold halfC; rw [List.length_append, flat_len Ce.cells_len, flat_len Ce.cells_len, List.length_replicate, Nat.add_mul]
theorem halfC_end (us : List Ce) : halfC us 0 = us.flatMap Ce.cells := by simp [halfC]
theorem made_halfC (n : Nat) : (madeCells (Value.agg #[.int .i64 0, .int .i64 0, .int .i64 0, .slice none 0 0]).cells (n * 4)).toList = halfC [] n := by
  exact made_flat Ce.cells_len (by omega) (⟨0, 0, 0, none, 0, []⟩ : Ce) n
theorem halfC_next (us : List Ce) (r : Nat) (u : Ce) : ((((halfC us (r + 1)).set (us.length * 4) (.int .i64 u.k)).set (us.length * 4 + 1) (.int .i64 u.v)).set (us.length * 4 + 2) (.int .i64 u.l)).set (us.length * 4 + 3) (.slice u.A u.e.length u.c) = halfC (us ++ [u]) r := by
  have hl : (us.flatMap Ce.cells).length = us.length * 4 := flat_len Ce.cells_len us
  unfold halfC
  rw [List.replicate_succ, List.flatMap_cons]
  rw [List.set_append_right _ _ (by omega), List.set_append_right _ _ (by omega), List.set_append_right _ _ (by omega), List.set_append_right _ _ (by omega), hl, Nat.sub_self, show us.length * 4 + 1 - us.length * 4 = 1 by omega, show us.length * 4 + 2 - us.length * 4 = 2 by omega, show us.length * 4 + 3 - us.length * 4 = 3 by omega]
  simp [Ce.cells]
theorem cmds_take_next {ts us : List Ce} {t u : Ce} {k : Nat} (ht : ts[k]? = some t) (h : cmds us = (cmds ts).take k) (hu : u.cmd = t.cmd) : cmds (us ++ [u]) = (cmds ts).take (k + 1) := by
  obtain ⟨hk, rfl⟩ := List.getElem?_eq_some_iff.1 ht
  rw [List.take_succ_eq_append_getElem (by rw [cmds_len]; exact hk), ← h]
  simp [cmds, hu]
def sameC (xs ys : List Cmd) : Bool := decide (xs = ys)
theorem sameC_self (xs : List Cmd) : sameC xs xs = true := by simp [sameC]
theorem sameC_ne {ts us : List Ce} {t u : Ce} {k : Nat} (ht : ts[k]? = some t) (hu : us[k]? = some u) (h : (!decide (t.cmd = u.cmd)) = true) : false = sameC (cmds ts) (cmds us) := by
  unfold sameC; symm; rw [decide_eq_false_iff_not]; intro he
  have := congrArg (·[k]?) he
  simp [cmds, ht, hu] at this
  simp [this] at h
theorem sameC_eq {ts us : List Ce} {n k : Nat} (hk : n ≤ k) (hx : ts.length = n) (hy : us.length = n) (h : (cmds ts).take k = (cmds us).take k) : true = sameC (cmds ts) (cmds us) := by
  rw [List.take_of_length_le (by simp [cmds]; omega), List.take_of_length_le (by simp [cmds]; omega)] at h
  unfold sameC; symm; rw [decide_eq_true_iff]; exact h
theorem sameC_next {ts us : List Ce} {t u : Ce} {k : Nat} (ht : ts[k]? = some t) (hu : us[k]? = some u) (h : (cmds ts).take k = (cmds us).take k) (h1 : (!decide (t.cmd = u.cmd)) = false) : (cmds ts).take (k + 1) = (cmds us).take (k + 1) := by
  obtain ⟨hk, rfl⟩ := List.getElem?_eq_some_iff.1 ht
  obtain ⟨hk', rfl⟩ := List.getElem?_eq_some_iff.1 hu
  rw [List.take_succ_eq_append_getElem (by simpa [cmds] using hk), List.take_succ_eq_append_getElem (by simpa [cmds] using hk'), h]
  simp at h1
  simp [cmds, h1]
end Go.Proofs.Ytfheepjfpgiaoaa
