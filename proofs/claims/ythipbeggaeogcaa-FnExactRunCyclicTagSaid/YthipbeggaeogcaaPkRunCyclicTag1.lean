/-
  From the reading of an argument to the words of the walks, and from a walk to a row's post. No program is in sight.
-/
import Derived.Test.YthipbeggaeogcaaPkRunCyclicTag0
import Derived.ProofKit
import Derived.OpenShut
import Derived.ChangeOld
import Derived.Deep.Slices
import Derived.Lib.SmallJoins
import Derived.Deep.Strs
import Derived.Test.YthipbeggaeogcaaProg
import Derived.BigQuiet
import Derived.Deep.QuietTactic
import Derived.KernelRfl
import Derived.BigGuardPart
namespace Go.Proofs.Ythipbeggaeogcaa
open Go.ChangeShapes Go.WideShapes Go.ChangeAt Go.RowKit Go.Deep

section
variable {H : Type} {enc : TypeId × Value → H} {P : Program} {w : World} {base : Nat} {spare : Nat → Bool} {held : Bool}

theorem addr_none {w : World} {a : Addr} {k : Nat} {v : Value} (h : w.cell? (a.add k) = some v) : a = ⟨a.block, a.off, none⟩ ∨ 0 < k := by
  by_cases hk : k = 0
  · subst hk
    have h1 : (a.add 0) = a := by simp [Addr.add]
    rw [h1] at h
    have := World.cell?_spot h
    left; cases a; simp_all
  · right; omega

/-- A slice of numbers that came in. -/
theorem si_of_trod {t e : TypeId} {fuel : Nat} {v : Value} {x : DataW H × List MemPlace} (ht : P.underlying t = some (.slice e)) (he : P.underlying e = some (.int .i64)) (hc : P.cellsOf e = 1) (h : DataW.trod enc P w base (fun _ => true) held fuel t [v] = some x) :
    ∃ A n c xs, v = .slice A n c ∧ SI w A n xs ∧ n ≤ c ∧ c ≤ 9223372036854775807 ∧ ∀ z ∈ xs, -9223372036854775808 ≤ z ∧ z ≤ 9223372036854775807 := by
  rcases open_ints ht he hc h with ⟨hcs, _⟩ | ⟨a, len, cap, zs, hcs, _, hl, hm, hz, _, hcell, hwf⟩
  · simp at hcs; subst hcs
    exact ⟨none, 0, 0, [], rfl, Rd.nil, by omega, by omega, by simp⟩
  · simp at hcs; subst hcs
    simp at hz
    have hm' : cap ≤ 9223372036854775807 := by simp only [maxLen] at hm; omega
    refine ⟨some a, len, cap, zs.take len, rfl, ⟨by rw [length_ints]; simp; omega, fun hn => ?_⟩, hl, hm', fun z hz' => ?_⟩
    · rw [length_ints] at hn
      simp at hn
      have h0 := hcell 0 (by omega)
      have hs : a = ⟨a.block, a.off, none⟩ := by
        rcases addr_none h0 with h1 | h1
        · exact h1
        · omega
      refine ⟨a.block, a.off, by rw [← hs], fun k hk => ?_⟩
      rw [length_ints] at hk
      simp at hk
      have hk' := hcell k (by omega)
      rw [hs, add_lit] at hk'
      rw [ints_get, hk']
      simp [List.getD, List.getElem?_eq_getElem (show k < zs.length by omega)]
    · have := hwf z (List.mem_of_mem_take hz')
      simpa [Lit.wf, IntKind.min, IntKind.max, IntKind.signed, IntKind.bits] using this

/-- A slice of slices of numbers that came in. -/
theorem sii_of_trod {t e q : TypeId} {fuel : Nat} {v : Value} {x : DataW H × List MemPlace} (ht : P.underlying t = some (.slice e)) (he : P.underlying e = some (.slice q)) (hq : P.underlying q = some (.int .i64)) (ce : P.cellsOf e = 1) (cq : P.cellsOf q = 1)
    (h : DataW.trod enc P w base (fun _ => true) held fuel t [v] = some x) :
    ∃ A n c ts, v = .slice A n c ∧ SII w A n ts ∧ n ≤ c ∧ c ≤ 9223372036854775807 ∧ (∀ t ∈ ts, t.xs.length ≤ t.c ∧ t.c ≤ 9223372036854775807) ∧ ∀ t ∈ ts, ∀ z ∈ t.xs, -9223372036854775808 ≤ z ∧ z ≤ 9223372036854775807 := by
  rcases open_slice1 ht ce h with ⟨hcs, _⟩ | ⟨a, len, cap, m, n, V, D, Pl, hcs, _, hl, hm, hmm, _, hi⟩
  · simp at hcs; subst hcs
    exact ⟨none, 0, 0, [], rfl, ⟨Rd.nil, by simp⟩, by omega, by omega, by simp, by simp⟩
  · simp at hcs; subst hcs
    simp at hmm; subst hmm
    have hm' : m ≤ 9223372036854775807 := by simp only [maxLen] at hm; omega
    have each : ∀ i, i < m → ∃ t : Sl, V i = t.val ∧ SI w t.A t.xs.length t.xs ∧ (t.xs.length ≤ t.c ∧ t.c ≤ 9223372036854775807) ∧ ∀ z ∈ t.xs, -9223372036854775808 ≤ z ∧ z ≤ 9223372036854775807 := by
      intro i him
      obtain ⟨A, k, c, xs, hV, hS, h1, h2, h3⟩ := si_of_trod he hq cq (hi i him).2
      have hk : xs.length = k := hS.len
      subst hk
      exact ⟨⟨A, c, xs⟩, hV, hS, ⟨h1, h2⟩, h3⟩
    have hall : ∃ T : Nat → Sl, ∀ i, i < m → V i = (T i).val ∧ SI w (T i).A (T i).xs.length (T i).xs ∧ ((T i).xs.length ≤ (T i).c ∧ (T i).c ≤ 9223372036854775807) ∧ ∀ z ∈ (T i).xs, -9223372036854775808 ≤ z ∧ z ≤ 9223372036854775807 :=
      ⟨fun i => if h : i < m then (each i h).choose else ⟨none, 0, []⟩, fun i him => by simp only [him, dif_pos]; exact (each i him).choose_spec⟩
    obtain ⟨T, hT⟩ := hall
    refine ⟨some a, len, m, (List.range len).map T, rfl, ⟨⟨by simp, fun hn => ?_⟩, fun t ht' => ?_⟩, hl, hm', fun t ht' => ?_, fun t ht' => ?_⟩
    · simp at hn
      have h0 := (hi 0 (by omega)).1
      have hs : a = ⟨a.block, a.off, none⟩ := by
        rcases addr_none h0 with h1 | h1
        · exact h1
        · omega
      refine ⟨a.block, a.off, by rw [← hs], fun k hk => ?_⟩
      simp at hk
      have hk' := (hi k (by omega)).1
      rw [hs, add_lit, (hT k (by omega)).1] at hk'
      rw [hk']; simp
    · obtain ⟨i, hi', rfl⟩ := List.mem_map.1 ht'
      exact (hT i (by have := List.mem_range.1 hi'; omega)).2.1
    · obtain ⟨i, hi', rfl⟩ := List.mem_map.1 ht'
      exact (hT i (by have := List.mem_range.1 hi'; omega)).2.2.1
    · obtain ⟨i, hi', rfl⟩ := List.mem_map.1 ht'
      exact (hT i (by have := List.mem_range.1 hi'; omega)).2.2.2
end

section
variable {H : Type} {enc : TypeId × Value → H} {P : Program}
theorem trodAll_stays (hl : laidOutB P = true) {W W' : World} {sp : Nat → Bool} (hb : Below W.heap.size W W') : ∀ {ts : List TypeId} {vs : List Value} {ds : List (DataW H)} {ps : List MemPlace}, (∀ t ∈ ts, P.readableRec t = true ∧ t < P.types.size) →
    DataW.TrodAll enc P W 0 (fun _ => true) true ts vs ds ps → (∀ x ∈ ps, x.block < W.heap.size) → (∀ x ∈ ps, sp x.block = true) → DataW.TrodAll enc P W' 0 sp true ts vs ds ps
  | [], vs, ds, ps, _, h, _, _ => by
    obtain ⟨rfl, rfl, rfl⟩ := trodAll_nil h
    exact trodAll_mk0
  | t :: ts, vs, ds, ps, hr, h, hlt, hs => by
    obtain ⟨v, vs', d, ds', p, q, rfl, rfl, rfl, h0, h1⟩ := trodAll_cons h
    exact trodAll_cons_mk (WideElems.Trod_stays hl (hr t (by simp)).1 (hr t (by simp)).2 h0 (fun x hx => hb.same (hlt x (by simp [hx]))) (fun x hx => hs x (by simp [hx])))
      (trodAll_stays hl hb (fun t' ht' => hr t' (by simp [ht'])) h1 (fun x hx => hlt x (by simp [hx])) (fun x hx => hs x (by simp [hx])))

/-- A law's post: it returned true, nothing that was there has turned. -/
theorem law_post {f : Func} {s : ChangeSpec} {b : TypeId} {W W' : World} {args : Array Value} {ds : List (DataW H)} {before : List MemPlace} (hl : laidOutB P = true) (hr : ∀ t ∈ f.params.toList, P.readableRec t = true ∧ t < P.types.size)
    (hvars : s.vars = []) (hres : f.resultTypes = #[b]) (hbool : P.underlying b = some .bool) (h1 : (s.fn H (ds ++ [])).results = [.lit (.bool true)]) (h2 : (s.fn H (ds ++ [])).args = ds) (h3 : (s.fn H (ds ++ [])).vars = [])
    (hW : DataW.Whole enc P f.params.toList s.vars false W args.toList ds [] before) (hb : Below W.heap.size W W') :
    s.post enc P f false true false false W args (.bool true) W' := by
  have hlt : ∀ p ∈ before, p.block < W.heap.size := fun p hp => hW.lt p hp
  have hold : ∀ p ∈ before, (fun b => decide (b < W.heap.size)) p.block = true := fun p hp => by simpa using hlt p hp
  obtain ⟨p, q, hA, hV, hps, hfz, hnd⟩ := id hW
  rw [hvars] at hV
  obtain ⟨_, rfl⟩ := trodVars_none hV
  simp only [List.append_nil] at hps
  subst hps
  refine ⟨ds, [], before, [], before, [], hW, ?_, ?_, ?_, World.keptBut_mono (fun p hp => ⟨hp, ?_⟩) (hb.frame (· ∈ before)), fun h => by cases h⟩
  · rw [h1, hres]
    exact trodAll_mk1 (shut_bool hbool true)
  · rw [h2]
    exact trodAll_stays hl hb hr hA hlt hold
  · rw [h3, hvars]; rfl
  · simp [hp]
end
end Go.Proofs.Ythipbeggaeogcaa

/-
  Slices of structs of three numbers.
-/
namespace Go.Proofs.Ythipbeggaeogcaa
open Go.RowKit

/-- Three numbers. -/
structure R3 where
  a : Int
  b : Int
  c : Int
  deriving DecidableEq
def R3.cells (r : R3) : List Value := [.int .i64 r.a, .int .i64 r.b, .int .i64 r.c]
def cells3 (rs : List R3) : List Value := rs.flatMap R3.cells
theorem length_cells3 (rs : List R3) : (cells3 rs).length = rs.length * 3 := by
  induction rs with
  | nil => rfl
  | cons r rs ih => simp [cells3, R3.cells] at ih ⊢; omega
theorem cells3_get : ∀ (rs : List R3) (k : Nat) (r : R3), rs[k]? = some r → (cells3 rs)[k * 3]? = some (.int .i64 r.a) ∧ (cells3 rs)[k * 3 + 1]? = some (.int .i64 r.b) ∧ (cells3 rs)[k * 3 + 2]? = some (.int .i64 r.c)
  | [], k, r, h => by simp at h
  | s :: rs, 0, r, h => by simp at h; subst h; simp [cells3, R3.cells]
  | s :: rs, k + 1, r, h => by
    have ih := cells3_get rs k r (by simpa using h)
    have e : cells3 (s :: rs) = .int .i64 s.a :: .int .i64 s.b :: .int .i64 s.c :: cells3 rs := by simp [cells3, R3.cells]
    rw [e, show (k + 1) * 3 = k * 3 + 3 from by omega]
    simpa using ih
theorem cells3_one (rs : List R3) : ∀ u ∈ cells3 rs, u.oneCell' = true := by
  intro u hu
  simp [cells3, R3.cells] at hu
  obtain ⟨r, _, h | h | h⟩ := hu <;> subst h <;> rfl
theorem cells3_set : ∀ (rs : List R3) (k : Nat) (r : R3), k < rs.length → (((cells3 rs).set (k * 3) (.int .i64 r.a)).set (k * 3 + 1) (.int .i64 r.b)).set (k * 3 + 2) (.int .i64 r.c) = cells3 (rs.set k r)
  | [], k, r, h => by simp at h
  | s :: rs, 0, r, h => by simp [cells3, R3.cells]
  | s :: rs, k + 1, r, h => by
    have ih := cells3_set rs k r (by simpa using h)
    have e : cells3 (s :: rs) = .int .i64 s.a :: .int .i64 s.b :: .int .i64 s.c :: cells3 rs := by simp [cells3, R3.cells]
    have e2 : cells3 ((s :: rs).set (k + 1) r) = .int .i64 s.a :: .int .i64 s.b :: .int .i64 s.c :: cells3 (rs.set k r) := by simp [cells3, R3.cells]
    rw [e, e2, ← ih, show (k + 1) * 3 = k * 3 + 3 from by omega]
    simp
theorem cells3_append (xs ys : List R3) : cells3 xs ++ cells3 ys = cells3 (xs ++ ys) := by simp [cells3]

/-- A slice that reads as a list of triples. -/
def S3 (w : World) (A : Option Addr) (n : Nat) (rs : List R3) : Prop := Rd w 3 A n (cells3 rs)
section
variable {w w' : World} {A : Option Addr} {n : Nat} {rs : List R3}
theorem S3.len (h : S3 w A n rs) : rs.length = n := by have := h.1; rw [length_cells3] at this; omega
theorem S3.pick (h : S3 w A n rs) {k : Nat} (hk : k < n) : ∃ r b off, Hid (rs[k]? = some r) ∧ r ∈ rs ∧ A = some ⟨b, off, none⟩ ∧ b < w.heap.size ∧
    w.cell? ⟨b, off + k * 3, none⟩ = some (.int .i64 r.a) ∧ w.cell? ⟨b, off + k * 3 + 1, none⟩ = some (.int .i64 r.b) ∧ w.cell? ⟨b, off + k * 3 + 2, none⟩ = some (.int .i64 r.c) := by
  have hl := h.len
  have hr : rs[k]? = some (rs[k]'(by omega)) := List.getElem?_eq_getElem (by omega)
  obtain ⟨h0, h1, h2⟩ := cells3_get rs k _ hr
  obtain ⟨b, off, e, hc⟩ := h.2 (by rw [length_cells3]; omega)
  obtain ⟨l0, g0⟩ := List.getElem?_eq_some_iff.1 h0
  obtain ⟨l1, g1⟩ := List.getElem?_eq_some_iff.1 h1
  obtain ⟨l2, g2⟩ := List.getElem?_eq_some_iff.1 h2
  have k0 := hc _ l0
  have k1 := hc _ l1
  have k2 := hc _ l2
  rw [g0] at k0
  rw [g1] at k1
  rw [g2] at k2
  exact ⟨_, b, off, hr, List.getElem_mem _, e, World.block_lt_of_cell? w _ k0, k0, by rw [Nat.add_assoc]; exact k1, by rw [Nat.add_assoc]; exact k2⟩
theorem S3.below (h : S3 w A n rs) (hb : Below w.heap.size w w') : S3 w' A n rs := Rd.below h hb
theorem S3.drewN (h : S3 w A n rs) (k : Nat) : S3 (w.drewN k) A n rs := h
theorem S3.alloc (h : S3 w A n rs) (o : Obj) : S3 (w.alloc o) A n rs := Rd.alloc h o
end
/-- After k copies into a list of zeros. -/
def copied3 (rs : List R3) (k : Nat) : List R3 := rs.take k ++ List.replicate (rs.length - k) ⟨0, 0, 0⟩
theorem copied3_end (rs : List R3) {k : Nat} (h : rs.length ≤ k) : copied3 rs k = rs := by
  unfold copied3
  rw [List.take_of_length_le h, show rs.length - k = 0 from by omega]; simp
theorem length_copied3 (rs : List R3) (k : Nat) (h : k ≤ rs.length) : (copied3 rs k).length = rs.length := by simp [copied3]; omega
theorem copied3_next (rs : List R3) (k : Nat) (r : R3) (h : rs[k]? = some r) : (copied3 rs k).set k r = copied3 rs (k + 1) := by
  obtain ⟨hk, rfl⟩ := List.getElem?_eq_some_iff.1 h
  unfold copied3
  have e1 : (rs.take k).length = k := by simp; omega
  rw [List.set_append_right _ _ (by omega), e1, Nat.sub_self, List.take_succ_eq_append_getElem hk, show rs.length - k = (rs.length - (k + 1)) + 1 from by omega, List.replicate_succ]
  simp only [List.set_cons_zero, List.append_assoc, List.singleton_append]
theorem made_cells3 (n : Nat) (rs : List R3) (h : rs.length = n) : (madeCells (Value.agg #[.int .i64 0, .int .i64 0, .int .i64 0]).cells (n * 3)).toList = cells3 (copied3 rs 0) := by
  show (madeCells #[Value.int .i64 0, .int .i64 0, .int .i64 0] (n * 3)).toList = _
  have e : copied3 rs 0 = List.replicate n ⟨0, 0, 0⟩ := by simp [copied3, h]
  rw [e]
  apply List.ext_getElem?
  intro j
  by_cases hj : j < n * 3
  · obtain ⟨q, r, rfl, hr⟩ : ∃ q r, j = q * 3 + r ∧ r < 3 := ⟨j / 3, j % 3, by omega, by omega⟩
    have hq : (List.replicate n (⟨0, 0, 0⟩ : R3))[q]? = some ⟨0, 0, 0⟩ := by rw [List.getElem?_replicate, if_pos (by omega)]
    obtain ⟨h0, h1, h2⟩ := cells3_get _ q _ hq
    have hm : (q * 3 + r) % 3 = r := by omega
    match r, hr with
    | 0, _ => simp only [Nat.add_zero] at hj hm ⊢; rw [h0]; simp [madeCells, hj]
    | 1, _ => rw [h1]; simp [madeCells, hj, hm]
    | 2, _ => rw [h2]; simp [madeCells, hj, hm]
  · have hl : (cells3 (List.replicate n (⟨0, 0, 0⟩ : R3))).length = n * 3 := by rw [length_cells3]; simp
    rw [List.getElem?_eq_none (by simp [size_madeCells]; omega), List.getElem?_eq_none (by omega)]
def same3 (xs ys : List R3) : Bool := decide (xs = ys)
theorem same3_self (xs : List R3) : same3 xs xs = true := by simp [same3]
def sameR (x y : R3) : Bool := decide (x = y)
theorem same3_ne {xs ys : List R3} {x y : R3} {k : Nat} (hx : xs[k]? = some x) (hy : ys[k]? = some y) (h : (!sameR x y) = true) : false = same3 xs ys := by
  unfold same3; symm; rw [decide_eq_false_iff_not]; rintro rfl
  rw [hx] at hy
  simp at hy
  simp [sameR, hy] at h
theorem same3_len {xs ys : List R3} {n m : Nat} (h : ¬ n = m) (hx : xs.length = n) (hy : ys.length = m) : false = same3 xs ys := by
  unfold same3; symm; rw [decide_eq_false_iff_not]; rintro rfl; omega
theorem same3_eq {xs ys : List R3} {n k : Nat} (hk : n ≤ k) (hx : xs.length = n) (hy : ys.length = n) (h : xs.take k = ys.take k) : true = same3 xs ys := by
  rw [List.take_of_length_le (by omega), List.take_of_length_le (by omega)] at h
  unfold same3; symm; rw [decide_eq_true_iff]; exact h
theorem same3_next {xs ys : List R3} {x y : R3} {k : Nat} (hx : xs[k]? = some x) (hy : ys[k]? = some y) (h : xs.take k = ys.take k) (h1 : (!sameR x y) = false) : xs.take (k + 1) = ys.take (k + 1) := by
  obtain ⟨hk, rfl⟩ := List.getElem?_eq_some_iff.1 hx
  obtain ⟨hk', rfl⟩ := List.getElem?_eq_some_iff.1 hy
  rw [List.take_succ_eq_append_getElem hk, List.take_succ_eq_append_getElem hk', h]
  simp [sameR] at h1
  rw [h1]
end Go.Proofs.Ythipbeggaeogcaa

/-
  From the reading of an argument that is a slice of triples to the words of the walks. No program is in sight.
-/
namespace Go.Proofs.Ythipbeggaeogcaa
open Go.ChangeShapes Go.WideShapes Go.ChangeAt Go.RowKit Go.Deep

theorem addr_add_add (a : Addr) (i j : Nat) (w : World) (v : Value) (h : w.cell? ((a.add i).add j) = some v) : w.cell? (a.add (i + j)) = some v := by
  rw [← h]
  congr 1
  unfold Addr.add
  by_cases hi : i = 0 <;> by_cases hj : j = 0 <;> simp_all <;> omega

section
variable {H : Type} {enc : TypeId × Value → H} {P : Program} {w : World} {base : Nat} {held : Bool}
/-- A slice of triples that came in. -/
theorem s3_of_trod {t e q : TypeId} {f0 f1 f2 : Field} {fuel : Nat} {v : Value} {x : DataW H × List MemPlace} (ht : P.underlying t = some (.slice e)) (he : P.underlying e = some (.struct #[f0, f1, f2])) (t0 : f0.type = q) (t1 : f1.type = q) (t2 : f2.type = q) (o0 : f0.offset = 0) (o1 : f1.offset = 1) (o2 : f2.offset = 2) (hq : P.underlying q = some (.int .i64)) (ce : P.cellsOf e = 3) (cq : P.cellsOf q = 1)
    (h : DataW.trod enc P w base (fun _ => true) held fuel t [v] = some x) :
    ∃ A n c rs, v = .slice A n c ∧ S3 w A n rs ∧ n ≤ c ∧ c ≤ 9223372036854775807 := by
  rcases open_slice ht h with ⟨hcs, _⟩ | ⟨a, len, cap, m, n, D, Pl, hcs, _, hl, hm, hmm, _, hi⟩
  · simp at hcs; subst hcs
    exact ⟨none, 0, 0, [], rfl, Rd.nil, by omega, by omega⟩
  · simp at hcs; subst hcs
    simp at hmm; subst hmm
    have hm' : m ≤ 9223372036854775807 := by simp only [maxLen] at hm; omega
    have each : ∀ i, i < m → ∃ r : R3, w.cell? (a.add (i * 3 + 0)) = some (.int .i64 r.a) ∧ w.cell? (a.add (i * 3 + 1)) = some (.int .i64 r.b) ∧ w.cell? (a.add (i * 3 + 2)) = some (.int .i64 r.c) := by
      intro i him
      obtain ⟨cs', hc, htr⟩ := hi i him
      rw [ce] at hc
      obtain ⟨_, hlen, hcell⟩ := World.cells?_some hc
      obtain ⟨y0, y1, y2, n', _, _, h0, h1, h2⟩ := trod_struct3 he htr
      rw [t0, o0, cq] at h0
      rw [t1, o1, cq] at h1
      rw [t2, o2, cq] at h2
      match cs', hlen, hcell, h0, h1, h2 with
      | [c0, c1, c2], _, hcell, h0, h1, h2 =>
        simp at h0 h1 h2
        obtain ⟨z0, e0, _, _⟩ := DataW.trod_int hq h0
        obtain ⟨z1, e1, _, _⟩ := DataW.trod_int hq h1
        obtain ⟨z2, e2, _, _⟩ := DataW.trod_int hq h2
        simp only [List.cons.injEq, and_true] at e0 e1 e2
        subst e0 e1 e2
        exact ⟨⟨z0, z1, z2⟩, addr_add_add _ _ _ _ _ (by simpa using hcell 0 (by omega)), addr_add_add _ _ _ _ _ (by simpa using hcell 1 (by omega)), addr_add_add _ _ _ _ _ (by simpa using hcell 2 (by omega))⟩
    have hall : ∃ T : Nat → R3, ∀ i, i < m → w.cell? (a.add (i * 3 + 0)) = some (.int .i64 (T i).a) ∧ w.cell? (a.add (i * 3 + 1)) = some (.int .i64 (T i).b) ∧ w.cell? (a.add (i * 3 + 2)) = some (.int .i64 (T i).c) :=
      ⟨fun i => if h : i < m then (each i h).choose else ⟨0, 0, 0⟩, fun i him => by simp only [him, dif_pos]; exact (each i him).choose_spec⟩
    obtain ⟨T, hT⟩ := hall
    refine ⟨some a, len, m, (List.range len).map T, rfl, ⟨by rw [length_cells3]; simp, fun hn => ?_⟩, hl, hm'⟩
    rw [length_cells3] at hn
    simp at hn
    have h0 := (hT 0 (by omega)).1
    have hs : a = ⟨a.block, a.off, none⟩ := by
      rcases addr_none h0 with h1 | h1
      · exact h1
      · omega
    refine ⟨a.block, a.off, by rw [← hs], fun k hk => ?_⟩
    have hk2 := hk
    rw [length_cells3] at hk2
    simp at hk2
    obtain ⟨i, j, hj, rfl⟩ : ∃ i j, j < 3 ∧ k = i * 3 + j := ⟨k / 3, k % 3, by omega, by omega⟩
    have hg : ((List.range len).map T)[i]? = some (T i) := by simp [show i < len by omega]
    obtain ⟨g0, g1, g2⟩ := cells3_get _ _ _ hg
    obtain ⟨q0, q1, q2⟩ := hT i (by omega)
    rw [hs, add_lit] at q0 q1 q2
    match j, hj with
    | 0, _ => rw [q0, ← g0]; exact List.getElem?_eq_getElem _
    | 1, _ => rw [q1, ← g1]; exact List.getElem?_eq_getElem _
    | 2, _ => rw [q2, ← g2]; exact List.getElem?_eq_getElem _
end
end Go.Proofs.Ythipbeggaeogcaa

/-
  Contracts of the laws' helpers over []int64: szInt64S, toInt64S, eqInt64S, markInt64S, heldInt64S.
-/
namespace Go.Proofs.Ythipbeggaeogcaa
open Go.RowKit

theorem elI : Elem Try.prog 25 2 1 8 (.int .i64 0) := ⟨Try.underlying25, by kernel_rfl, rfl, by decide⟩

def szF (left n : Int) : Int := if left < n then -1 else left - n

set_option maxHeartbeats 400000 in
theorem szI (A : Option Addr) (n c : Nat) (left : Int) (w : World) (hn : n ≤ 9223372036854775807) (h0 : 0 ≤ left) (h1 : left ≤ 1048576) :
    Calls Try.prog 71 #[.slice A n c, .int .i64 left] w fun e w' => e = .returned (.int .i64 (szF left n)) ∧ w = w' := by
  by_cases h : left < n
  · have h2 : left - n < 0 := by omega
    go_enter Try.func71, Try.ntmps71
    go_wp2
    go_ret
    exact ⟨ret_int (by unfold szF; rw [if_pos h]), rfl⟩
  · have h2 : ¬ left - n < 0 := by omega
    go_enter Try.func71, Try.ntmps71
    go_wp2
    go_ret
    exact ⟨ret_int (by unfold szF; rw [if_neg (by omega)]), rfl⟩

set_option maxHeartbeats 400000 in
theorem eqI (A B : Option Addr) (n m c d : Nat) (xs ys : List Int) (w : World) (hx : SI w A n xs) (hy : SI w B m ys) (hn : n ≤ 9223372036854775807) :
    Calls Try.prog 35 #[.slice A n c, .slice B m d] w fun e w' => e = .returned (.bool (sameI xs ys)) ∧ ∃ q, w' = w.drewN q := by
  by_cases hnm : n = m
  · subst hnm
    go_enter Try.func35, Try.ntmps35
    go_wp2
    go_loopw [5] (fun i wr => ∃ k q : Nat, k ≤ n ∧ i = .int .i64 k ∧ Hid (xs.take k = ys.take k) ∧ wr = w.drewN q) (fun i _ => n - (intOf i).toNat)
    case atStart => exact ⟨0, 0, by omega, rfl, rfl, rfl⟩
    case round =>
      obtain ⟨k, q, hk, rfl, he, rfl⟩ := hrel
      by_cases hlt : k < n
      · obtain ⟨b, off, rfl, _, hc⟩ := hx.at_ hlt
        obtain ⟨b', off', rfl, _, hc'⟩ := hy.at_ hlt
        go_wp2
        go_quiet (fail)
        go_wp2
        · go_ret
          exact ⟨ret_bool (sameI_ne hlt hx.len hy.len (by assumption)), _, World.drewN_drewN _ _ _⟩
        · exact ⟨⟨k + 1, _, by omega, by go_num, take_next hlt hx.len hy.len he.out (by assumption), rfl⟩, by simp [intOf]; omega⟩
      · go_wp2
        go_ret
        exact ⟨ret_bool (sameI_eq (by omega) hx.len hy.len he.out), _, rfl⟩
  · have hne : ((n : Int) != (m : Int)) = true := by simp; omega
    go_enter Try.func35, Try.ntmps35
    go_wp2
    go_ret
    exact ⟨ret_bool (sameI_len hnm hx.len hy.len), 0, rfl⟩

set_option maxHeartbeats 400000 in
theorem heldI (A : Option Addr) (n c : Nat) (xs : List Int) (m : Int) (w : World) (hx : SI w A n xs) (h0 : 0 ≤ m) (h1 : m + n ≤ 9223372036854775807) :
    Calls Try.prog 39 #[.slice A n c, .int .i64 m] w fun e w' => e = .returned (.int .i64 (heldF m xs)) ∧ w = w' := by
  go_enter Try.func39, Try.ntmps39
  go_wp2
  go_loop [1, 5] (fun q i => ∃ k : Nat, k ≤ n ∧ i = .int .i64 k ∧ q = .int .i64 (m + k) ∧ Hid (xs.take k = (marks m n).take k)) (fun _ i => n - (intOf i).toNat)
  case atStart => exact ⟨0, by omega, rfl, by simp, rfl⟩
  case round =>
    obtain ⟨k, hk, rfl, rfl, he⟩ := hrel
    by_cases hlt : k < n
    · obtain ⟨b, off, rfl, _, hc⟩ := hx.at_ hlt
      go_wp2
      · go_ret
        exact ⟨ret_int (heldF_ne hlt hx.len (by assumption)), rfl⟩
      · exact ⟨⟨k + 1, by omega, by go_num, by go_num, held_next hlt hx.len he.out (by assumption)⟩, by simp [intOf]; omega⟩
    · go_wp2
      go_ret
      exact ⟨ret_int (heldF_eq (by omega) hx.len he.out (by omega)), rfl⟩

def MarkI (w : World) (lo hi : Nat) (A : Option Addr) (n c : Nat) (m : Int) (e : Ending) (w' : World) : Prop :=
  e = .returned (.int .i64 (m + n)) ∧ OwnE w' lo 2 A n c (marks m n) ∧ Tch lo hi w w' ∧ ∀ b, blk A ≠ some b → w'.heap[b]? = w.heap[b]?

set_option maxHeartbeats 400000 in
theorem markI (A : Option Addr) (n c : Nat) (xs : List Int) (m : Int) (w : World) (lo hi : Nat) (hx : OwnE w lo 2 A n c xs) (hh : ∀ b, blk A = some b → b < hi) (h0 : 0 ≤ m) (h1 : m + n ≤ 9223372036854775807) :
    Calls Try.prog 38 #[.slice A n c, .int .i64 m] w (MarkI w lo hi A n c m) := by
  have hl : xs.length = n := by have := hx.si.len; omega
  have HL := Lib.hid hl
  have hxl : n ≤ xs.length := by omega
  clear hl
  go_enter Try.func38, Try.ntmps38
  go_wp2
  go_loopw [1, 5] (fun q i wr => ∃ k : Nat, k ≤ n ∧ i = .int .i64 k ∧ q = .int .i64 (m + k) ∧ OwnE wr lo 2 A n c (marked m xs k) ∧ Tch lo hi w wr ∧ Hid (∀ b, blk A ≠ some b → wr.heap[b]? = w.heap[b]?)) (fun _ i _ => n - (intOf i).toNat)
  case atStart => exact ⟨0, by omega, rfl, by simp, by rw [marked_zero]; exact hx, Tch.refl _ _ _, fun _ _ => rfl⟩
  case round =>
    obtain ⟨k, hk, rfl, rfl, ho, ht, hfar⟩ := hrel
    by_cases hlt : k < n
    · have hml : k < (ints (marked m xs k)).length := by rw [length_ints, length_marked _ _ _ (by omega)]; omega
      have ho := ho.resolve_left (fun h => by omega)
      obtain ⟨b, off, rfl, hlo, _, hc, hf⟩ := ho.at_ hml
      have hbh := hh b rfl
      have ho2 := ho.set_ hml (.int .i64 (m + k))
      rw [ints_set, marked_next _ _ _ (by omega)] at ho2
      have ht2 := ht.setCell (p := ⟨b, off + k, none⟩) hlo hbh (.int .i64 (m + k))
      have hfar2 : Hid (∀ b', blk (some ⟨b, off, none⟩) ≠ some b' → (wr.setCell ⟨b, off + k, none⟩ (.int .i64 (m + k))).heap[b']? = w.heap[b']?) := fun b' hb' => (Below.heap_setCell _ _ _ _ (fun e => hb' (by rw [e]; rfl))).trans (hfar.out b' hb')
      go_wp2
      exact ⟨⟨k + 1, by omega, by go_num, by go_num, .inr ho2, ht2, hfar2⟩, by simp [intOf]; omega⟩
    · go_wp2
      go_ret
      obtain rfl : k = n := by omega
      have hoo := ho
      have e2 : marked m xs k = marks m k := by rw [← HL.out, marked_end]
      rw [e2] at hoo
      exact ⟨rfl, hoo, ht, hfar.out⟩

def ToI (w : World) (n : Nat) (xs : List Int) (e : Ending) (w' : World) : Prop :=
  ∃ A, e = .returned (.slice A n n) ∧ Own w' w.heap.size 2 1 A n n (ints xs) ∧ Below w.heap.size w w'

set_option maxHeartbeats 400000 in
theorem toI (A : Option Addr) (n c : Nat) (xs : List Int) (w : World) (hx : SI w A n xs) (hn : n ≤ 1048576) :
    Calls Try.prog 33 #[.slice A n c] w (ToI w n xs) := by
  have HL := Lib.hid hx.len
  have hxl : n ≤ xs.length := by have := hx.len; omega
  have hxl' : xs.length ≤ n := by have := hx.len; omega
  go_enter Try.func33, Try.ntmps33
  go_wp2_with (at_make; refine wpList_make_Own rfl (.tmp 6) (.tmp 6) rfl elI (n := n) (lo := w.heap.size) rfl rfl (by omega) (by unfold maxLen; omega) (Nat.le_refl _) ?_; intro w2 ho2 hb2 hs2)
  rw [made_ints n xs HL.out] at ho2
  have HS := Lib.hid hs2
  clear hs2
  go_loopw [4] (fun i wr => ∃ k : Nat, k ≤ n ∧ i = .int .i64 k ∧ Own wr w.heap.size 2 1 (some ⟨w.heap.size, 0, none⟩) n n (ints (copied xs k)) ∧ Below w.heap.size w wr) (fun i _ => n - (intOf i).toNat)
  case atStart => exact ⟨0, by omega, rfl, ho2, hb2⟩
  case round =>
    obtain ⟨k, hk, rfl, ho, hb⟩ := hrel
    by_cases hlt : k < n
    · obtain ⟨b, off, rfl, hbl, hc⟩ := (hx.below hb).at_ hlt
      have hml : k < (ints (copied xs k)).length := by rw [length_ints, length_copied _ _ (by omega)]; omega
      obtain ⟨b', off', he, hlo, _, hc', hf'⟩ := ho.at_ hml
      simp only [Option.some.injEq, Addr.mk.injEq, and_true] at he
      obtain ⟨rfl, rfl⟩ := he
      have ho3 := ho.set_ hml (.int .i64 (xs[k]'(by omega)))
      rw [ints_set, copied_next _ _ (by omega)] at ho3
      have hb3 := hb.setCell (p := ⟨w.heap.size, 0 + k, none⟩) (Nat.le_refl _) (.int .i64 (xs[k]'(by omega)))
      simp only [Nat.zero_add] at hc' hf' ho3 hb3
      go_wp2
      exact ⟨⟨k + 1, by omega, by go_num, ho3, hb3⟩, by simp [intOf]; omega⟩
    · go_wp2
      go_ret
      have hoo := ho
      rw [copied_end xs (by omega)] at hoo
      exact ⟨_, rfl, hoo, hb⟩

/-- A slice in new memory. -/
def NewI (w : World) (xs : List Int) (e : Ending) (w' : World) : Prop :=
  ∃ A c, e = .returned (.slice A xs.length c) ∧ Own w' w.heap.size 2 1 A xs.length c (ints xs) ∧ Below w.heap.size w w'

/-- A slice in new memory and a number. -/
def NewI2 (w : World) (r : List Int × Int) (e : Ending) (w' : World) : Prop :=
  ∃ A c, e = .returned (.tuple #[.slice A r.1.length c, .int .i64 r.2]) ∧ Own w' w.heap.size 2 1 A r.1.length c (ints r.1) ∧ Below w.heap.size w w'


/-- What marking a copy does: the number goes on, the memory is as it was but for the copies' cells. -/
def MarkP (T : List TypeId) (w : World) (lo hi : Nat) (t : Nat) (m : Int) (e : Ending) (w' : World) : Prop := e = .returned (.int .i64 (m + t)) ∧ MkF T lo hi w w'

set_option maxHeartbeats 400000 in
theorem markI_m (T : List TypeId) (A : Option Addr) (n c : Nat) (m : Int) (w : World) (lo hi : Nat) (hx : Mk w lo hi 2 1 A n) (hT : 2 ∈ T) (h0 : 0 ≤ m) (h1 : m + n ≤ 9223372036854775807) :
    Calls Try.prog 38 #[.slice A n c, .int .i64 m] w (MarkP T w lo hi n m) := by
  have HT := Lib.hid hT
  clear hT
  go_enter Try.func38, Try.ntmps38
  go_wp2
  go_loopw [1, 5] (fun q i wr => ∃ k : Nat, k ≤ n ∧ i = .int .i64 k ∧ q = .int .i64 (m + k) ∧ Mk wr lo hi 2 1 A n ∧ MkF T lo hi w wr) (fun _ i _ => n - (intOf i).toNat)
  case atStart => exact ⟨0, by omega, rfl, by simp, hx, MkF.refl _ _ _ _⟩
  case round =>
    obtain ⟨k, hk, rfl, rfl, ho, ht⟩ := hrel
    by_cases hlt : k < n
    · obtain ⟨b, off, cur, v, rfl, hlo, hhi, hg, hc, hf⟩ := ho.at_ (k := k) (by omega)
      have ht2 := ht.setCell (i := off + k) hg HT.out hlo hhi (.int .i64 (m + k))
      have ho2 := ho.mkf ((MkF.refl T lo hi wr).setCell (i := off + k) hg HT.out hlo hhi (.int .i64 (m + k)))
      have HG := Lib.hid hg
      clear hg
      go_wp2
      exact ⟨⟨k + 1, by omega, by go_num, by go_num, ho2, ht2⟩, by simp [intOf]; omega⟩
    · go_wp2
      go_ret
      obtain rfl : k = n := by omega
      exact ⟨rfl, ht⟩
end Go.Proofs.Ythipbeggaeogcaa

/-
  Contracts of the laws' helpers over [][]int64: szInt64SS, toInt64SS, eqInt64SS, markInt64SS.
-/
namespace Go.Proofs.Ythipbeggaeogcaa
open Go.RowKit

theorem elII : Elem Try.prog 22 25 1 24 (.slice none 0 0) := ⟨Try.underlying22, by kernel_rfl, rfl, by decide⟩

set_option maxHeartbeats 400000 in
theorem szII (A : Option Addr) (n c : Nat) (ts : List Sl) (left : Int) (w : World) (hx : SII w A n ts) (hn : n ≤ 9223372036854775807) (hns : ∀ t ∈ ts, t.xs.length ≤ 9223372036854775807) (h0 : 0 ≤ left) (h1 : left ≤ 1048576) :
    Calls Try.prog 70 #[.slice A n c, .int .i64 left] w fun e w' => e = .returned (.int .i64 (szRows left (n :: ts.map (fun t => t.xs.length)))) ∧ w = w' := by
  by_cases h : left < n
  · have h2 : left - n < 0 := by omega
    go_enter Try.func70, Try.ntmps70
    go_wp2
    go_ret
    exact ⟨ret_int (by unfold szRows; rw [if_pos h]), rfl⟩
  · have h2 : ¬ left - n < 0 := by omega
    go_enter Try.func70, Try.ntmps70
    go_wp2
    go_loop [1, 5] (fun q i => ∃ (k : Nat) (z : Int), k ≤ n ∧ i = .int .i64 k ∧ q = .int .i64 z ∧ 0 ≤ z ∧ z ≤ 1048576 ∧ Hid (szRows left (n :: ts.map (fun t => t.xs.length)) = szRows z ((ts.drop k).map (fun t => t.xs.length)))) (fun _ i => n - (intOf i).toNat)
    case atStart => exact ⟨0, left - n, by omega, rfl, rfl, by omega, by omega, by show _ = _; rw [szRows, if_neg (by omega)]; simp⟩
    case round =>
      obtain ⟨k, z, hk, rfl, rfl, hz0, hz1, he⟩ := hrel
      by_cases hlt : k < n
      · obtain ⟨t, b, off, hT, htm, rfl, _, hc, hr⟩ := hx.pick hlt
        have hrl := hns t htm
        by_cases hzl : z < (t.xs.length : Int)
        · have HS : Hid (szF z (t.xs.length : Int) = -1) := by show _ = _; unfold szF; rw [if_pos hzl]
          go_wp2_with (go_at_call 71; refine (szI _ _ _ _ _ (by omega) (by omega) (by omega)).mono ?_; rintro e w' ⟨rfl, rfl⟩; rw [HS.out])
          go_ret
          refine ⟨ret_int ?_, rfl⟩
          rw [he.out, szRows_at hT.out, if_pos hzl]
        · have HS : Hid (szF z (t.xs.length : Int) = z - (t.xs.length : Int)) := by show _ = _; unfold szF; rw [if_neg hzl]
          go_wp2_with (go_at_call 71; refine (szI _ _ _ _ _ (by omega) (by omega) (by omega)).mono ?_; rintro e w' ⟨rfl, rfl⟩; rw [HS.out])
          refine ⟨⟨k + 1, _, by omega, by go_num, rfl, by omega, by omega, ?_⟩, by simp [intOf]; omega⟩
          show _ = _
          rw [he.out, szRows_at hT.out, if_neg (by omega)]
      · go_wp2
        go_ret
        refine ⟨ret_int ?_, rfl⟩
        have := hx.len
        rw [he.out, List.drop_eq_nil_of_le (by omega)]
        rfl

set_option maxHeartbeats 400000 in
theorem eqII (A B : Option Addr) (n m c d : Nat) (ts us : List Sl) (w : World) (hx : SII w A n ts) (hy : SII w B m us) (hn : n ≤ 9223372036854775807) (hns : ∀ t ∈ ts, t.xs.length ≤ 9223372036854775807) :
    Calls Try.prog 67 #[.slice A n c, .slice B m d] w fun e w' => e = .returned (.bool (sameII (nums ts) (nums us))) ∧ ∃ q, w' = w.drewN q := by
  by_cases hnm : n = m
  · subst hnm
    go_enter Try.func67, Try.ntmps67
    go_wp2
    go_loopw [5] (fun i wr => ∃ k q : Nat, k ≤ n ∧ i = .int .i64 k ∧ Hid ((nums ts).take k = (nums us).take k) ∧ wr = w.drewN q) (fun i _ => n - (intOf i).toNat)
    case atStart => exact ⟨0, 0, by omega, rfl, rfl, rfl⟩
    case round =>
      obtain ⟨k, q, hk, rfl, he, rfl⟩ := hrel
      by_cases hlt : k < n
      · obtain ⟨t, b, off, hT, htm, rfl, _, hc, hr⟩ := hx.pick hlt
        obtain ⟨u, b', off', hU, hum, rfl, _, hc', hr'⟩ := hy.pick hlt
        have hrl := hns t htm
        go_wp2
        go_quiet ((go_at_call 35; exact quiet_add (eqI _ _ _ _ _ _ _ _ _ (hr.drewN _) (hr'.drewN _) hrl)))
        go_wp2
        · go_ret
          exact ⟨ret_bool (sameII_ne hT.out hU.out (by assumption)), _, World.drewN_drewN _ _ _⟩
        · exact ⟨⟨k + 1, _, by omega, by go_num, nums_next hT.out hU.out he.out (by assumption), rfl⟩, by simp [intOf]; omega⟩
      · go_wp2
        go_ret
        exact ⟨ret_bool (sameII_eq (by omega) hx.len hy.len he.out), _, rfl⟩
  · have hne : ((n : Int) != (m : Int)) = true := by simp; omega
    go_enter Try.func67, Try.ntmps67
    go_wp2
    go_ret
    exact ⟨ret_bool (by have := hx.len; have := hy.len; unfold sameII; symm; rw [decide_eq_false_iff_not]; intro h; have := congrArg List.length h; simp [nums] at this; omega), 0, rfl⟩

def ToII (w : World) (n : Nat) (xss : List (List Int)) (e : Ending) (w' : World) : Prop :=
  ∃ A us, e = .returned (.slice A n n) ∧ OII w' w.heap.size 25 2 A n n us ∧ nums us = xss ∧ (∀ u ∈ us, u.c = u.xs.length) ∧ Below w.heap.size w w'

set_option maxHeartbeats 400000 in
theorem toII (A : Option Addr) (n c : Nat) (ts : List Sl) (w : World) (hx : SII w A n ts) (hn : n ≤ 1048576) (hns : ∀ t ∈ ts, t.xs.length ≤ 1048576) :
    Calls Try.prog 75 #[.slice A n c] w (ToII w n (nums ts)) := by
  have HL := Lib.hid hx.len
  have hxl : n ≤ ts.length := by have := hx.len; omega
  have hxl' : ts.length ≤ n := by have := hx.len; omega
  go_enter Try.func75, Try.ntmps75
  go_wp2_with (at_make; refine wpList_make_Own rfl (.tmp 6) (.tmp 6) rfl elII (n := n) (lo := w.heap.size) rfl rfl (by omega) (by unfold maxLen; omega) (Nat.le_refl _) ?_; intro w2 ho2 hb2 hs2)
  rw [made_rows n] at ho2
  have HS := Lib.hid hs2
  clear hs2
  go_loopw [4] (fun i wr => ∃ (k : Nat) (us : List Sl), k ≤ n ∧ i = .int .i64 k ∧ Hid (us.length = k) ∧ Hid (nums us = (nums ts).take k) ∧ Own wr w.heap.size 25 1 (some ⟨w.heap.size, 0, none⟩) n n (halfRows us (n - k)) ∧
    Hid (∀ u ∈ us, Own wr w.heap.size 2 1 u.A u.xs.length u.c (ints u.xs) ∧ u.c = u.xs.length) ∧ us.Pairwise Apt ∧ Below w.heap.size w wr) (fun i _ => n - (intOf i).toNat)
  case atStart => exact ⟨0, [], by omega, rfl, rfl, by simp [nums, Hid], ho2, fun _ h => absurd h (by simp), List.Pairwise.nil, hb2⟩
  case round =>
    obtain ⟨k, us, hk, rfl, hul, hnu, ho, hu, hp, hb⟩ := hrel
    by_cases hlt : k < n
    · obtain ⟨t, b, off, hT, htm, rfl, hbl, hc, hr⟩ := (hx.below hb).pick hlt
      have hrl := hns t htm
      go_wp2_with fail
      refine (toI _ _ _ _ _ hr (by omega)).mono ?_
      rintro e w3 ⟨A3, rfl, ho3, hb3⟩
      have hwz : w.heap.size < wr.heap.size := ho.blk_lt w.heap.size rfl
      have ho4 := ho.below hb3
      have hkl : k < (halfRows us (n - k)).length := by rw [halfRows_len, hul.out]; omega
      obtain ⟨b', off', he, hlo, _, hc', hf'⟩ := ho4.at_ hkl
      simp only [Option.some.injEq, Addr.mk.injEq, and_true] at he
      obtain ⟨rfl, rfl⟩ := he
      have ho5 := ho4.set_ hkl (.slice A3 t.xs.length t.xs.length)
      have e5 : (halfRows us (n - k)).set k (.slice A3 t.xs.length t.xs.length) = halfRows (us ++ [⟨A3, t.xs.length, t.xs⟩]) (n - (k + 1)) := by
        have := halfRows_next us (n - (k + 1)) ⟨A3, t.xs.length, t.xs⟩
        rw [hul.out, show n - (k + 1) + 1 = n - k from by omega] at this
        exact this
      rw [e5] at ho5
      simp only [Nat.zero_add] at hc' hf' ho5
      have hb5 := ((hb.trans (hb3.mono (by omega))).setCell (p := ⟨w.heap.size, k, none⟩) (Nat.le_refl _) (.slice A3 t.xs.length t.xs.length))
      have hu5 : Hid (∀ u ∈ us ++ [(⟨A3, t.xs.length, t.xs⟩ : Sl)], Own (w3.setCell ⟨w.heap.size, k, none⟩ (.slice A3 t.xs.length t.xs.length)) w.heap.size 2 1 u.A u.xs.length u.c (ints u.xs) ∧ u.c = u.xs.length) := by
        intro u hum
        rcases List.mem_append.1 hum with h | h
        · refine ⟨((hu.out u h).1.below hb3).far (p := ⟨w.heap.size, k, none⟩) (fun e => ?_) _, (hu.out u h).2⟩
          exact Own.blk_ne ((hu.out u h).1) ho (by decide) _ e rfl
        · simp only [List.mem_singleton] at h
          subst h
          refine ⟨(ho3.mono (by omega)).far (p := ⟨w.heap.size, k, none⟩) (fun e => ?_) _, rfl⟩
          have := ho3.blk_ge _ e
          simp only at this; omega
      have hp5 : (us ++ [(⟨A3, t.xs.length, t.xs⟩ : Sl)]).Pairwise Apt := Apt.snoc hp (fun u hum b hb1 hb2 => by
        have h1 := (hu.out u hum).1.blk_lt b hb1
        have h2 := ho3.blk_ge b hb2
        omega)
      have hnu5 : Hid (nums (us ++ [(⟨A3, t.xs.length, t.xs⟩ : Sl)]) = (nums ts).take (k + 1)) := nums_take_next hT.out hnu.out rfl
      have hul5 : Hid ((us ++ [(⟨A3, t.xs.length, t.xs⟩ : Sl)]).length = k + 1) := by show _ = _; rw [List.length_append, hul.out]; rfl
      clear e5 ho4 ho
      go_wp2
      exact ⟨⟨k + 1, _, by omega, by go_num, hul5, hnu5, ho5, hu5, hp5, hb5⟩, by simp [intOf]; omega⟩
    · go_wp2
      go_ret
      have e1 : n - k = 0 := by omega
      have hoo := ho
      rw [e1, halfRows_end] at hoo
      refine ⟨_, us, rfl, ⟨hoo, fun u h => (hu.out u h).1, hp⟩, ?_, fun u h => (hu.out u h).2, hb⟩
      rw [hnu.out, List.take_of_length_le (by simp [nums]; omega)]

theorem total_take {ts : List Sl} {t : Sl} {k : Nat} (hT : ts[k]? = some t) : total (ts.take (k + 1)) = total (ts.take k) + t.xs.length := by
  obtain ⟨h, rfl⟩ := List.getElem?_eq_some_iff.1 hT
  unfold total; rw [List.take_succ_eq_append_getElem h, List.map_append, List.sum_append]; simp
theorem total_take_le (ts : List Sl) (k : Nat) : total (ts.take k) ≤ total ts := by
  have e : total ts = total (ts.take k) + total (ts.drop k) := by unfold total; rw [← List.sum_append, ← List.map_append, List.take_append_drop]
  omega

set_option maxHeartbeats 400000 in
theorem markII_m (T : List TypeId) (A : Option Addr) (n c : Nat) (ts : List Sl) (m : Int) (w : World) (lo hi : Nat) (hx : MkII w lo hi 25 2 A n c ts) (hT : 2 ∈ T) (hT2 : 25 ∉ T) (hn : n ≤ 9223372036854775807) (h0 : 0 ≤ m) (h1 : m + total ts ≤ 9223372036854775807) :
    Calls Try.prog 68 #[.slice A n c, .int .i64 m] w (MarkP T w lo hi (total ts) m) := by
  have hl : ts.length = n := by have := hx.1.1; simp at this; omega
  have HL := Lib.hid hl
  have HT := Lib.hid hT
  have HT2 := Lib.hid hT2
  clear hl hT hT2
  go_enter Try.func68, Try.ntmps68
  go_wp2
  go_loopw [1, 5] (fun q i wr => ∃ k : Nat, k ≤ n ∧ i = .int .i64 k ∧ q = .int .i64 (m + total (ts.take k)) ∧ MkII wr lo hi 25 2 A n c ts ∧ MkF T lo hi w wr) (fun _ i _ => n - (intOf i).toNat)
  case atStart => exact ⟨0, by omega, rfl, by simp [total], hx, MkF.refl _ _ _ _⟩
  case round =>
    obtain ⟨k, hk, rfl, rfl, ho, ht⟩ := hrel
    by_cases hlt : k < n
    · have hkl : k < ts.length := by have := HL.out; omega
      obtain ⟨t, hT⟩ : ∃ t, ts[k]? = some t := ⟨ts[k], List.getElem?_eq_getElem hkl⟩
      have hmem : t ∈ ts := List.mem_of_getElem? hT
      have HTO := Lib.hid (total_take hT)
      have hle := total_take_le ts (k + 1)
      obtain ⟨b, off, rfl, _, _, hc, _⟩ := ho.1.at_ (k := k) (by simpa using hkl)
      have hcv : wr.cell? ⟨b, off + k, none⟩ = some (.slice t.A t.xs.length t.c) := by rw [hc]; obtain ⟨h, rfl⟩ := List.getElem?_eq_some_iff.1 hT; simp [Sl.val]
      have hle2 : (total (ts.take k) : Int) + t.xs.length ≤ total ts := by have := HTO.out; omega
      clear hc hT hle
      go_wp2_with (go_at_call 38; refine (markI_m T _ _ _ _ _ lo hi (ho.2 t hmem) HT.out (by omega) (by omega)).mono ?_; rintro e w3 ⟨rfl, ht3⟩)
      refine ⟨⟨k + 1, by omega, by go_num, ?_, ho.mkf ht3 HT2.out, ht.trans ht3⟩, by simp [intOf]; omega⟩
      rw [HTO.out]; go_num
    · go_wp2
      go_ret
      refine ⟨ret_int ?_, ht⟩
      rw [List.take_of_length_le (by have := HL.out; omega)]
end Go.Proofs.Ythipbeggaeogcaa

/-
  Contracts of impl's smallest functions: within, size, allWithin; slices.Clone.
-/
namespace Go.Proofs.Ythipbeggaeogcaa
open Go.RowKit

def inB (n lo hi : Int) : Bool := decide (lo ≤ n) && decide (n ≤ hi)
def allIn (xs : List Int) (lo hi : Int) : Bool := xs.all (fun x => inB x lo hi)
theorem inB_iff (n lo hi : Int) : inB n lo hi = true ↔ lo ≤ n ∧ n ≤ hi := by simp [inB]

set_option maxHeartbeats 400000 in
theorem within_any (n lo hi : Int) (w : World) :
    Calls Try.prog 85 #[.int .i64 n, .int .i64 lo, .int .i64 hi] w fun e w' => e = .returned (.bool (inB n lo hi)) ∧ w = w' := by
  by_cases h1 : lo ≤ n <;> by_cases h2 : n ≤ hi
  all_goals
    go_enter Try.func85, Try.ntmps85
    go_wp2
    go_ret
    exact ⟨ret_bool (by simp [inB]; omega), rfl⟩

theorem sizeI_any (A : Option Addr) (n c : Nat) (w : World) (_h : n ≤ 9223372036854775807) :
    Calls Try.prog 104 #[.slice A n c] w fun e w' => e = .returned (.int .i64 n) ∧ w = w' := by
  go_enter Try.func104, Try.ntmps104
  go_wp2
  go_ret
  exact ⟨rfl, rfl⟩

theorem allIn_at {xs : List Int} {lo hi : Int} {k n : Nat} (hk : k < n) (hl : xs.length = n) (h : (!inB (xs[k]'(by omega)) lo hi) = true) : false = allIn xs lo hi := by
  symm; unfold allIn; rw [List.all_eq_false]
  exact ⟨_, List.getElem_mem (by omega : k < xs.length), by simpa using h⟩
theorem allIn_next {xs : List Int} {lo hi : Int} {k n : Nat} (hk : k < n) (hl : xs.length = n) (h : (!inB (xs[k]'(by omega)) lo hi) = false) (he : allIn (xs.take k) lo hi = true) : allIn (xs.take (k + 1)) lo hi = true := by
  rw [List.take_succ_eq_append_getElem (by omega)]
  simp only [allIn, List.all_append, Bool.and_eq_true] at he ⊢
  exact ⟨he, by simpa using h⟩
theorem allIn_end {xs : List Int} {lo hi : Int} {k n : Nat} (hk : n ≤ k) (hl : xs.length = n) (he : allIn (xs.take k) lo hi = true) : true = allIn xs lo hi := by
  rw [List.take_of_length_le (by omega)] at he; exact he.symm

set_option maxHeartbeats 400000 in
theorem allWithin_any (A : Option Addr) (n c : Nat) (xs : List Int) (lo hi : Int) (w : World) (hx : SI w A n xs) (hn : n ≤ 9223372036854775807) :
    Calls Try.prog 103 #[.slice A n c, .int .i64 lo, .int .i64 hi] w fun e w' => e = .returned (.bool (allIn xs lo hi)) ∧ w = w' := by
  go_enter Try.func103, Try.ntmps103
  go_wp2
  go_loop [11] (fun i => ∃ k : Nat, k ≤ n ∧ i = .int .i64 k ∧ Hid (allIn (xs.take k) lo hi = true)) (fun i => n - (intOf i).toNat)
  case atStart => exact ⟨0, by omega, rfl, rfl⟩
  case round =>
    obtain ⟨k, hk, rfl, he⟩ := hrel
    by_cases hlt : k < n
    · obtain ⟨b, off, rfl, _, hc⟩ := hx.at_ hlt
      go_wp2_with (go_at_call 85; refine (within_any _ _ _ _).mono ?_; rintro e w' ⟨rfl, rfl⟩)
      · go_ret
        exact ⟨ret_bool (allIn_at hlt hx.len (by assumption)), rfl⟩
      · exact ⟨⟨k + 1, by omega, by go_num, allIn_next hlt hx.len (by assumption) he.out⟩, by simp [intOf]; omega⟩
    · go_wp2
      go_ret
      exact ⟨ret_bool (allIn_end (by omega) hx.len he.out), rfl⟩

set_option maxHeartbeats 400000 in
theorem cloneI_any (A : Option Addr) (n c : Nat) (xs : List Int) (w : World) (hx : SI w A n xs) (hn : n ≤ 1048576) :
    Calls Try.prog 112 #[.slice A n c] w (NewI w xs) := by
  have HL := Lib.hid hx.len
  have hnil := fun (w : World) (a : Option Addr) (n c : Nat) => Lib.run_eql_slice_nil (P := Try.prog) w 25 2 a n c 0 0 Try.underlying25
  rcases A with _ | ad
  · have hn0 : n = 0 := by
      rcases Nat.eq_zero_or_pos n with h | h
      · exact h
      · obtain ⟨b, off, e, _⟩ := hx.at_ h; cases e
    subst hn0
    have hx0 : xs = [] := List.eq_nil_of_length_eq_zero HL.out
    subst hx0
    go_enter Try.func112, Try.ntmps112
    go_wp2
    go_ret
    exact ⟨none, 0, rfl, Own.nil, Below.refl _ _⟩
  · go_enter Try.func112, Try.ntmps112
    go_wp2_with (at_builtin; refine wpList_append_Own rfl (.tmp 5) (.tmp 6) rfl elI (lo := w.heap.size) rfl (Own.lit0 w _ 1) rfl (Rd.alloc hx _) (ints_one xs) (by omega) (by simp only [maxLen]; omega) (by simp) ?_; intro A2 c2 w2 ho2 hg2 _)
    go_ret
    have hbb := (Own.lit0 w 2 1).below_of ((Below.refl _ _).alloc (Nat.le_refl _) _) hg2 (by simp)
    simp only [List.nil_append] at ho2
    refine ⟨A2, c2, ?_, ?_, hbb⟩
    · rw [HL.out]; simp
    · rw [HL.out]; simpa using ho2

theorem within_is {n lo hi : Int} {b : Bool} (h : inB n lo hi = b) (w : World) :
    Calls Try.prog 85 #[.int .i64 n, .int .i64 lo, .int .i64 hi] w fun e w' => e = .returned (.bool b) ∧ w = w' := h ▸ within_any n lo hi w
end Go.Proofs.Ythipbeggaeogcaa

/-
  The first row with a property. No program is in sight.
-/
namespace Go.Proofs.Ythipbeggaeogcaa
open Go.RowKit

def firstB (p : List Int → Bool) (xss : List (List Int)) : Int := match xss.findIdx? p with | some k => k | none => -1
theorem firstB_at {p : List Int → Bool} {ts : List Sl} {t : Sl} {k : Nat} (hT : ts[k]? = some t) (h : p t.xs = true) (he : ((nums ts).take k).any p = false) : (k : Int) = firstB p (nums ts) := by
  unfold firstB
  obtain ⟨hk, rfl⟩ := List.getElem?_eq_some_iff.1 hT
  have : (nums ts).findIdx? p = some k := by
    rw [List.findIdx?_eq_some_iff_getElem]
    refine ⟨by simpa [nums] using hk, by simpa [nums] using h, fun j hj => ?_⟩
    rw [List.any_eq_false] at he
    have := he ((nums ts)[j]'(by simp [nums]; omega)) (by rw [List.mem_take_iff_getElem]; exact ⟨j, by simp [nums]; omega, rfl⟩)
    simpa using this
  rw [this]
theorem firstB_none {p : List Int → Bool} {ts : List Sl} {k n : Nat} (hk : n ≤ k) (hl : ts.length = n) (he : ((nums ts).take k).any p = false) : -1 = firstB p (nums ts) := by
  unfold firstB
  rw [List.take_of_length_le (by simp [nums]; omega)] at he
  have : (nums ts).findIdx? p = none := by
    rw [List.findIdx?_eq_none_iff]
    intro x hx
    rw [List.any_eq_false] at he
    simpa using he x hx
  rw [this]
theorem firstB_next {p : List Int → Bool} {ts : List Sl} {t : Sl} {k : Nat} (hT : ts[k]? = some t) (h : p t.xs = false) (he : ((nums ts).take k).any p = false) : ((nums ts).take (k + 1)).any p = false := by
  obtain ⟨hk, rfl⟩ := List.getElem?_eq_some_iff.1 hT
  rw [List.take_succ_eq_append_getElem (by simpa [nums] using hk), List.any_append, he]
  simpa [nums] using h
theorem firstB_ge (p : List Int → Bool) (xss : List (List Int)) : decide (0 ≤ firstB p xss) = xss.any p := by
  unfold firstB
  cases h : xss.findIdx? p with
  | some k =>
    obtain ⟨hk, hp, _⟩ := List.findIdx?_eq_some_iff_getElem.1 h
    have : xss.any p = true := List.any_eq_true.2 ⟨_, List.getElem_mem hk, hp⟩
    rw [this]; simp
  | none =>
    have : xss.any p = false := by rw [List.any_eq_false]; intro x hx; simpa using List.findIdx?_eq_none_iff.1 h x hx
    rw [this]; simp
end Go.Proofs.Ythipbeggaeogcaa

/-
  Contracts of impl's small functions that the tag systems use.
-/
namespace Go.Proofs.Ythipbeggaeogcaa
open Go.RowKit

theorem sizeII_any (A : Option Addr) (n c : Nat) (w : World) (_h : n ≤ 9223372036854775807) :
    Calls Try.prog 96 #[.slice A n c] w fun e w' => e = .returned (.int .i64 n) ∧ w = w' := by
  go_enter Try.func96, Try.ntmps96
  go_wp2
  go_ret
  exact ⟨rfl, rfl⟩
def tagWordB (xs : List Int) (letters : Int) : Bool := decide (xs.length ≤ 1000) && allIn xs 0 (letters - 1)
set_option maxHeartbeats 400000 in
theorem isTagWord_any (A : Option Addr) (n c : Nat) (xs : List Int) (letters : Int) (w : World) (hx : SI w A n xs) (hn : n ≤ 9223372036854775807) (h1 : 0 ≤ letters) (h2 : letters ≤ 9223372036854775807) :
    Calls Try.prog 147 #[.slice A n c, .int .i64 letters] w fun e w' => e = .returned (.bool (tagWordB xs letters)) ∧ w = w' := by
  have hl := Lib.hid hx.len
  by_cases h3 : n ≤ 1000
  · have h4 : (n : Int) ≤ 1000 := by omega
    go_enter Try.func147, Try.ntmps147
    go_wp2_with (go_at_call 103; refine (allWithin_any _ _ _ _ _ _ _ hx hn).mono ?_; rintro e w' ⟨rfl, rfl⟩)
    go_ret
    exact ⟨ret_bool (by unfold tagWordB; rw [hl.out]; simp [h3]), rfl⟩
  · have h4 : ¬ (n : Int) ≤ 1000 := by omega
    go_enter Try.func147, Try.ntmps147
    go_wp2
    go_ret
    exact ⟨ret_bool (by unfold tagWordB; rw [hl.out]; simp; omega), rfl⟩

def risesB (xs : List Int) : Bool := decide (xs.Pairwise (· < ·))
theorem rises_next {xs : List Int} {k : Nat} (h : (xs.take k).Pairwise (· < ·)) (h0 : 1 ≤ k) (hk : k < xs.length) (hlt : xs[k - 1] < xs[k]) : (xs.take (k + 1)).Pairwise (· < ·) := by
  rw [List.take_succ_eq_append_getElem hk, List.pairwise_append]
  refine ⟨h, by simp, fun a ha b hb => ?_⟩
  simp at hb; subst hb
  obtain ⟨j, hj, rfl⟩ := List.getElem_of_mem ha
  simp at hj
  rw [List.getElem_take]
  by_cases hjk : j = k - 1
  · subst hjk; exact hlt
  · have h2 := List.pairwise_iff_getElem.1 h j (k - 1) (by simp; omega) (by simp; omega) (by omega)
    rw [List.getElem_take, List.getElem_take] at h2
    omega
theorem rises_not {xs : List Int} {k : Nat} (h0 : 1 ≤ k) (hk : k < xs.length) (hge : xs[k] ≤ xs[k - 1]) : false = risesB xs := by
  symm; unfold risesB; rw [decide_eq_false_iff_not]; intro h
  have := List.pairwise_iff_getElem.1 h (k - 1) k (by omega) hk (by omega)
  omega
theorem rises_end {xs : List Int} {k n : Nat} (hk : n ≤ k) (hl : xs.length = n) (h : (xs.take k).Pairwise (· < ·)) : true = risesB xs := by
  rw [List.take_of_length_le (by omega)] at h
  symm; unfold risesB; rw [decide_eq_true_iff]; exact h
set_option maxHeartbeats 400000 in
theorem rising_any (A : Option Addr) (n c : Nat) (xs : List Int) (w : World) (hx : SI w A n xs) (hn : n ≤ 9223372036854775800) :
    Calls Try.prog 158 #[.slice A n c] w fun e w' => e = .returned (.bool (risesB xs)) ∧ ∃ q, w' = w.drewN q := by
  go_enter Try.func158, Try.ntmps158
  go_wp2
  go_loopw [3] (fun i wr => ∃ k q : Nat, 1 ≤ k ∧ k ≤ n + 1 ∧ i = .int .i64 k ∧ Hid ((xs.take k).Pairwise (· < ·)) ∧ wr = w.drewN q) (fun i _ => n + 1 - (intOf i).toNat)
  case atStart => exact ⟨1, 0, by omega, by omega, rfl, by rcases xs with _ | ⟨a, r⟩ <;> simp [Hid], rfl⟩
  case round =>
    obtain ⟨k, q, hk1, hk, rfl, he, rfl⟩ := hrel
    by_cases hlt : k < n
    · obtain ⟨b, off, rfl, _, hc⟩ := hx.at_ hlt
      obtain ⟨b', off', he', _, hc'⟩ := hx.at_ (k := k - 1) (by omega)
      simp only [Option.some.injEq, Addr.mk.injEq, and_true] at he'
      obtain ⟨rfl, rfl⟩ := he'
      have i1 : (0 : Int) ≤ (k : Int) - 1 := by omega
      have i2 : ((k : Int) - 1).toNat = k - 1 := by omega
      go_wp2
      go_quiet (fail)
      clear i2
      have HXL := Lib.hid hx.len
      go_wp2
      · go_ret
        exact ⟨ret_bool (rises_not hk1 (by have := HXL.out; omega) (by assumption)), _, World.drewN_drewN _ _ _⟩
      · exact ⟨⟨k + 1, _, by omega, by omega, by go_num, rises_next he.out hk1 (by have := HXL.out; omega) (by omega), rfl⟩, by simp [intOf]; omega⟩
    · go_wp2
      go_ret
      exact ⟨ret_bool (rises_end (by omega) hx.len he.out), _, rfl⟩

/-- The closure of wordsOk: its parameter, then the captured number's place. -/
theorem wordsOk1_any (A : Option Addr) (n c : Nat) (xs : List Int) (letters : Int) (b off : Nat) (w : World) (hx : SI w A n xs) (hn : n ≤ 9223372036854775807) (h1 : 0 ≤ letters) (h2 : letters ≤ 9223372036854775807)
    (hc : w.cell? ⟨b, off, none⟩ = some (.int .i64 letters)) :
    Calls Try.prog 195 #[.slice A n c, .pointer (some ⟨b, off, none⟩)] w fun e w' => e = .returned (.bool (!tagWordB xs letters)) ∧ w = w' := by
  go_enter Try.func195, Try.ntmps195
  go_wp2_with (go_at_call 147; refine (isTagWord_any _ _ _ _ _ _ hx hn h1 h2).mono ?_; rintro e w' ⟨rfl, rfl⟩)
  go_ret
  exact ⟨rfl, rfl⟩

set_option maxHeartbeats 400000 in
theorem indexFuncII_any (A : Option Addr) (n c : Nat) (ts : List Sl) (f : FuncId) (cp : Value) (p : List Int → Bool) (w : World) (hx : SII w A n ts) (hn : n ≤ 9223372036854775807) (hcall : ∀ (args : Array Value) (w : World), (callFunc f args).run Try.prog w = .ok (.enter f args) w)
    (hf : Hid (∀ t ∈ ts, Calls Try.prog f #[.slice t.A t.xs.length t.c, cp] w fun e w' => e = .returned (.bool (p t.xs)) ∧ w = w')) :
    Calls Try.prog 217 #[.slice A n c, .func (.func f) #[] #[cp]] w fun e w' => e = .returned (.int .i64 (firstB p (nums ts))) ∧ w = w' := by
  go_enter Try.func217, Try.ntmps217
  go_wp2
  go_loop [8] (fun i => ∃ k : Nat, k ≤ n ∧ i = .int .i64 k ∧ Hid (((nums ts).take k).any p = false)) (fun i => n - (intOf i).toNat)
  case atStart => exact ⟨0, by omega, rfl, rfl⟩
  case round =>
    obtain ⟨k, hk, rfl, he⟩ := hrel
    by_cases hlt : k < n
    · obtain ⟨t, b, off, hT, htm, rfl, _, hc, hr⟩ := hx.pick hlt
      go_wp2_with fail
      refine (hf.out t htm).mono ?_
      rintro e w' ⟨rfl, rfl⟩
      cases hp : p t.xs
      · have HP := Lib.hid hp
        clear hp
        go_wp2
        exact ⟨⟨k + 1, by omega, by go_num, firstB_next hT.out HP.out he.out⟩, by simp [intOf]; omega⟩
      · have HP := Lib.hid hp
        clear hp
        go_wp2
        go_ret
        exact ⟨ret_int (firstB_at hT.out HP.out he.out), rfl⟩
    · go_wp2
      go_ret
      exact ⟨ret_int (firstB_none (by omega) hx.len he.out), rfl⟩

set_option maxHeartbeats 400000 in
theorem containsFuncII_any (A : Option Addr) (n c : Nat) (ts : List Sl) (f : FuncId) (cp : Value) (p : List Int → Bool) (w : World) (hx : SII w A n ts) (hn : n ≤ 9223372036854775807) (hcall : ∀ (args : Array Value) (w : World), (callFunc f args).run Try.prog w = .ok (.enter f args) w)
    (hf : Hid (∀ t ∈ ts, Calls Try.prog f #[.slice t.A t.xs.length t.c, cp] w fun e w' => e = .returned (.bool (p t.xs)) ∧ w = w')) :
    Calls Try.prog 194 #[.slice A n c, .func (.func f) #[] #[cp]] w fun e w' => e = .returned (.bool ((nums ts).any p)) ∧ w = w' := by
  go_enter Try.func194, Try.ntmps194
  go_wp2_with (go_at_call 217; refine (indexFuncII_any _ _ _ ts _ _ p _ hx hn hcall hf).mono ?_; rintro e w' ⟨rfl, rfl⟩)
  go_ret
  exact ⟨ret_bool (firstB_ge p (nums ts)), rfl⟩

def wordsB (xss : List (List Int)) (letters : Int) : Bool := xss.all (fun xs => tagWordB xs letters)
theorem wordsB_not (xss : List (List Int)) (letters : Int) : (!xss.any (fun xs => !tagWordB xs letters)) = wordsB xss letters := by
  unfold wordsB; rw [List.not_any_eq_all_not]; simp

set_option maxHeartbeats 400000 in
theorem wordsOk_any (A : Option Addr) (n c : Nat) (ts : List Sl) (letters : Int) (w : World) (hx : SII w A n ts) (hn : n ≤ 9223372036854775807) (hns : ∀ t ∈ ts, t.xs.length ≤ 9223372036854775807) (h1 : 0 ≤ letters) (h2 : letters ≤ 9223372036854775807) :
    Calls Try.prog 157 #[.slice A n c, .int .i64 letters] w fun e w' => e = .returned (.bool (wordsB (nums ts) letters)) ∧ Below w.heap.size w w' := by
  have hw1 : (w.alloc (.cells #[.int .i64 letters] 2)).cell? ⟨w.heap.size, 0, none⟩ = some (.int .i64 letters) := by rw [cell_of_row _ w.heap.size 0 #[.int .i64 letters] 2 (0, 0) (heap_alloc_new w _)]; rfl
  have HW := Lib.hid hw1
  clear hw1
  go_enter Try.func157, Try.ntmps157
  go_wp2_with fail
  refine (containsFuncII_any _ _ _ ts _ _ (fun xs => !tagWordB xs letters) _ (hx.alloc _) hn Try.call195 (fun t ht => wordsOk1_any _ _ _ _ _ _ _ _ ((hx.alloc _).2 t ht) (hns t ht) h1 h2 HW.out)).mono ?_
  rintro e w' ⟨rfl, rfl⟩
  go_wp2
  go_ret
  exact ⟨ret_bool (wordsB_not _ _), (Below.refl _ _).alloc (Nat.le_refl _) _⟩

/-- Tag values: the struct as the walk has it. -/
abbrev tagV (d : Int) (A : Option Addr) (n c : Nat) (B : Option Addr) (m k : Nat) : Value := .agg #[.int .i64 d, .slice A n c, .slice B m k]

def validTagB (d : Int) (words : List (List Int)) (halting : List Int) : Bool :=
  inB d 1 4 && inB words.length 1 200 && wordsB words words.length && risesB halting && allIn halting 0 (words.length - 1)

set_option maxHeartbeats 1000000 in
theorem validTag_any (d : Int) (A : Option Addr) (n c : Nat) (ts : List Sl) (B : Option Addr) (m k : Nat) (hs : List Int) (w : World) (hx : SII w A n ts) (hy : SI w B m hs) (hn : n ≤ 1048576) (hm : m ≤ 1048576) (hns : ∀ t ∈ ts, t.xs.length ≤ 9223372036854775807) :
    Calls Try.prog 115 #[.agg #[.int .i64 d, .slice A n c, .slice B m k]] w fun e w' => e = .returned (.bool (validTagB d (nums ts) hs)) ∧ Below w.heap.size w w' := by
  have HL : Hid ((nums ts).length = n) := by show _ = _; have := hx.len; simpa [nums] using this
  have hx1 := hx.alloc (.cells #[.int .i64 d, .slice A n c, .slice B m k] 51)
  have hy1 := hy.alloc (.cells #[.int .i64 d, .slice A n c, .slice B m k] 51)
  have hb1 : Below w.heap.size w (w.alloc (.cells #[.int .i64 d, .slice A n c, .slice B m k] 51)) := (Below.refl _ _).alloc (Nat.le_refl _) _
  go_enter Try.func115, Try.ntmps115
  go_wp2_with (first
    | (go_at_call 96; refine (sizeII_any _ _ _ _ (by omega)).mono ?_; rintro e w' ⟨rfl, rfl⟩)
    | (go_at_call 85; refine (within_any _ _ _ _).mono ?_; rintro e w' ⟨rfl, rfl⟩))
  · refine (wordsOk_any _ _ _ ts _ _ hx1 (by omega) hns (by omega) (by omega)).mono ?_
    rintro e w2 ⟨rfl, hb2⟩
    have q2 : w2.cell? ⟨w.heap.size, 2, none⟩ = some (.slice B m k) := box_at hb2 2
    have hz2 : w.heap.size < w2.heap.size := by have := hb2.size; simp at this; omega
    have hy2 := hy1.below hb2
    have hbb := below_box hb2
    cases hw : wordsB (nums ts) n
    · have HW := Lib.hid hw
      clear hw
      go_wp2_with fail
      go_ret
      exact ⟨ret_bool (by unfold validTagB; rw [HL.out, HW.out]; simp), hbb⟩
    · have HW := Lib.hid hw
      clear hw
      go_wp2_with (first
        | (go_at_call 158; refine (rising_any _ _ _ _ _ hy2 (by omega)).mono ?_; rintro e w' ⟨rfl, q, rfl⟩)
        | (go_at_call 103; refine (allWithin_any _ _ _ _ _ _ _ (hy2.drewN _) (by omega)).mono ?_; rintro e w' ⟨rfl, rfl⟩))
      all_goals go_ret
      · exact ⟨ret_bool (by unfold validTagB; rw [HL.out, HW.out]; simp [*]), below_drewN hbb _⟩
      · exact ⟨ret_bool (by unfold validTagB; rw [HL.out, HW.out]; simp [*]), below_drewN hbb _⟩
  · go_ret
    exact ⟨ret_bool (by unfold validTagB; rw [HL.out]; simp [*]), hb1⟩
  · go_ret
    exact ⟨ret_bool (by unfold validTagB; rw [HL.out]; simp [*]), hb1⟩
def tagCodeF (d : Int) (words : List (List Int)) (halting xs : List Int) : Int := if validTagB d words halting && tagWordB xs words.length then 0 else 1
def haltsB (d : Int) (halting xs : List Int) : Bool := decide ((xs.length : Int) < d) || decide (xs.headD 0 ∈ halting)
end Go.Proofs.Ythipbeggaeogcaa
