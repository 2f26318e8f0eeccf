/-
  From the reading of an argument to the words of the walks, and from a walk to a row's post. No program is in sight.
-/
import Derived.Test.YtdlojbabnelbdaaPbStartI0
import Derived.Test.YtdlojbabnelbdaaPbStartI1
import Derived.ProofKit
import Derived.OpenShut
import Derived.ChangeOld
import Derived.Deep.Slices
import Derived.Lib.SmallJoins
import Derived.Deep.Strs
namespace Go.Proofs.Ytdlojbabnelbdaa
open Go.ChangeShapes Go.WideShapes Go.ChangeAt Go.RowKit Go.Deep

section
variable {H : Type} {enc : TypeId × Value → H} {P : Program} {w : World} {base : Nat} {spare : Nat → Bool} {held : Bool}

theorem addr_none {w : World} {a : Addr} {k : Nat} {v : Value} (h : w.cell? (a.add k) = some v) : a = ⟨a.block, a.off, none⟩ ∨ 0 < k := by
  by_cases hk : k = 0
  · subst hk
    have h1 : (a.add 0) = a := by simp [Addr.add]
    rw [h1] at h
    have := World.cell?_spot h
    left; cases a; simp_all
  · right; omega

/-- A slice of numbers that came in. -/
theorem si_of_trod {t e : TypeId} {fuel : Nat} {v : Value} {x : DataW H × List MemPlace} (ht : P.underlying t = some (.slice e)) (he : P.underlying e = some (.int .i64)) (hc : P.cellsOf e = 1) (h : DataW.trod enc P w base (fun _ => true) held fuel t [v] = some x) :
    ∃ A n c xs, v = .slice A n c ∧ SI w A n xs ∧ n ≤ c ∧ c ≤ 9223372036854775807 ∧ ∀ z ∈ xs, -9223372036854775808 ≤ z ∧ z ≤ 9223372036854775807 := by
  rcases open_ints ht he hc h with ⟨hcs, _⟩ | ⟨a, len, cap, zs, hcs, _, hl, hm, hz, _, hcell, hwf⟩
  · simp at hcs; subst hcs
    exact ⟨none, 0, 0, [], rfl, Rd.nil, by omega, by omega, by simp⟩
  · simp at hcs; subst hcs
    simp at hz
    have hm' : cap ≤ 9223372036854775807 := by simp only [maxLen] at hm; omega
    refine ⟨some a, len, cap, zs.take len, rfl, ⟨by rw [length_ints]; simp; omega, fun hn => ?_⟩, hl, hm', fun z hz' => ?_⟩
    · rw [length_ints] at hn
      simp at hn
      have h0 := hcell 0 (by omega)
      have hs : a = ⟨a.block, a.off, none⟩ := by
        rcases addr_none h0 with h1 | h1
        · exact h1
        · omega
      refine ⟨a.block, a.off, by rw [← hs], fun k hk => ?_⟩
      rw [length_ints] at hk
      simp at hk
      have hk' := hcell k (by omega)
      rw [hs, add_lit] at hk'
      rw [ints_get, hk']
      simp [List.getD, List.getElem?_eq_getElem (show k < zs.length by omega)]
    · have := hwf z (List.mem_of_mem_take hz')
      simpa [Lit.wf, IntKind.min, IntKind.max, IntKind.signed, IntKind.bits] using this

/-- A slice of slices of numbers that came in. -/
theorem sii_of_trod {t e q : TypeId} {fuel : Nat} {v : Value} {x : DataW H × List MemPlace} (ht : P.underlying t = some (.slice e)) (he : P.underlying e = some (.slice q)) (hq : P.underlying q = some (.int .i64)) (ce : P.cellsOf e = 1) (cq : P.cellsOf q = 1)
    (h : DataW.trod enc P w base (fun _ => true) held fuel t [v] = some x) :
    ∃ A n c ts, v = .slice A n c ∧ SII w A n ts ∧ n ≤ c ∧ c ≤ 9223372036854775807 ∧ (∀ t ∈ ts, t.xs.length ≤ t.c ∧ t.c ≤ 9223372036854775807) ∧ ∀ t ∈ ts, ∀ z ∈ t.xs, -9223372036854775808 ≤ z ∧ z ≤ 9223372036854775807 := by
  rcases open_slice1 ht ce h with ⟨hcs, _⟩ | ⟨a, len, cap, m, n, V, D, Pl, hcs, _, hl, hm, hmm, _, hi⟩
  · simp at hcs; subst hcs
    exact ⟨none, 0, 0, [], rfl, ⟨Rd.nil, by simp⟩, by omega, by omega, by simp, by simp⟩
  · simp at hcs; subst hcs
    simp at hmm; subst hmm
    have hm' : m ≤ 9223372036854775807 := by simp only [maxLen] at hm; omega
    have each : ∀ i, i < m → ∃ t : Sl, V i = t.val ∧ SI w t.A t.xs.length t.xs ∧ (t.xs.length ≤ t.c ∧ t.c ≤ 9223372036854775807) ∧ ∀ z ∈ t.xs, -9223372036854775808 ≤ z ∧ z ≤ 9223372036854775807 := by
      intro i him
      obtain ⟨A, k, c, xs, hV, hS, h1, h2, h3⟩ := si_of_trod he hq cq (hi i him).2
      have hk : xs.length = k := hS.len
      subst hk
      exact ⟨⟨A, c, xs⟩, hV, hS, ⟨h1, h2⟩, h3⟩
    have hall : ∃ T : Nat → Sl, ∀ i, i < m → V i = (T i).val ∧ SI w (T i).A (T i).xs.length (T i).xs ∧ ((T i).xs.length ≤ (T i).c ∧ (T i).c ≤ 9223372036854775807) ∧ ∀ z ∈ (T i).xs, -9223372036854775808 ≤ z ∧ z ≤ 9223372036854775807 :=
      ⟨fun i => if h : i < m then (each i h).choose else ⟨none, 0, []⟩, fun i him => by simp only [him, dif_pos]; exact (each i him).choose_spec⟩
    obtain ⟨T, hT⟩ := hall
    refine ⟨some a, len, m, (List.range len).map T, rfl, ⟨⟨by simp, fun hn => ?_⟩, fun t ht' => ?_⟩, hl, hm', fun t ht' => ?_, fun t ht' => ?_⟩
    · simp at hn
      have h0 := (hi 0 (by omega)).1
      have hs : a = ⟨a.block, a.off, none⟩ := by
        rcases addr_none h0 with h1 | h1
        · exact h1
        · omega
      refine ⟨a.block, a.off, by rw [← hs], fun k hk => ?_⟩
      simp at hk
      have hk' := (hi k (by omega)).1
      rw [hs, add_lit, (hT k (by omega)).1] at hk'
      rw [hk']; simp
    · obtain ⟨i, hi', rfl⟩ := List.mem_map.1 ht'
      exact (hT i (by have := List.mem_range.1 hi'; omega)).2.1
    · obtain ⟨i, hi', rfl⟩ := List.mem_map.1 ht'
      exact (hT i (by have := List.mem_range.1 hi'; omega)).2.2.1
    · obtain ⟨i, hi', rfl⟩ := List.mem_map.1 ht'
      exact (hT i (by have := List.mem_range.1 hi'; omega)).2.2.2
end

section
variable {H : Type} {enc : TypeId × Value → H} {P : Program}
theorem trodAll_stays (hl : laidOutB P = true) {W W' : World} {sp : Nat → Bool} (hb : Below W.heap.size W W') : ∀ {ts : List TypeId} {vs : List Value} {ds : List (DataW H)} {ps : List MemPlace}, (∀ t ∈ ts, P.readableRec t = true ∧ t < P.types.size) →
    DataW.TrodAll enc P W 0 (fun _ => true) true ts vs ds ps → (∀ x ∈ ps, x.block < W.heap.size) → (∀ x ∈ ps, sp x.block = true) → DataW.TrodAll enc P W' 0 sp true ts vs ds ps
  | [], vs, ds, ps, _, h, _, _ => by
    obtain ⟨rfl, rfl, rfl⟩ := trodAll_nil h
    exact trodAll_mk0
  | t :: ts, vs, ds, ps, hr, h, hlt, hs => by
    obtain ⟨v, vs', d, ds', p, q, rfl, rfl, rfl, h0, h1⟩ := trodAll_cons h
    exact trodAll_cons_mk (WideElems.Trod_stays hl (hr t (by simp)).1 (hr t (by simp)).2 h0 (fun x hx => hb.same (hlt x (by simp [hx]))) (fun x hx => hs x (by simp [hx])))
      (trodAll_stays hl hb (fun t' ht' => hr t' (by simp [ht'])) h1 (fun x hx => hlt x (by simp [hx])) (fun x hx => hs x (by simp [hx])))

/-- A law's post: it returned true, nothing that was there has turned. -/
theorem law_post {f : Func} {s : ChangeSpec} {b : TypeId} {W W' : World} {args : Array Value} {ds : List (DataW H)} {before : List MemPlace} (hl : laidOutB P = true) (hr : ∀ t ∈ f.params.toList, P.readableRec t = true ∧ t < P.types.size)
    (hvars : s.vars = []) (hres : f.resultTypes = #[b]) (hbool : P.underlying b = some .bool) (h1 : (s.fn H (ds ++ [])).results = [.lit (.bool true)]) (h2 : (s.fn H (ds ++ [])).args = ds) (h3 : (s.fn H (ds ++ [])).vars = [])
    (hW : DataW.Whole enc P f.params.toList s.vars false W args.toList ds [] before) (hb : Below W.heap.size W W') :
    s.post enc P f false true false false W args (.bool true) W' := by
  have hlt : ∀ p ∈ before, p.block < W.heap.size := fun p hp => hW.lt p hp
  have hold : ∀ p ∈ before, (fun b => decide (b < W.heap.size)) p.block = true := fun p hp => by simpa using hlt p hp
  obtain ⟨p, q, hA, hV, hps, hfz, hnd⟩ := id hW
  rw [hvars] at hV
  obtain ⟨_, rfl⟩ := trodVars_none hV
  simp only [List.append_nil] at hps
  subst hps
  refine ⟨ds, [], before, [], before, [], hW, ?_, ?_, ?_, World.keptBut_mono (fun p hp => ⟨hp, ?_⟩) (hb.frame (· ∈ before)), fun h => by cases h⟩
  · rw [h1, hres]
    exact trodAll_mk1 (shut_bool hbool true)
  · rw [h2]
    exact trodAll_stays hl hb hr hA hlt hold
  · rw [h3, hvars]; rfl
  · simp [hp]
end
end Go.Proofs.Ytdlojbabnelbdaa

/-
  From the reading of an argument that is a slice of triples to the words of the walks. No program is in sight.
-/
namespace Go.Proofs.Ytdlojbabnelbdaa
open Go.ChangeShapes Go.WideShapes Go.ChangeAt Go.RowKit Go.Deep

theorem addr_add_add (a : Addr) (i j : Nat) (w : World) (v : Value) (h : w.cell? ((a.add i).add j) = some v) : w.cell? (a.add (i + j)) = some v := by
  rw [← h]
  congr 1
  unfold Addr.add
  by_cases hi : i = 0 <;> by_cases hj : j = 0 <;> simp_all <;> omega

section
variable {H : Type} {enc : TypeId × Value → H} {P : Program} {w : World} {base : Nat} {held : Bool}
/-- A slice of triples that came in. -/
theorem s3_of_trod {t e q : TypeId} {f0 f1 f2 : Field} {fuel : Nat} {v : Value} {x : DataW H × List MemPlace} (ht : P.underlying t = some (.slice e)) (he : P.underlying e = some (.struct #[f0, f1, f2])) (t0 : f0.type = q) (t1 : f1.type = q) (t2 : f2.type = q) (o0 : f0.offset = 0) (o1 : f1.offset = 1) (o2 : f2.offset = 2) (hq : P.underlying q = some (.int .i64)) (ce : P.cellsOf e = 3) (cq : P.cellsOf q = 1)
    (h : DataW.trod enc P w base (fun _ => true) held fuel t [v] = some x) :
    ∃ A n c rs, v = .slice A n c ∧ S3 w A n rs ∧ n ≤ c ∧ c ≤ 9223372036854775807 := by
  rcases open_slice ht h with ⟨hcs, _⟩ | ⟨a, len, cap, m, n, D, Pl, hcs, _, hl, hm, hmm, _, hi⟩
  · simp at hcs; subst hcs
    exact ⟨none, 0, 0, [], rfl, Rd.nil, by omega, by omega⟩
  · simp at hcs; subst hcs
    simp at hmm; subst hmm
    have hm' : m ≤ 9223372036854775807 := by simp only [maxLen] at hm; omega
    have each : ∀ i, i < m → ∃ r : R3, w.cell? (a.add (i * 3 + 0)) = some (.int .i64 r.a) ∧ w.cell? (a.add (i * 3 + 1)) = some (.int .i64 r.b) ∧ w.cell? (a.add (i * 3 + 2)) = some (.int .i64 r.c) := by
      intro i him
      obtain ⟨cs', hc, htr⟩ := hi i him
      rw [ce] at hc
      obtain ⟨_, hlen, hcell⟩ := World.cells?_some hc
      obtain ⟨y0, y1, y2, n', _, _, h0, h1, h2⟩ := trod_struct3 he htr
      rw [t0, o0, cq] at h0
      rw [t1, o1, cq] at h1
      rw [t2, o2, cq] at h2
      match cs', hlen, hcell, h0, h1, h2 with
      | [c0, c1, c2], _, hcell, h0, h1, h2 =>
        simp at h0 h1 h2
        obtain ⟨z0, e0, _, _⟩ := DataW.trod_int hq h0
        obtain ⟨z1, e1, _, _⟩ := DataW.trod_int hq h1
        obtain ⟨z2, e2, _, _⟩ := DataW.trod_int hq h2
        simp only [List.cons.injEq, and_true] at e0 e1 e2
        subst e0 e1 e2
        exact ⟨⟨z0, z1, z2⟩, addr_add_add _ _ _ _ _ (by simpa using hcell 0 (by omega)), addr_add_add _ _ _ _ _ (by simpa using hcell 1 (by omega)), addr_add_add _ _ _ _ _ (by simpa using hcell 2 (by omega))⟩
    have hall : ∃ T : Nat → R3, ∀ i, i < m → w.cell? (a.add (i * 3 + 0)) = some (.int .i64 (T i).a) ∧ w.cell? (a.add (i * 3 + 1)) = some (.int .i64 (T i).b) ∧ w.cell? (a.add (i * 3 + 2)) = some (.int .i64 (T i).c) :=
      ⟨fun i => if h : i < m then (each i h).choose else ⟨0, 0, 0⟩, fun i him => by simp only [him, dif_pos]; exact (each i him).choose_spec⟩
    obtain ⟨T, hT⟩ := hall
    refine ⟨some a, len, m, (List.range len).map T, rfl, ⟨by rw [length_cells3]; simp, fun hn => ?_⟩, hl, hm'⟩
    rw [length_cells3] at hn
    simp at hn
    have h0 := (hT 0 (by omega)).1
    have hs : a = ⟨a.block, a.off, none⟩ := by
      rcases addr_none h0 with h1 | h1
      · exact h1
      · omega
    refine ⟨a.block, a.off, by rw [← hs], fun k hk => ?_⟩
    have hk2 := hk
    rw [length_cells3] at hk2
    simp at hk2
    obtain ⟨i, j, hj, rfl⟩ : ∃ i j, j < 3 ∧ k = i * 3 + j := ⟨k / 3, k % 3, by omega, by omega⟩
    have hg : ((List.range len).map T)[i]? = some (T i) := by simp [show i < len by omega]
    obtain ⟨g0, g1, g2⟩ := cells3_get _ _ _ hg
    obtain ⟨q0, q1, q2⟩ := hT i (by omega)
    rw [hs, add_lit] at q0 q1 q2
    match j, hj with
    | 0, _ => rw [q0, ← g0]; exact List.getElem?_eq_getElem _
    | 1, _ => rw [q1, ← g1]; exact List.getElem?_eq_getElem _
    | 2, _ => rw [q2, ← g2]; exact List.getElem?_eq_getElem _
end
end Go.Proofs.Ytdlojbabnelbdaa

/-
  A struct of one field, by value, opened. No program is in sight.
-/
namespace Go.Proofs.Ytdlojbabnelbdaa
open Go.ChangeShapes Go.WideShapes Go.ChangeAt Go.RowKit Go.Joins Go.Deep

section
variable {H : Type} {enc : TypeId × Value → H} {P : Program} {w : World} {base : Nat} {spare : Nat → Bool} {held : Bool}
theorem array1 {α : Type} {cs : Array α} (h : cs.size = 1) : ∃ c0, cs = #[c0] := by
  obtain ⟨l⟩ := cs
  match l, h with
  | [c0], _ => exact ⟨c0, rfl⟩
theorem trod_struct1 {t : TypeId} {f0 : Field} {fuel : Nat} {cs : List Value} {x : DataW H × List MemPlace} (ht : P.underlying t = some (.struct #[f0])) (h : DataW.trod enc P w base spare held fuel t cs = some x) :
    ∃ y0 n, x = (.agg [y0.1], y0.2) ∧ cs.length = P.cellsOf t ∧ DataW.trod enc P w base spare held n f0.type ((cs.drop f0.offset).take (P.cellsOf f0.type)) = some y0 := by
  obtain ⟨xs, n, _, rfl, hl, hlen, hf⟩ := DataW.trod_struct ht h
  match xs, hlen with
  | [y0], _ => exact ⟨y0, n, by simp, hl, by simpa using hf 0 f0 rfl⟩
theorem open_agg1 {r : Reach} {b0 : Nat} {t : TypeId} {f0 : Field} {v : Value} {d : DataW H} {p : List MemPlace} (hs : P.underlying t = some (.struct #[f0])) (hone : oneCellFields P #[f0] = true) (hC : P.cellsOf t = 1)
    (hv : Value.okWide P w r b0 t v) (h : DataW.Trod enc P w base spare held t v d p) :
    ∃ (v0 : Value) (y0 : DataW H × List MemPlace) (n : Nat), v = .agg #[v0] ∧ d = .agg [y0.1] ∧ p = y0.2 ∧ DataW.trod enc P w base spare held n f0.type [v0] = some y0 := by
  obtain ⟨cs, rfl, hsz⟩ := okWide_struct hs hv
  obtain ⟨c0, rfl⟩ := array1 (hsz.trans hC)
  obtain ⟨fuel, hf⟩ := h
  obtain ⟨y0, n, hx, _, h0⟩ := trod_struct1 hs hf
  obtain ⟨o0, k0⟩ := hone_of hone 0 f0 rfl
  simp only [Prod.mk.injEq] at hx
  exact ⟨c0, y0, n, rfl, hx.1, hx.2, by simpa [Value.cells, o0, k0] using h0⟩
end
end Go.Proofs.Ytdlojbabnelbdaa

/-
  Slices of bytes that came in; the numbers that an input chooses (r8Long, r8At).
-/
namespace Go.Proofs.Ytdlojbabnelbdaa
open Go.ChangeShapes Go.WideShapes Go.ChangeAt Go.RowKit Go.Joins Go.Deep

def byts (xs : List Int) : List Value := xs.map (Value.int .u8)
theorem length_byts (xs : List Int) : (byts xs).length = xs.length := by simp [byts]
/-- A slice of bytes. -/
def SB (w : World) (A : Option Addr) (n : Nat) (xs : List Int) : Prop := Rd w 1 A n (byts xs) ∧ ∀ x ∈ xs, 0 ≤ x ∧ x ≤ 255
section
variable {w w' : World} {A : Option Addr} {n : Nat} {xs : List Int}
theorem SB.len (h : SB w A n xs) : xs.length = n := by have := h.1.1; rw [length_byts] at this; omega
theorem SB.below (h : SB w A n xs) (z : Below w.heap.size w w') : SB w' A n xs := ⟨h.1.below z, h.2⟩
theorem SB.drewN (h : SB w A n xs) (k : Nat) : SB (w.drewN k) A n xs := ⟨h.1.drewN k, h.2⟩
theorem SB.alloc (h : SB w A n xs) (o : Obj) : SB (w.alloc o) A n xs := ⟨h.1.alloc o, h.2⟩
theorem SB.at_ (h : SB w A n xs) {k : Nat} (hk : k < n) : ∃ b off, A = some ⟨b, off, none⟩ ∧ b < w.heap.size ∧ w.cell? ⟨b, off + k, none⟩ = some (.int .u8 (xs[k]'(by rw [h.len]; exact hk))) := by
  have hl := h.len
  obtain ⟨b, off, e, hb, hc⟩ := h.1.at_ (k := k) (by rw [length_byts]; omega)
  exact ⟨b, off, e, hb, by rw [hc]; simp [byts]⟩
end
section
variable {H : Type} {enc : TypeId × Value → H} {P : Program} {w : World} {base : Nat} {held : Bool}
/-- A slice of bytes that came in. -/
theorem sb_of_trod {t e : TypeId} {fuel : Nat} {v : Value} {x : DataW H × List MemPlace} (ht : P.underlying t = some (.slice e)) (he : P.underlying e = some (.int .u8)) (hc : P.cellsOf e = 1) (h : DataW.trod enc P w base (fun _ => true) held fuel t [v] = some x) :
    ∃ A n c xs, v = .slice A n c ∧ SB w A n xs ∧ n ≤ c ∧ c ≤ 9223372036854775807 := by
  rcases open_ints ht he hc h with ⟨hcs, _⟩ | ⟨a, len, cap, zs, hcs, _, hl, hm, hz, _, hcell, hwf⟩
  · simp at hcs; subst hcs
    exact ⟨none, 0, 0, [], rfl, ⟨Rd.nil, by simp⟩, by omega, by omega⟩
  · simp at hcs; subst hcs
    simp at hz
    have hm' : cap ≤ 9223372036854775807 := by simp only [maxLen] at hm; omega
    refine ⟨some a, len, cap, zs.take len, rfl, ⟨⟨by rw [length_byts]; simp; omega, fun hn => ?_⟩, fun z hz' => ?_⟩, hl, hm'⟩
    · rw [length_byts] at hn
      simp at hn
      have h0 := hcell 0 (by omega)
      have hs : a = ⟨a.block, a.off, none⟩ := by
        rcases addr_none h0 with h1 | h1
        · exact h1
        · omega
      refine ⟨a.block, a.off, by rw [← hs], fun k hk => ?_⟩
      rw [length_byts] at hk
      simp at hk
      have hk' := hcell k (by omega)
      rw [hs, add_lit] at hk'
      rw [hk']
      simp [byts, List.getD, List.getElem?_eq_getElem (show k < zs.length by omega)]
    · have := hwf z (List.mem_of_mem_take hz')
      simpa [Lit.wf, IntKind.min, IntKind.max, IntKind.signed, IntKind.bits] using this
end

def longB (n m : Nat) : Bool := decide (1048576 < n) || decide (1048576 < m)
set_option maxHeartbeats 400000 in
theorem r8Long_any (A B : Option Addr) (n c m d : Nat) (w : World) (hn : n ≤ 9223372036854775807) (hm : m ≤ 9223372036854775807) :
    Calls Try.prog 12 #[.slice A n c, .slice B m d] w fun e w' => e = .returned (.bool (longB n m)) ∧ w = w' := by
  go_enter Try.func12, Try.ntmps12
  go_wp2
  all_goals
    go_ret
    exact ⟨ret_bool (by unfold longB; rw [Bool.eq_iff_iff]; simp; omega), rfl⟩
/-- The number below n that an input chooses at place k. -/
def r8AtF (xs : List Int) (k : Nat) (n : Int) : Int := if n ≤ 1 ∨ xs.length ≤ k then 0 else (xs.getD k 0) % n
theorem r8AtF_range (xs : List Int) (k : Nat) (n : Int) (_h : ∀ x ∈ xs, 0 ≤ x ∧ x ≤ 255) : 0 ≤ r8AtF xs k n ∧ (1 ≤ n → r8AtF xs k n < n) := by
  unfold r8AtF
  split
  · omega
  · rename_i h1
    have h2 : 1 < n := by omega
    exact ⟨Int.emod_nonneg _ (by omega), fun _ => Int.emod_lt_of_pos _ (by omega)⟩
set_option maxHeartbeats 1000000 in
theorem r8At_any (A : Option Addr) (m c : Nat) (xs : List Int) (k : Nat) (n : Int) (w : World) (hx : SB w A m xs) (_hm : m ≤ 9223372036854775807) (hk : k ≤ 1000000) (hn0 : 0 ≤ n) (hn : n ≤ 1000000) :
    Calls Try.prog 14 #[.slice A m c, .int .i64 (k : Int), .int .i64 n] w fun e w' => e = .returned (.int .i64 (r8AtF xs k n)) ∧ w = w' := by
  have HL := Lib.hid hx.len
  by_cases h1 : n ≤ 1
  · go_enter Try.func14, Try.ntmps14
    go_wp2_with fail
    go_ret
    exact ⟨ret_int (by unfold r8AtF; rw [if_pos (.inl h1)]), rfl⟩
  by_cases h2 : m ≤ k
  · go_enter Try.func14, Try.ntmps14
    go_wp2_with fail
    go_ret
    exact ⟨ret_int (by unfold r8AtF; rw [if_pos (.inr (by rw [HL.out]; exact h2))]), rfl⟩
  have hkm : k < m := by omega
  obtain ⟨b, off, rfl, _, hc⟩ := hx.at_ hkm
  obtain ⟨y, hy⟩ : ∃ y, y = xs[k]'(by rw [HL.out]; exact hkm) := ⟨_, rfl⟩
  have hy2 := hx.2 _ (List.getElem_mem (l := xs) (n := k) (by rw [HL.out]; exact hkm))
  rw [← hy] at hc hy2
  have HY : Hid (r8AtF xs k n = y % n) := Lib.hid (by
    unfold r8AtF
    rw [if_neg (by rw [HL.out]; omega), hy]
    congr 1
    simp [List.getD, List.getElem?_eq_getElem (show k < xs.length by rw [HL.out]; exact hkm)])
  clear hy
  have i1 : (0 : Int) ≤ (k : Int) := by omega
  have i2 : (k : Int) < (m : Int) := by omega
  have n0 : ¬ n = 0 := by omega
  go_enter Try.func14, Try.ntmps14
  go_wp2_with fail
  go_ret
  exact ⟨ret_int (HY.out.symm), rfl⟩
end Go.Proofs.Ytdlojbabnelbdaa

/-
  Whether two lists are equal (r8Same).
-/
namespace Go.Proofs.Ytdlojbabnelbdaa
open Go.RowKit

/-- A slice that came in lies in a block that is there. -/
theorem okWide_blk {P : Program} {w : World} {r : Reach} {base : Nat} {t e : TypeId} {A : Option Addr} {n c : Nat} (ht : P.underlying t = some (.slice e)) (h : Value.okWide P w r base t (.slice A n c)) : ∀ k, blk A = some k → k < w.heap.size := by
  intro k hk
  cases A with
  | none => cases hk
  | some a =>
    simp only [Value.okWide, ht, Cell.okWide, Cell.ok] at h
    obtain ⟨_, _, _, _, row, cells, hs, _⟩ := h
    have hk' : a.block = k := by simpa [blk] using hk
    subst hk'
    refine Nat.lt_of_not_le fun hle => ?_
    unfold World.shape? at hs
    rw [Array.getElem?_eq_none hle] at hs
    cases hs
set_option maxHeartbeats 400000 in
theorem r8Same_any (A B : Option Addr) (n m c d : Nat) (xs ys : List Int) (w : World) (hx : SI w A n xs) (hy : SI w B m ys) (hn : n ≤ 9223372036854775807) :
    Calls Try.prog 20 #[.slice A n c, .slice B m d] w fun e w' => e = .returned (.bool (sameI xs ys)) ∧ ∃ q, w' = w.drewN q := by
  by_cases hnm : n = m
  · subst hnm
    go_enter Try.func20, Try.ntmps20
    go_wp2
    go_loopw [5] (fun i wr => ∃ k q : Nat, k ≤ n ∧ i = .int .i64 k ∧ Hid (xs.take k = ys.take k) ∧ wr = w.drewN q) (fun i _ => n - (intOf i).toNat)
    case atStart => exact ⟨0, 0, by omega, rfl, rfl, rfl⟩
    case round =>
      obtain ⟨k, q, hk, rfl, he, rfl⟩ := hrel
      by_cases hlt : k < n
      · obtain ⟨b, off, rfl, _, hc⟩ := hx.at_ hlt
        obtain ⟨b', off', rfl, _, hc'⟩ := hy.at_ hlt
        go_wp2
        go_quiet (fail)
        go_wp2
        · go_ret
          exact ⟨ret_bool (sameI_ne hlt hx.len hy.len (by assumption)), _, World.drewN_drewN _ _ _⟩
        · exact ⟨⟨k + 1, _, by omega, by go_num, take_next hlt hx.len hy.len he.out (by assumption), rfl⟩, by simp [intOf]; omega⟩
      · go_wp2
        go_ret
        exact ⟨ret_bool (sameI_eq (by omega) hx.len hy.len he.out), _, rfl⟩
  · have hne : ((n : Int) != (m : Int)) = true := by simp; omega
    go_enter Try.func20, Try.ntmps20
    go_wp2
    go_ret
    exact ⟨ret_bool (sameI_len hnm hx.len hy.len), 0, rfl⟩
theorem r8Same_yes (A B : Option Addr) (n c d : Nat) (xs : List Int) (w : World) (hx : SI w A n xs) (hy : SI w B n xs) (hn : n ≤ 9223372036854775807) :
    Calls Try.prog 20 #[.slice A n c, .slice B n d] w fun e w' => e = .returned (.bool true) ∧ ∃ q, w' = w.drewN q :=
  (r8Same_any A B n n c d xs xs w hx hy hn).mono fun _ _ ⟨h1, h2⟩ => ⟨by rw [h1]; simp [sameI], h2⟩
end Go.Proofs.Ytdlojbabnelbdaa

/-
  Slices of structs of four numbers.
-/
namespace Go.Proofs.Ytdlojbabnelbdaa
open Go.RowKit

/-- Four numbers. -/
structure R4 where
  a : Int
  b : Int
  c : Int
  d : Int
  deriving DecidableEq
def R4.cells (r : R4) : List Value := [.int .i64 r.a, .int .i64 r.b, .int .i64 r.c, .int .i64 r.d]
def cells4 (rs : List R4) : List Value := rs.flatMap R4.cells
theorem length_cells4 (rs : List R4) : (cells4 rs).length = rs.length * 4 := by
  induction rs with
  | nil => rfl
  | cons r rs ih => simp [cells4, R4.cells] at ih ⊢; omega
theorem cells4_get : ∀ (rs : List R4) (k : Nat) (r : R4), rs[k]? = some r → (cells4 rs)[k * 4]? = some (.int .i64 r.a) ∧ (cells4 rs)[k * 4 + 1]? = some (.int .i64 r.b) ∧ (cells4 rs)[k * 4 + 2]? = some (.int .i64 r.c) ∧ (cells4 rs)[k * 4 + 3]? = some (.int .i64 r.d)
  | [], k, r, h => by simp at h
  | s :: rs, 0, r, h => by simp at h; subst h; simp [cells4, R4.cells]
  | s :: rs, k + 1, r, h => by
    have ih := cells4_get rs k r (by simpa using h)
    have e : cells4 (s :: rs) = .int .i64 s.a :: .int .i64 s.b :: .int .i64 s.c :: .int .i64 s.d :: cells4 rs := by simp [cells4, R4.cells]
    rw [e, show (k + 1) * 4 = k * 4 + 4 from by omega]
    simpa using ih
theorem cells4_one (rs : List R4) : ∀ u ∈ cells4 rs, u.oneCell' = true := by
  intro u hu
  simp [cells4, R4.cells] at hu
  obtain ⟨r, _, h | h | h | h⟩ := hu <;> subst h <;> rfl
theorem cells4_set : ∀ (rs : List R4) (k : Nat) (r : R4), k < rs.length → ((((cells4 rs).set (k * 4) (.int .i64 r.a)).set (k * 4 + 1) (.int .i64 r.b)).set (k * 4 + 2) (.int .i64 r.c)).set (k * 4 + 3) (.int .i64 r.d) = cells4 (rs.set k r)
  | [], k, r, h => by simp at h
  | s :: rs, 0, r, h => by simp [cells4, R4.cells]
  | s :: rs, k + 1, r, h => by
    have ih := cells4_set rs k r (by simpa using h)
    have e : cells4 (s :: rs) = .int .i64 s.a :: .int .i64 s.b :: .int .i64 s.c :: .int .i64 s.d :: cells4 rs := by simp [cells4, R4.cells]
    have e2 : cells4 ((s :: rs).set (k + 1) r) = .int .i64 s.a :: .int .i64 s.b :: .int .i64 s.c :: .int .i64 s.d :: cells4 (rs.set k r) := by simp [cells4, R4.cells]
    rw [e, e2, ← ih, show (k + 1) * 4 = k * 4 + 4 from by omega]
    simp
theorem cells4_set_c : ∀ (rs : List R4) (k : Nat) (r : R4) (x : Int), rs[k]? = some r → (cells4 rs).set (k * 4 + 2) (.int .i64 x) = cells4 (rs.set k { r with c := x })
  | [], k, r, x, h => by simp at h
  | s :: rs, 0, r, x, h => by simp at h; subst h; simp [cells4, R4.cells]
  | s :: rs, k + 1, r, x, h => by
    have ih := cells4_set_c rs k r x (by simpa using h)
    have e : cells4 (s :: rs) = .int .i64 s.a :: .int .i64 s.b :: .int .i64 s.c :: .int .i64 s.d :: cells4 rs := by simp [cells4, R4.cells]
    have e2 : cells4 ((s :: rs).set (k + 1) { r with c := x }) = .int .i64 s.a :: .int .i64 s.b :: .int .i64 s.c :: .int .i64 s.d :: cells4 (rs.set k { r with c := x }) := by simp [cells4, R4.cells]
    rw [e, e2, ← ih, show (k + 1) * 4 + 2 = k * 4 + 2 + 4 from by omega]
    simp only [List.set_cons_succ]
theorem cells4_set_d : ∀ (rs : List R4) (k : Nat) (r : R4) (x : Int), rs[k]? = some r → (cells4 rs).set (k * 4 + 3) (.int .i64 x) = cells4 (rs.set k { r with d := x })
  | [], k, r, x, h => by simp at h
  | s :: rs, 0, r, x, h => by simp at h; subst h; simp [cells4, R4.cells]
  | s :: rs, k + 1, r, x, h => by
    have ih := cells4_set_d rs k r x (by simpa using h)
    have e : cells4 (s :: rs) = .int .i64 s.a :: .int .i64 s.b :: .int .i64 s.c :: .int .i64 s.d :: cells4 rs := by simp [cells4, R4.cells]
    have e2 : cells4 ((s :: rs).set (k + 1) { r with d := x }) = .int .i64 s.a :: .int .i64 s.b :: .int .i64 s.c :: .int .i64 s.d :: cells4 (rs.set k { r with d := x }) := by simp [cells4, R4.cells]
    rw [e, e2, ← ih, show (k + 1) * 4 + 3 = k * 4 + 3 + 4 from by omega]
    simp only [List.set_cons_succ]
theorem cells4_append (xs ys : List R4) : cells4 xs ++ cells4 ys = cells4 (xs ++ ys) := by simp [cells4]

/-- A slice that reads as a list of quadruples. -/
def S4 (w : World) (A : Option Addr) (n : Nat) (rs : List R4) : Prop := Rd w 4 A n (cells4 rs)
section
variable {w w' : World} {A : Option Addr} {n : Nat} {rs : List R4}
theorem S4.len (h : S4 w A n rs) : rs.length = n := by have := h.1; rw [length_cells4] at this; omega
theorem S4.pick (h : S4 w A n rs) {k : Nat} (hk : k < n) : ∃ r b off, Hid (rs[k]? = some r) ∧ r ∈ rs ∧ A = some ⟨b, off, none⟩ ∧ b < w.heap.size ∧
    w.cell? ⟨b, off + k * 4, none⟩ = some (.int .i64 r.a) ∧ w.cell? ⟨b, off + k * 4 + 1, none⟩ = some (.int .i64 r.b) ∧ w.cell? ⟨b, off + k * 4 + 2, none⟩ = some (.int .i64 r.c) ∧ w.cell? ⟨b, off + k * 4 + 3, none⟩ = some (.int .i64 r.d) := by
  have hl := h.len
  have hr : rs[k]? = some (rs[k]'(by omega)) := List.getElem?_eq_getElem (by omega)
  obtain ⟨h0, h1, h2, h3⟩ := cells4_get rs k _ hr
  obtain ⟨b, off, e, hc⟩ := h.2 (by rw [length_cells4]; omega)
  obtain ⟨l0, g0⟩ := List.getElem?_eq_some_iff.1 h0
  obtain ⟨l1, g1⟩ := List.getElem?_eq_some_iff.1 h1
  obtain ⟨l2, g2⟩ := List.getElem?_eq_some_iff.1 h2
  obtain ⟨l3, g3⟩ := List.getElem?_eq_some_iff.1 h3
  have k0 := hc _ l0
  have k1 := hc _ l1
  have k2 := hc _ l2
  have k3 := hc _ l3
  rw [g0] at k0
  rw [g1] at k1
  rw [g2] at k2
  rw [g3] at k3
  exact ⟨_, b, off, hr, List.getElem_mem _, e, World.block_lt_of_cell? w _ k0, k0, by rw [Nat.add_assoc]; exact k1, by rw [Nat.add_assoc]; exact k2, by rw [Nat.add_assoc]; exact k3⟩
theorem S4.below (h : S4 w A n rs) (hb : Below w.heap.size w w') : S4 w' A n rs := Rd.below h hb
theorem S4.drewN (h : S4 w A n rs) (k : Nat) : S4 (w.drewN k) A n rs := h
theorem S4.alloc (h : S4 w A n rs) (o : Obj) : S4 (w.alloc o) A n rs := Rd.alloc h o
end
/-- After k copies into a list of zeros. -/
def copied4 (rs : List R4) (k : Nat) : List R4 := rs.take k ++ List.replicate (rs.length - k) ⟨0, 0, 0, 0⟩
theorem copied4_end (rs : List R4) {k : Nat} (h : rs.length ≤ k) : copied4 rs k = rs := by
  unfold copied4
  rw [List.take_of_length_le h, show rs.length - k = 0 from by omega]; simp
theorem length_copied4 (rs : List R4) (k : Nat) (h : k ≤ rs.length) : (copied4 rs k).length = rs.length := by simp [copied4]; omega
theorem copied4_next (rs : List R4) (k : Nat) (r : R4) (h : rs[k]? = some r) : (copied4 rs k).set k r = copied4 rs (k + 1) := by
  obtain ⟨hk, rfl⟩ := List.getElem?_eq_some_iff.1 h
  unfold copied4
  have e1 : (rs.take k).length = k := by simp; omega
  rw [List.set_append_right _ _ (by omega), e1, Nat.sub_self, List.take_succ_eq_append_getElem hk, show rs.length - k = (rs.length - (k + 1)) + 1 from by omega, List.replicate_succ]
  simp only [List.set_cons_zero, List.append_assoc, List.singleton_append]
def same4 (xs ys : List R4) : Bool := decide (xs = ys)
theorem same4_self (xs : List R4) : same4 xs xs = true := by simp [same4]
def sameR4 (x y : R4) : Bool := decide (x = y)
theorem same4_ne {xs ys : List R4} {x y : R4} {k : Nat} (hx : xs[k]? = some x) (hy : ys[k]? = some y) (h : (!sameR4 x y) = true) : false = same4 xs ys := by
  unfold same4; symm; rw [decide_eq_false_iff_not]; rintro rfl
  rw [hx] at hy
  simp at hy
  simp [sameR4, hy] at h
theorem same4_len {xs ys : List R4} {n m : Nat} (h : ¬ n = m) (hx : xs.length = n) (hy : ys.length = m) : false = same4 xs ys := by
  unfold same4; symm; rw [decide_eq_false_iff_not]; rintro rfl; omega
theorem same4_eq {xs ys : List R4} {n k : Nat} (hk : n ≤ k) (hx : xs.length = n) (hy : ys.length = n) (h : xs.take k = ys.take k) : true = same4 xs ys := by
  rw [List.take_of_length_le (by omega), List.take_of_length_le (by omega)] at h
  unfold same4; symm; rw [decide_eq_true_iff]; exact h
theorem same4_next {xs ys : List R4} {x y : R4} {k : Nat} (hx : xs[k]? = some x) (hy : ys[k]? = some y) (h : xs.take k = ys.take k) (h1 : (!sameR4 x y) = false) : xs.take (k + 1) = ys.take (k + 1) := by
  obtain ⟨hk, rfl⟩ := List.getElem?_eq_some_iff.1 hx
  obtain ⟨hk', rfl⟩ := List.getElem?_eq_some_iff.1 hy
  rw [List.take_succ_eq_append_getElem hk, List.take_succ_eq_append_getElem hk', h]
  simp [sameR4] at h1
  rw [h1]
end Go.Proofs.Ytdlojbabnelbdaa

/-
  Register programs in plain words: steps, runs, and what the programs that move, copy and clear registers do.
-/
namespace Go.Proofs.Ytdlojbabnelbdaa

def getI (xs : List Int) (k : Int) : Int := xs.getD k.toNat 0
theorem getI_set (xs : List Int) (k q v : Int) (h0 : 0 ≤ k) (hk : k < xs.length) (hq : 0 ≤ q) : getI (xs.set k.toNat v) q = if q = k then v else getI xs q := by
  unfold getI
  by_cases h : q = k
  · subst h
    rw [if_pos rfl, List.getD_eq_getElem?_getD, List.getElem?_set_self (by omega)]
    rfl
  · rw [if_neg h, List.getD_eq_getElem?_getD, List.getElem?_set_ne (by omega), List.getD_eq_getElem?_getD]
/-- An instruction: kind, register, target, other target. -/
abbrev instrOf (p : List R4) (k : Int) : R4 := p.getD k.toNat ⟨0, 0, 0, 0⟩
/-- A store: the place, the contents. -/
structure Sto where
  p : Int
  xs : List Int
def stepP (p : List R4) (s : Sto) : Sto :=
  let x := instrOf p s.p
  if x.a = 0 then ⟨x.c, s.xs.set x.b.toNat (getI s.xs x.b + 1)⟩
  else if 0 < getI s.xs x.b then ⟨x.c, s.xs.set x.b.toNat (getI s.xs x.b - 1)⟩ else ⟨x.d, s.xs⟩
/-- Whether there is room behind a step. -/
def roomP (p : List R4) (s : Sto) : Prop := getI (stepP p s).xs (instrOf p s.p).b ≤ 1000000
def endP (p : List R4) (s : Sto) : Prop := s.p = (p.length : Int)
def itP (p : List R4) (s : Sto) : Nat → Sto
  | 0 => s
  | i + 1 => stepP p (itP p s i)
theorem itP_add (p : List R4) (s : Sto) (a b : Nat) : itP p s (a + b) = itP p (itP p s a) b := by
  induction b with
  | zero => rfl
  | succ b ih => show stepP p (itP p s (a + b)) = stepP p (itP p (itP p s a) b); rw [ih]
def AliveP (p : List R4) (s : Sto) (i : Nat) : Prop := ∀ j, j < i → ¬ endP p (itP p s j) ∧ roomP p (itP p s j)
theorem AliveP.zero (p : List R4) (s : Sto) : AliveP p s 0 := fun j h => absurd h (Nat.not_lt_zero j)
theorem AliveP.next {p : List R4} {s : Sto} {i : Nat} (h : AliveP p s i) (h1 : ¬ endP p (itP p s i)) (h2 : roomP p (itP p s i)) : AliveP p s (i + 1) := fun j hj => by
  by_cases e : j = i
  · subst e; exact ⟨h1, h2⟩
  · exact h j (by omega)
theorem AliveP.add {p : List R4} {s : Sto} {a b : Nat} (h : AliveP p s a) (h2 : AliveP p (itP p s a) b) : AliveP p s (a + b) := fun j hj => by
  by_cases e : j < a
  · exact h j e
  · have h3 := h2 (j - a) (by omega)
    rw [← itP_add, show a + (j - a) = j by omega] at h3
    exact h3
def EndedP (p : List R4) (s : Sto) (N i : Nat) : Prop := i ≤ N ∧ AliveP p s i ∧ (i = N ∨ endP p (itP p s i))
def FullP (p : List R4) (s : Sto) (N i : Nat) : Prop := i < N ∧ AliveP p s i ∧ ¬ endP p (itP p s i) ∧ ¬ roomP p (itP p s i)
/-- A run that ends within the budget ends there. -/
theorem EndedP.at_ {p : List R4} {s : Sto} {N i k : Nat} (h : EndedP p s N i) (hk : AliveP p s k) (he : endP p (itP p s k)) (hN : k ≤ N) : i = k := by
  rcases Nat.lt_trichotomy i k with h1 | h1 | h1
  · rcases h.2.2 with h2 | h2
    · omega
    · exact absurd h2 (hk i h1).1
  · exact h1
  · exact absurd he (h.2.1 k h1).1
theorem FullP.not {p : List R4} {s : Sto} {N i k : Nat} (h : FullP p s N i) (hk : AliveP p s k) (he : endP p (itP p s k)) (_hN : k ≤ N) : False := by
  rcases Nat.lt_or_ge i k with h1 | h1
  · exact h.2.2.2 (hk i h1).2
  · rcases Nat.lt_or_eq_of_le h1 with h2 | h2
    · exact (h.2.1 k h2).1 he
    · subst h2; exact h.2.2.1 he
/-! ### Valid programs and stores -/
def validInstrB (n : Int) (r : R4) : Bool := (decide (0 ≤ r.b) && decide (r.b ≤ 23)) && (decide (0 ≤ r.c) && decide (r.c ≤ n)) && ((r.a == 0 && r.d == 0) || (r.a == 1 && (decide (0 ≤ r.d) && decide (r.d ≤ n))))
def validProgB (p : List R4) : Bool := decide (p.length ≤ 400) && p.all (validInstrB p.length)
def storeB (p : List R4) (s : Sto) : Bool := (decide (0 ≤ s.p) && decide (s.p ≤ (p.length : Int))) && (decide (s.xs.length = 24) && s.xs.all fun x => decide (0 ≤ x) && decide (x ≤ 1000000))
theorem validInstr_iff {n : Int} {r : R4} : validInstrB n r = true ↔ 0 ≤ r.b ∧ r.b ≤ 23 ∧ 0 ≤ r.c ∧ r.c ≤ n ∧ (r.a = 0 ∧ r.d = 0 ∨ r.a = 1 ∧ 0 ≤ r.d ∧ r.d ≤ n) := by
  unfold validInstrB; simp [Bool.and_eq_true, Bool.or_eq_true]
  constructor
  · rintro ⟨⟨⟨h1, h2⟩, h3, h4⟩, h5⟩; exact ⟨h1, h2, h3, h4, h5⟩
  · rintro ⟨h1, h2, h3, h4, h5⟩; exact ⟨⟨⟨h1, h2⟩, h3, h4⟩, h5⟩
theorem storeB_iff {p : List R4} {s : Sto} : storeB p s = true ↔ 0 ≤ s.p ∧ s.p ≤ (p.length : Int) ∧ s.xs.length = 24 ∧ ∀ x ∈ s.xs, 0 ≤ x ∧ x ≤ 1000000 := by
  unfold storeB; simp [Bool.and_eq_true]
  constructor
  · rintro ⟨⟨h1, h2⟩, h3, h4⟩; exact ⟨h1, h2, h3, h4⟩
  · rintro ⟨h1, h2, h3, h4⟩; exact ⟨⟨h1, h2⟩, h3, h4⟩
theorem prog_instr {p : List R4} {k : Int} (hv : validProgB p = true) (h0 : 0 ≤ k) (hk : k < p.length) : p[k.toNat]? = some (instrOf p k) ∧ validInstrB p.length (instrOf p k) = true := by
  unfold validProgB at hv
  simp only [Bool.and_eq_true, decide_eq_true_eq, List.all_eq_true] at hv
  have h1 : p[k.toNat]? = some (p[k.toNat]'(by omega)) := List.getElem?_eq_getElem (by omega)
  have h2 : instrOf p k = p[k.toNat]'(by omega) := by unfold instrOf; rw [List.getD_eq_getElem?_getD, h1]; rfl
  rw [h2]
  exact ⟨h1, hv.2 _ (List.getElem_mem _)⟩
theorem step_valid {p : List R4} {s : Sto} (hv : validProgB p = true) (hs : storeB p s = true) (he : ¬ endP p s) (hr : roomP p s) : storeB p (stepP p s) = true := by
  rw [storeB_iff] at hs
  obtain ⟨h0, h1, h2, h3⟩ := hs
  unfold endP at he
  obtain ⟨_, hi⟩ := prog_instr hv h0 (by omega)
  rw [validInstr_iff] at hi
  unfold roomP at hr
  revert hr
  unfold stepP
  revert hi
  generalize instrOf p s.p = x
  rintro ⟨a1, a2, a3, a4, a5⟩ hr
  have hm : 0 ≤ getI s.xs x.b ∧ getI s.xs x.b ≤ 1000000 := by
    unfold getI
    rw [List.getD_eq_getElem?_getD, List.getElem?_eq_getElem (by omega)]
    exact h3 _ (List.getElem_mem _)
  dsimp only at hr ⊢
  by_cases e : x.a = 0
  · rw [if_pos e] at hr ⊢
    rw [storeB_iff]
    dsimp only at hr ⊢
    rw [getI_set _ _ _ _ a1 (by omega) a1, if_pos rfl] at hr
    refine ⟨a3, a4, by simpa using h2, fun y hy => ?_⟩
    rcases List.mem_or_eq_of_mem_set hy with h | h
    · exact h3 y h
    · omega
  · rw [if_neg e] at hr ⊢
    obtain ⟨_, a6, a7⟩ := a5.resolve_left (fun h => e h.1)
    by_cases e2 : 0 < getI s.xs x.b
    · rw [if_pos e2, storeB_iff]
      refine ⟨a3, a4, by simpa using h2, fun y hy => ?_⟩
      rcases List.mem_or_eq_of_mem_set hy with h | h
      · exact h3 y h
      · omega
    · rw [if_neg e2, storeB_iff]
      exact ⟨a6, a7, h2, h3⟩
theorem AliveP.valid {p : List R4} {s : Sto} {i : Nat} (h : AliveP p s i) (hv : validProgB p = true) (hs : storeB p s = true) : storeB p (itP p s i) = true := by
  induction i with
  | zero => exact hs
  | succ i ih => exact step_valid hv (ih (fun j hj => h j (by omega))) (h i (by omega)).1 (h i (by omega)).2
/-! ### What single steps do -/
theorem step_inc {p : List R4} {s : Sto} {r t d : Int} (h : instrOf p s.p = ⟨0, r, t, d⟩) (h0 : 0 ≤ r) (hr : r < s.xs.length) :
    (stepP p s).p = t ∧ (stepP p s).xs.length = s.xs.length ∧ (∀ q, 0 ≤ q → getI (stepP p s).xs q = if q = r then getI s.xs r + 1 else getI s.xs q) ∧ (getI s.xs r < 1000000 → roomP p s) := by
  have e : stepP p s = ⟨t, s.xs.set r.toNat (getI s.xs r + 1)⟩ := by unfold stepP; rw [h]; rfl
  refine ⟨by rw [e], by rw [e]; simp, fun q hq => by rw [e]; exact getI_set _ _ _ _ h0 hr hq, fun hl => ?_⟩
  unfold roomP
  rw [e, h]
  dsimp only
  rw [getI_set _ _ _ _ h0 hr h0, if_pos rfl]
  omega
theorem step_dec {p : List R4} {s : Sto} {r t d : Int} (h : instrOf p s.p = ⟨1, r, t, d⟩) (h0 : 0 ≤ r) (hr : r < s.xs.length) (hg : 0 < getI s.xs r) :
    (stepP p s).p = t ∧ (stepP p s).xs.length = s.xs.length ∧ (∀ q, 0 ≤ q → getI (stepP p s).xs q = if q = r then getI s.xs r - 1 else getI s.xs q) ∧ (getI s.xs r ≤ 1000000 → roomP p s) := by
  have e : stepP p s = ⟨t, s.xs.set r.toNat (getI s.xs r - 1)⟩ := by unfold stepP; rw [h]; dsimp only; rw [if_neg (by decide), if_pos hg]
  refine ⟨by rw [e], by rw [e]; simp, fun q hq => by rw [e]; exact getI_set _ _ _ _ h0 hr hq, fun hl => ?_⟩
  unfold roomP
  rw [e, h]
  dsimp only
  rw [getI_set _ _ _ _ h0 hr h0, if_pos rfl]
  omega
theorem step_else {p : List R4} {s : Sto} {r t d : Int} (h : instrOf p s.p = ⟨1, r, t, d⟩) (hg : getI s.xs r = 0) : stepP p s = ⟨d, s.xs⟩ ∧ roomP p s := by
  have e : stepP p s = ⟨d, s.xs⟩ := by unfold stepP; rw [h]; dsimp only; rw [if_neg (by decide), if_neg (by omega)]
  refine ⟨e, ?_⟩
  unfold roomP
  rw [e, h]
  dsimp only
  omega
end Go.Proofs.Ytdlojbabnelbdaa

/-
  What the programs that move, copy and clear registers do, and loops and branches, in plain words.
-/
namespace Go.Proofs.Ytdlojbabnelbdaa

/-- Many steps, told by their first ones. -/
theorem itP_front (p : List R4) (s : Sto) (a b : Nat) : itP p s (a + b) = itP p (itP p s a) b := itP_add p s a b
theorem alive_one {p : List R4} {s : Sto} (h : ¬ endP p s) (hr : roomP p s) : AliveP p s 1 := fun j hj => by
  obtain rfl : j = 0 := by omega
  exact ⟨h, hr⟩
structure Lay3 (p : List R4) (a b c e : Int) : Prop where
  i0 : instrOf p 0 = ⟨1, a, 1, e⟩
  i1 : instrOf p 1 = ⟨0, b, 2, 0⟩
  i2 : instrOf p 2 = ⟨0, c, 0, 0⟩
  len : 3 ≤ p.length
  ra : 0 ≤ a ∧ a < 24
  rb : 0 ≤ b ∧ b < 24
  rc : 0 ≤ c ∧ c < 24
  ab : a ≠ b
  ac : a ≠ c
  bc : b ≠ c
theorem loop3 {p : List R4} {a b c e : Int} (L : Lay3 p a b c e) : ∀ (n : Nat) (s : Sto), s.p = 0 → s.xs.length = 24 → getI s.xs a = (n : Int) → getI s.xs b + (n : Int) ≤ 1000000 → getI s.xs c + (n : Int) ≤ 1000000 → (n : Int) ≤ 1000000 →
    AliveP p s (3 * n + 1) ∧ (itP p s (3 * n + 1)).p = e ∧ (itP p s (3 * n + 1)).xs.length = 24 ∧ getI (itP p s (3 * n + 1)).xs a = 0 ∧ getI (itP p s (3 * n + 1)).xs b = getI s.xs b + (n : Int) ∧ getI (itP p s (3 * n + 1)).xs c = getI s.xs c + (n : Int) ∧
      ∀ q, 0 ≤ q → q ≠ a → q ≠ b → q ≠ c → getI (itP p s (3 * n + 1)).xs q = getI s.xs q := by
  have hl := L.len
  obtain ⟨a0, a1⟩ := L.ra
  obtain ⟨b0, b1⟩ := L.rb
  obtain ⟨c0, c1⟩ := L.rc
  have hab := L.ab
  have hac := L.ac
  have hbc := L.bc
  intro n
  induction n with
  | zero =>
    intro s hp hx ha _ _ _
    obtain ⟨e1, r1⟩ := step_else (p := p) (s := s) (by rw [hp]; exact L.i0) (by simpa using ha)
    have he : itP p s (3 * 0 + 1) = ⟨e, s.xs⟩ := e1
    rw [he]
    refine ⟨alive_one (by unfold endP; omega) r1, rfl, hx, by simpa using ha, by simp, by simp, fun _ _ _ _ _ => rfl⟩
  | succ n ih =>
    intro s hp hx ha hb hc hn
    have ha' : getI s.xs a = (n : Int) + 1 := by rw [ha]; omega
    obtain ⟨p1, l1, g1, r1⟩ := step_dec (p := p) (s := s) (by rw [hp]; exact L.i0) a0 (by omega) (by omega)
    obtain ⟨s1, hs1⟩ : ∃ s1, s1 = stepP p s := ⟨_, rfl⟩
    rw [← hs1] at p1 l1 g1
    obtain ⟨p2, l2, g2, r2⟩ := step_inc (p := p) (s := s1) (by rw [p1]; exact L.i1) b0 (by omega)
    obtain ⟨s2, hs2⟩ : ∃ s2, s2 = stepP p s1 := ⟨_, rfl⟩
    rw [← hs2] at p2 l2 g2
    obtain ⟨p3, l3, g3, r3⟩ := step_inc (p := p) (s := s2) (by rw [p2]; exact L.i2) c0 (by omega)
    obtain ⟨s3, hs3⟩ : ∃ s3, s3 = stepP p s2 := ⟨_, rfl⟩
    rw [← hs3] at p3 l3 g3
    have e3 : itP p s 3 = s3 := by rw [hs3, hs2, hs1]; rfl
    have xb1 : getI s1.xs b = getI s.xs b := by rw [g1 b b0, if_neg (fun h => hab h.symm)]
    have xc1 : getI s1.xs c = getI s.xs c := by rw [g1 c c0, if_neg (fun h => hac h.symm)]
    have xa1 : getI s1.xs a = (n : Int) := by rw [g1 a a0, if_pos rfl]; omega
    have xa2 : getI s2.xs a = (n : Int) := by rw [g2 a a0, if_neg hab, xa1]
    have xb2 : getI s2.xs b = getI s.xs b + 1 := by rw [g2 b b0, if_pos rfl, xb1]
    have xc2 : getI s2.xs c = getI s.xs c := by rw [g2 c c0, if_neg (fun h => hbc h.symm), xc1]
    have xa3 : getI s3.xs a = (n : Int) := by rw [g3 a a0, if_neg hac, xa2]
    have xb3 : getI s3.xs b = getI s.xs b + 1 := by rw [g3 b b0, if_neg hbc, xb2]
    have xc3 : getI s3.xs c = getI s.xs c + 1 := by rw [g3 c c0, if_pos rfl, xc2]
    obtain ⟨q1, q2, q3, q4, q5, q6, q7⟩ := ih s3 p3 (by omega) xa3 (by omega) (by omega) (by omega)
    have ee : 3 * (n + 1) + 1 = 3 + (3 * n + 1) := by omega
    rw [ee, itP_add, e3]
    refine ⟨?_, q2, q3, q4, by rw [q5, xb3]; omega, by rw [q6, xc3]; omega, fun q h0 h1 h2 h3 => ?_⟩
    · refine AliveP.add (fun j hj => ?_) (by rw [e3]; exact q1)
      match j, hj with
      | 0, _ => exact ⟨by show ¬ s.p = _; omega, r1 (by omega)⟩
      | 1, _ => exact ⟨by show ¬ (stepP p s).p = _; rw [← hs1, p1]; omega, by show roomP p (stepP p s); rw [← hs1]; exact r2 (by omega)⟩
      | 2, _ => exact ⟨by show ¬ (stepP p (stepP p s)).p = _; rw [← hs1, ← hs2, p2]; omega, by show roomP p (stepP p (stepP p s)); rw [← hs1, ← hs2]; exact r3 (by omega)⟩
    · rw [q7 q h0 h1 h2 h3, g3 q h0, if_neg h3, g2 q h0, if_neg h2, g1 q h0, if_neg h1]
structure Lay2 (p : List R4) (k c a e : Int) : Prop where
  i0 : instrOf p k = ⟨1, c, k + 1, e⟩
  i1 : instrOf p (k + 1) = ⟨0, a, k, 0⟩
  k0 : 0 ≤ k
  len : k + 1 < p.length
  ra : 0 ≤ a ∧ a < 24
  rc : 0 ≤ c ∧ c < 24
  ac : a ≠ c
theorem loop2 {p : List R4} {k c a e : Int} (L : Lay2 p k c a e) : ∀ (n : Nat) (s : Sto), s.p = k → s.xs.length = 24 → getI s.xs c = (n : Int) → getI s.xs a + (n : Int) ≤ 1000000 → (n : Int) ≤ 1000000 →
    AliveP p s (2 * n + 1) ∧ (itP p s (2 * n + 1)).p = e ∧ (itP p s (2 * n + 1)).xs.length = 24 ∧ getI (itP p s (2 * n + 1)).xs c = 0 ∧ getI (itP p s (2 * n + 1)).xs a = getI s.xs a + (n : Int) ∧
      ∀ q, 0 ≤ q → q ≠ a → q ≠ c → getI (itP p s (2 * n + 1)).xs q = getI s.xs q := by
  have hl := L.len
  have hk0 := L.k0
  obtain ⟨a0, a1⟩ := L.ra
  obtain ⟨c0, c1⟩ := L.rc
  have hac := L.ac
  intro n
  induction n with
  | zero =>
    intro s hp hx hc _ _
    obtain ⟨e1, r1⟩ := step_else (p := p) (s := s) (by rw [hp]; exact L.i0) (by simpa using hc)
    have he : itP p s (2 * 0 + 1) = ⟨e, s.xs⟩ := e1
    rw [he]
    refine ⟨alive_one (by unfold endP; omega) r1, rfl, hx, by simpa using hc, by simp, fun _ _ _ _ => rfl⟩
  | succ n ih =>
    intro s hp hx hc ha hn
    have hc' : getI s.xs c = (n : Int) + 1 := by rw [hc]; omega
    obtain ⟨p1, l1, g1, r1⟩ := step_dec (p := p) (s := s) (by rw [hp]; exact L.i0) c0 (by omega) (by omega)
    obtain ⟨s1, hs1⟩ : ∃ s1, s1 = stepP p s := ⟨_, rfl⟩
    rw [← hs1] at p1 l1 g1
    obtain ⟨p2, l2, g2, r2⟩ := step_inc (p := p) (s := s1) (by rw [p1]; exact L.i1) a0 (by omega)
    obtain ⟨s2, hs2⟩ : ∃ s2, s2 = stepP p s1 := ⟨_, rfl⟩
    rw [← hs2] at p2 l2 g2
    have e2 : itP p s 2 = s2 := by rw [hs2, hs1]; rfl
    have xa1 : getI s1.xs a = getI s.xs a := by rw [g1 a a0, if_neg hac]
    have xc1 : getI s1.xs c = (n : Int) := by rw [g1 c c0, if_pos rfl]; omega
    have xc2 : getI s2.xs c = (n : Int) := by rw [g2 c c0, if_neg (fun h => hac h.symm), xc1]
    have xa2 : getI s2.xs a = getI s.xs a + 1 := by rw [g2 a a0, if_pos rfl, xa1]
    obtain ⟨q1, q2, q3, q4, q5, q6⟩ := ih s2 p2 (by omega) xc2 (by omega) (by omega)
    have ee : 2 * (n + 1) + 1 = 2 + (2 * n + 1) := by omega
    rw [ee, itP_add, e2]
    refine ⟨?_, q2, q3, q4, by rw [q5, xa2]; omega, fun q h0 h1 h2 => ?_⟩
    · refine AliveP.add (fun j hj => ?_) (by rw [e2]; exact q1)
      match j, hj with
      | 0, _ => exact ⟨by show ¬ s.p = _; omega, r1 (by omega)⟩
      | 1, _ => exact ⟨by show ¬ (stepP p s).p = _; rw [← hs1, p1]; omega, by show roomP p (stepP p s); rw [← hs1]; exact r2 (by omega)⟩
    · rw [q6 q h0 h1 h2, g2 q h0, if_neg h1, g1 q h0, if_neg h2]
theorem loop1 {p : List R4} {a e : Int} (i0 : instrOf p 0 = ⟨1, a, 0, e⟩) (hl : 1 ≤ p.length) (a0 : 0 ≤ a) (a1 : a < 24) : ∀ (n : Nat) (s : Sto), s.p = 0 → s.xs.length = 24 → getI s.xs a = (n : Int) → (n : Int) ≤ 1000000 →
    AliveP p s (n + 1) ∧ (itP p s (n + 1)).p = e ∧ (itP p s (n + 1)).xs.length = 24 ∧ getI (itP p s (n + 1)).xs a = 0 ∧ ∀ q, 0 ≤ q → q ≠ a → getI (itP p s (n + 1)).xs q = getI s.xs q := by
  intro n
  induction n with
  | zero =>
    intro s hp hx ha _
    obtain ⟨e1, r1⟩ := step_else (p := p) (s := s) (by rw [hp]; exact i0) (by simpa using ha)
    have he : itP p s (0 + 1) = ⟨e, s.xs⟩ := e1
    rw [he]
    refine ⟨alive_one (by unfold endP; omega) r1, rfl, hx, by simpa using ha, fun _ _ _ => rfl⟩
  | succ n ih =>
    intro s hp hx ha hn
    have ha' : getI s.xs a = (n : Int) + 1 := by rw [ha]; omega
    obtain ⟨p1, l1, g1, r1⟩ := step_dec (p := p) (s := s) (by rw [hp]; exact i0) a0 (by omega) (by omega)
    obtain ⟨s1, hs1⟩ : ∃ s1, s1 = stepP p s := ⟨_, rfl⟩
    rw [← hs1] at p1 l1 g1
    have e1 : itP p s 1 = s1 := by rw [hs1]; rfl
    obtain ⟨q1, q2, q3, q4, q5⟩ := ih s1 p1 (by omega) (by rw [g1 a a0, if_pos rfl]; omega) (by omega)
    have ee : n + 1 + 1 = 1 + (n + 1) := by omega
    rw [ee, itP_add, e1]
    refine ⟨AliveP.add (alive_one (by unfold endP; omega) (r1 (by omega))) (by rw [e1]; exact q1), q2, q3, q4, fun q h0 h1 => ?_⟩
    rw [q5 q h0 h1, g1 q h0, if_neg h1]
/-! ### The three programs -/
def clearP (a : Int) : List R4 := [⟨1, a, 0, 1⟩]
def moveP (a b c : Int) : List R4 := [⟨1, a, 1, 3⟩, ⟨0, b, 2, 0⟩, ⟨0, c, 0, 0⟩]
def copyP (a b c : Int) : List R4 := [⟨1, a, 1, 3⟩, ⟨0, b, 2, 0⟩, ⟨0, c, 0, 0⟩, ⟨1, c, 4, 5⟩, ⟨0, a, 3, 0⟩]
structure Abc (a b c : Int) : Prop where
  ra : 0 ≤ a ∧ a < 24
  rb : 0 ≤ b ∧ b < 24
  rc : 0 ≤ c ∧ c < 24
  ab : a ≠ b
  ac : a ≠ c
  bc : b ≠ c
theorem nat_of {x : Int} (h : 0 ≤ x) : ∃ n : Nat, x = (n : Int) := ⟨x.toNat, by omega⟩
section
variable {a b c : Int} {xs : List Int}
theorem run_clear (ha : 0 ≤ a ∧ a < 24) (hl : xs.length = 24) (h0 : 0 ≤ getI xs a) (h1 : getI xs a ≤ 9) :
    ∃ k, k ≤ 200 ∧ AliveP (clearP a) ⟨0, xs⟩ k ∧ endP (clearP a) (itP (clearP a) ⟨0, xs⟩ k) ∧ (itP (clearP a) ⟨0, xs⟩ k).xs.length = 24 ∧ getI (itP (clearP a) ⟨0, xs⟩ k).xs a = 0 ∧ ∀ q, 0 ≤ q → q ≠ a → getI (itP (clearP a) ⟨0, xs⟩ k).xs q = getI xs q := by
  obtain ⟨n, hn⟩ := nat_of h0
  obtain ⟨q1, q2, q3, q4, q5⟩ := loop1 (p := clearP a) (a := a) (e := 1) rfl (by simp [clearP]) ha.1 ha.2 n ⟨0, xs⟩ rfl hl hn (by omega)
  exact ⟨n + 1, by omega, q1, by unfold endP; rw [q2]; rfl, q3, q4, q5⟩
theorem run_move (h : Abc a b c) (hl : xs.length = 24) (hx : ∀ q, 0 ≤ q → q < 24 → 0 ≤ getI xs q ∧ getI xs q ≤ 9) :
    ∃ k, k ≤ 200 ∧ AliveP (moveP a b c) ⟨0, xs⟩ k ∧ endP (moveP a b c) (itP (moveP a b c) ⟨0, xs⟩ k) ∧ (itP (moveP a b c) ⟨0, xs⟩ k).xs.length = 24 ∧ getI (itP (moveP a b c) ⟨0, xs⟩ k).xs a = 0 ∧
      getI (itP (moveP a b c) ⟨0, xs⟩ k).xs b = getI xs a + getI xs b ∧ getI (itP (moveP a b c) ⟨0, xs⟩ k).xs c = getI xs a + getI xs c ∧ ∀ q, 0 ≤ q → q ≠ a → q ≠ b → q ≠ c → getI (itP (moveP a b c) ⟨0, xs⟩ k).xs q = getI xs q := by
  have ha := hx a h.ra.1 h.ra.2
  have hb := hx b h.rb.1 h.rb.2
  have hc := hx c h.rc.1 h.rc.2
  obtain ⟨n, hn⟩ := nat_of ha.1
  obtain ⟨q1, q2, q3, q4, q5, q6, q7⟩ := loop3 (p := moveP a b c) (e := 3) ⟨rfl, rfl, rfl, by simp [moveP], h.ra, h.rb, h.rc, h.ab, h.ac, h.bc⟩ n ⟨0, xs⟩ rfl hl hn (by dsimp only; omega) (by dsimp only; omega) (by omega)
  exact ⟨3 * n + 1, by omega, q1, by unfold endP; rw [q2]; rfl, q3, q4, by rw [q5]; dsimp only; omega, by rw [q6]; dsimp only; omega, q7⟩
theorem run_copy (h : Abc a b c) (hl : xs.length = 24) (hx : ∀ q, 0 ≤ q → q < 24 → 0 ≤ getI xs q ∧ getI xs q ≤ 9) :
    ∃ k, k ≤ 200 ∧ AliveP (copyP a b c) ⟨0, xs⟩ k ∧ endP (copyP a b c) (itP (copyP a b c) ⟨0, xs⟩ k) ∧ (itP (copyP a b c) ⟨0, xs⟩ k).xs.length = 24 ∧ getI (itP (copyP a b c) ⟨0, xs⟩ k).xs b = getI xs a + getI xs b ∧
      getI (itP (copyP a b c) ⟨0, xs⟩ k).xs a = getI xs a + getI xs c ∧ getI (itP (copyP a b c) ⟨0, xs⟩ k).xs c = 0 ∧ ∀ q, 0 ≤ q → q ≠ a → q ≠ b → q ≠ c → getI (itP (copyP a b c) ⟨0, xs⟩ k).xs q = getI xs q := by
  have ha := hx a h.ra.1 h.ra.2
  have hb := hx b h.rb.1 h.rb.2
  have hc := hx c h.rc.1 h.rc.2
  obtain ⟨n, hn⟩ := nat_of ha.1
  obtain ⟨q1, q2, q3, q4, q5, q6, q7⟩ := loop3 (p := copyP a b c) (e := 3) ⟨rfl, rfl, rfl, by simp [copyP], h.ra, h.rb, h.rc, h.ab, h.ac, h.bc⟩ n ⟨0, xs⟩ rfl hl hn (by dsimp only; omega) (by dsimp only; omega) (by omega)
  dsimp only at q5 q6 q7
  obtain ⟨m, hm⟩ := nat_of (x := getI (itP (copyP a b c) ⟨0, xs⟩ (3 * n + 1)).xs c) (by omega)
  obtain ⟨r1, r2, r3, r4, r5, r6⟩ := loop2 (p := copyP a b c) (k := 3) (c := c) (a := a) (e := 5) ⟨rfl, rfl, by omega, by simp [copyP], h.ra, h.rc, h.ac⟩ m _ q2 q3 hm (by omega) (by omega)
  refine ⟨3 * n + 1 + (2 * m + 1), by omega, q1.add r1, ?_⟩
  rw [itP_add]
  refine ⟨by unfold endP; rw [r2]; rfl, r3, ?_, by rw [r5, q4]; omega, r4, fun q h0 h1 h2 h3 => by rw [r6 q h0 h1 h3, q7 q h0 h1 h2 h3]⟩
  rw [r6 b h.rb.1 (fun e => h.ab e.symm) h.bc, q5]
  omega
end
end Go.Proofs.Ytdlojbabnelbdaa
