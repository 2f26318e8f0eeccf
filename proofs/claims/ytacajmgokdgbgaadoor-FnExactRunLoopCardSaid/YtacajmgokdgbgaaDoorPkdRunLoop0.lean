/-
  From the reading of an argument to the words of the walks, and from a walk to a row's post. No program is in sight.
-/
import Derived.Test.YtacajmgokdgbgaaDoorPbLpU0
import Derived.Test.YtacajmgokdgbgaaDoorPbLpU1
import Derived.Test.YtacajmgokdgbgaaDoorPbLpU2
import Derived.Test.YtacajmgokdgbgaaDoorPbLpU5
import Derived.ProofKit
import Derived.OpenShut
import Derived.ChangeOld
import Derived.Deep.Slices
import Derived.Lib.SmallJoins
import Derived.Deep.Strs
import Derived.Test.YtacajmgokdgbgaaDoorRows
import Derived.LaidMore
import Derived.LaidLaws
import Derived.Stop.Joined
import Derived.RowKitTokens
import Derived.Deep.RegionHeld3
import Derived.Deep.RegionLaw
import Derived.Deep.DeepCutAuto
import Derived.Test.YtacajmgokdgbgaaDoorCards
import Derived.Test.YtacajmgokdgbgaaDoorTie
import Derived.SevenTiedAt
namespace Go.Proofs.YtacajmgokdgbgaaDoor
open Go.ChangeShapes Go.WideShapes Go.ChangeAt Go.RowKit Go.Deep

section
variable {H : Type} {enc : TypeId × Value → H} {P : Program} {w : World} {base : Nat} {spare : Nat → Bool} {held : Bool}

theorem addr_none {w : World} {a : Addr} {k : Nat} {v : Value} (h : w.cell? (a.add k) = some v) : a = ⟨a.block, a.off, none⟩ ∨ 0 < k := by
  by_cases hk : k = 0
  · subst hk
    have h1 : (a.add 0) = a := by simp [Addr.add]
    rw [h1] at h
    have := World.cell?_spot h
    left; cases a; simp_all
  · right; omega

/-- A slice of numbers that came in. -/
theorem si_of_trod {t e : TypeId} {fuel : Nat} {v : Value} {x : DataW H × List MemPlace} (ht : P.underlying t = some (.slice e)) (he : P.underlying e = some (.int .i64)) (hc : P.cellsOf e = 1) (h : DataW.trod enc P w base (fun _ => true) held fuel t [v] = some x) :
    ∃ A n c xs, v = .slice A n c ∧ SI w A n xs ∧ n ≤ c ∧ c ≤ 9223372036854775807 ∧ ∀ z ∈ xs, -9223372036854775808 ≤ z ∧ z ≤ 9223372036854775807 := by
  rcases open_ints ht he hc h with ⟨hcs, _⟩ | ⟨a, len, cap, zs, hcs, _, hl, hm, hz, _, hcell, hwf⟩
  · simp at hcs; subst hcs
    exact ⟨none, 0, 0, [], rfl, Rd.nil, by omega, by omega, by simp⟩
  · simp at hcs; subst hcs
    simp at hz
    have hm' : cap ≤ 9223372036854775807 := by simp only [maxLen] at hm; omega
    refine ⟨some a, len, cap, zs.take len, rfl, ⟨by rw [length_ints]; simp; omega, fun hn => ?_⟩, hl, hm', fun z hz' => ?_⟩
    · rw [length_ints] at hn
      simp at hn
      have h0 := hcell 0 (by omega)
      have hs : a = ⟨a.block, a.off, none⟩ := by
        rcases addr_none h0 with h1 | h1
        · exact h1
        · omega
      refine ⟨a.block, a.off, by rw [← hs], fun k hk => ?_⟩
      rw [length_ints] at hk
      simp at hk
      have hk' := hcell k (by omega)
      rw [hs, add_lit] at hk'
      rw [ints_get, hk']
      simp [List.getD, List.getElem?_eq_getElem (show k < zs.length by omega)]
    · have := hwf z (List.mem_of_mem_take hz')
      simpa [Lit.wf, IntKind.min, IntKind.max, IntKind.signed, IntKind.bits] using this

/-- A slice of slices of numbers that came in. -/
theorem sii_of_trod {t e q : TypeId} {fuel : Nat} {v : Value} {x : DataW H × List MemPlace} (ht : P.underlying t = some (.slice e)) (he : P.underlying e = some (.slice q)) (hq : P.underlying q = some (.int .i64)) (ce : P.cellsOf e = 1) (cq : P.cellsOf q = 1)
    (h : DataW.trod enc P w base (fun _ => true) held fuel t [v] = some x) :
    ∃ A n c ts, v = .slice A n c ∧ SII w A n ts ∧ n ≤ c ∧ c ≤ 9223372036854775807 ∧ (∀ t ∈ ts, t.xs.length ≤ t.c ∧ t.c ≤ 9223372036854775807) ∧ ∀ t ∈ ts, ∀ z ∈ t.xs, -9223372036854775808 ≤ z ∧ z ≤ 9223372036854775807 := by
  rcases open_slice1 ht ce h with ⟨hcs, _⟩ | ⟨a, len, cap, m, n, V, D, Pl, hcs, _, hl, hm, hmm, _, hi⟩
  · simp at hcs; subst hcs
    exact ⟨none, 0, 0, [], rfl, ⟨Rd.nil, by simp⟩, by omega, by omega, by simp, by simp⟩
  · simp at hcs; subst hcs
    simp at hmm; subst hmm
    have hm' : m ≤ 9223372036854775807 := by simp only [maxLen] at hm; omega
    have each : ∀ i, i < m → ∃ t : Sl, V i = t.val ∧ SI w t.A t.xs.length t.xs ∧ (t.xs.length ≤ t.c ∧ t.c ≤ 9223372036854775807) ∧ ∀ z ∈ t.xs, -9223372036854775808 ≤ z ∧ z ≤ 9223372036854775807 := by
      intro i him
      obtain ⟨A, k, c, xs, hV, hS, h1, h2, h3⟩ := si_of_trod he hq cq (hi i him).2
      have hk : xs.length = k := hS.len
      subst hk
      exact ⟨⟨A, c, xs⟩, hV, hS, ⟨h1, h2⟩, h3⟩
    have hall : ∃ T : Nat → Sl, ∀ i, i < m → V i = (T i).val ∧ SI w (T i).A (T i).xs.length (T i).xs ∧ ((T i).xs.length ≤ (T i).c ∧ (T i).c ≤ 9223372036854775807) ∧ ∀ z ∈ (T i).xs, -9223372036854775808 ≤ z ∧ z ≤ 9223372036854775807 :=
      ⟨fun i => if h : i < m then (each i h).choose else ⟨none, 0, []⟩, fun i him => by simp only [him, dif_pos]; exact (each i him).choose_spec⟩
    obtain ⟨T, hT⟩ := hall
    refine ⟨some a, len, m, (List.range len).map T, rfl, ⟨⟨by simp, fun hn => ?_⟩, fun t ht' => ?_⟩, hl, hm', fun t ht' => ?_, fun t ht' => ?_⟩
    · simp at hn
      have h0 := (hi 0 (by omega)).1
      have hs : a = ⟨a.block, a.off, none⟩ := by
        rcases addr_none h0 with h1 | h1
        · exact h1
        · omega
      refine ⟨a.block, a.off, by rw [← hs], fun k hk => ?_⟩
      simp at hk
      have hk' := (hi k (by omega)).1
      rw [hs, add_lit, (hT k (by omega)).1] at hk'
      rw [hk']; simp
    · obtain ⟨i, hi', rfl⟩ := List.mem_map.1 ht'
      exact (hT i (by have := List.mem_range.1 hi'; omega)).2.1
    · obtain ⟨i, hi', rfl⟩ := List.mem_map.1 ht'
      exact (hT i (by have := List.mem_range.1 hi'; omega)).2.2.1
    · obtain ⟨i, hi', rfl⟩ := List.mem_map.1 ht'
      exact (hT i (by have := List.mem_range.1 hi'; omega)).2.2.2
end

section
variable {H : Type} {enc : TypeId × Value → H} {P : Program}
theorem trodAll_stays (hl : laidOutB P = true) {W W' : World} {sp : Nat → Bool} (hb : Below W.heap.size W W') : ∀ {ts : List TypeId} {vs : List Value} {ds : List (DataW H)} {ps : List MemPlace}, (∀ t ∈ ts, P.readableRec t = true ∧ t < P.types.size) →
    DataW.TrodAll enc P W 0 (fun _ => true) true ts vs ds ps → (∀ x ∈ ps, x.block < W.heap.size) → (∀ x ∈ ps, sp x.block = true) → DataW.TrodAll enc P W' 0 sp true ts vs ds ps
  | [], vs, ds, ps, _, h, _, _ => by
    obtain ⟨rfl, rfl, rfl⟩ := trodAll_nil h
    exact trodAll_mk0
  | t :: ts, vs, ds, ps, hr, h, hlt, hs => by
    obtain ⟨v, vs', d, ds', p, q, rfl, rfl, rfl, h0, h1⟩ := trodAll_cons h
    exact trodAll_cons_mk (WideElems.Trod_stays hl (hr t (by simp)).1 (hr t (by simp)).2 h0 (fun x hx => hb.same (hlt x (by simp [hx]))) (fun x hx => hs x (by simp [hx])))
      (trodAll_stays hl hb (fun t' ht' => hr t' (by simp [ht'])) h1 (fun x hx => hlt x (by simp [hx])) (fun x hx => hs x (by simp [hx])))

/-- A law's post: it returned true, nothing that was there has turned. -/
theorem law_post {f : Func} {s : ChangeSpec} {b : TypeId} {W W' : World} {args : Array Value} {ds : List (DataW H)} {before : List MemPlace} (hl : laidOutB P = true) (hr : ∀ t ∈ f.params.toList, P.readableRec t = true ∧ t < P.types.size)
    (hvars : s.vars = []) (hres : f.resultTypes = #[b]) (hbool : P.underlying b = some .bool) (h1 : (s.fn H (ds ++ [])).results = [.lit (.bool true)]) (h2 : (s.fn H (ds ++ [])).args = ds) (h3 : (s.fn H (ds ++ [])).vars = [])
    (hW : DataW.Whole enc P f.params.toList s.vars false W args.toList ds [] before) (hb : Below W.heap.size W W') :
    s.post enc P f false true false false W args (.bool true) W' := by
  have hlt : ∀ p ∈ before, p.block < W.heap.size := fun p hp => hW.lt p hp
  have hold : ∀ p ∈ before, (fun b => decide (b < W.heap.size)) p.block = true := fun p hp => by simpa using hlt p hp
  obtain ⟨p, q, hA, hV, hps, hfz, hnd⟩ := id hW
  rw [hvars] at hV
  obtain ⟨_, rfl⟩ := trodVars_none hV
  simp only [List.append_nil] at hps
  subst hps
  refine ⟨ds, [], before, [], before, [], hW, ?_, ?_, ?_, World.keptBut_mono (fun p hp => ⟨hp, ?_⟩) (hb.frame (· ∈ before)), fun h => by cases h⟩
  · rw [h1, hres]
    exact trodAll_mk1 (shut_bool hbool true)
  · rw [h2]
    exact trodAll_stays hl hb hr hA hlt hold
  · rw [h3, hvars]; rfl
  · simp [hp]
end
end Go.Proofs.YtacajmgokdgbgaaDoor

/-
  From the reading of an argument that is a slice of triples to the words of the walks. No program is in sight.
-/
namespace Go.Proofs.YtacajmgokdgbgaaDoor
open Go.ChangeShapes Go.WideShapes Go.ChangeAt Go.RowKit Go.Deep

theorem addr_add_add (a : Addr) (i j : Nat) (w : World) (v : Value) (h : w.cell? ((a.add i).add j) = some v) : w.cell? (a.add (i + j)) = some v := by
  rw [← h]
  congr 1
  unfold Addr.add
  by_cases hi : i = 0 <;> by_cases hj : j = 0 <;> simp_all <;> omega

section
variable {H : Type} {enc : TypeId × Value → H} {P : Program} {w : World} {base : Nat} {held : Bool}
/-- A slice of triples that came in. -/
theorem s3_of_trod {t e q : TypeId} {f0 f1 f2 : Field} {fuel : Nat} {v : Value} {x : DataW H × List MemPlace} (ht : P.underlying t = some (.slice e)) (he : P.underlying e = some (.struct #[f0, f1, f2])) (t0 : f0.type = q) (t1 : f1.type = q) (t2 : f2.type = q) (o0 : f0.offset = 0) (o1 : f1.offset = 1) (o2 : f2.offset = 2) (hq : P.underlying q = some (.int .i64)) (ce : P.cellsOf e = 3) (cq : P.cellsOf q = 1)
    (h : DataW.trod enc P w base (fun _ => true) held fuel t [v] = some x) :
    ∃ A n c rs, v = .slice A n c ∧ S3 w A n rs ∧ n ≤ c ∧ c ≤ 9223372036854775807 := by
  rcases open_slice ht h with ⟨hcs, _⟩ | ⟨a, len, cap, m, n, D, Pl, hcs, _, hl, hm, hmm, _, hi⟩
  · simp at hcs; subst hcs
    exact ⟨none, 0, 0, [], rfl, Rd.nil, by omega, by omega⟩
  · simp at hcs; subst hcs
    simp at hmm; subst hmm
    have hm' : m ≤ 9223372036854775807 := by simp only [maxLen] at hm; omega
    have each : ∀ i, i < m → ∃ r : R3, w.cell? (a.add (i * 3 + 0)) = some (.int .i64 r.a) ∧ w.cell? (a.add (i * 3 + 1)) = some (.int .i64 r.b) ∧ w.cell? (a.add (i * 3 + 2)) = some (.int .i64 r.c) := by
      intro i him
      obtain ⟨cs', hc, htr⟩ := hi i him
      rw [ce] at hc
      obtain ⟨_, hlen, hcell⟩ := World.cells?_some hc
      obtain ⟨y0, y1, y2, n', _, _, h0, h1, h2⟩ := trod_struct3 he htr
      rw [t0, o0, cq] at h0
      rw [t1, o1, cq] at h1
      rw [t2, o2, cq] at h2
      match cs', hlen, hcell, h0, h1, h2 with
      | [c0, c1, c2], _, hcell, h0, h1, h2 =>
        simp at h0 h1 h2
        obtain ⟨z0, e0, _, _⟩ := DataW.trod_int hq h0
        obtain ⟨z1, e1, _, _⟩ := DataW.trod_int hq h1
        obtain ⟨z2, e2, _, _⟩ := DataW.trod_int hq h2
        simp only [List.cons.injEq, and_true] at e0 e1 e2
        subst e0 e1 e2
        exact ⟨⟨z0, z1, z2⟩, addr_add_add _ _ _ _ _ (by simpa using hcell 0 (by omega)), addr_add_add _ _ _ _ _ (by simpa using hcell 1 (by omega)), addr_add_add _ _ _ _ _ (by simpa using hcell 2 (by omega))⟩
    have hall : ∃ T : Nat → R3, ∀ i, i < m → w.cell? (a.add (i * 3 + 0)) = some (.int .i64 (T i).a) ∧ w.cell? (a.add (i * 3 + 1)) = some (.int .i64 (T i).b) ∧ w.cell? (a.add (i * 3 + 2)) = some (.int .i64 (T i).c) :=
      ⟨fun i => if h : i < m then (each i h).choose else ⟨0, 0, 0⟩, fun i him => by simp only [him, dif_pos]; exact (each i him).choose_spec⟩
    obtain ⟨T, hT⟩ := hall
    refine ⟨some a, len, m, (List.range len).map T, rfl, ⟨by rw [length_cells3]; simp, fun hn => ?_⟩, hl, hm'⟩
    rw [length_cells3] at hn
    simp at hn
    have h0 := (hT 0 (by omega)).1
    have hs : a = ⟨a.block, a.off, none⟩ := by
      rcases addr_none h0 with h1 | h1
      · exact h1
      · omega
    refine ⟨a.block, a.off, by rw [← hs], fun k hk => ?_⟩
    have hk2 := hk
    rw [length_cells3] at hk2
    simp at hk2
    obtain ⟨i, j, hj, rfl⟩ : ∃ i j, j < 3 ∧ k = i * 3 + j := ⟨k / 3, k % 3, by omega, by omega⟩
    have hg : ((List.range len).map T)[i]? = some (T i) := by simp [show i < len by omega]
    obtain ⟨g0, g1, g2⟩ := cells3_get _ _ _ hg
    obtain ⟨q0, q1, q2⟩ := hT i (by omega)
    rw [hs, add_lit] at q0 q1 q2
    match j, hj with
    | 0, _ => rw [q0, ← g0]; exact List.getElem?_eq_getElem _
    | 1, _ => rw [q1, ← g1]; exact List.getElem?_eq_getElem _
    | 2, _ => rw [q2, ← g2]; exact List.getElem?_eq_getElem _
end
end Go.Proofs.YtacajmgokdgbgaaDoor

/-
  What the two listed errors (errSteps, errLarge) give a law's walk, and a law's post where the row names both.
-/
namespace Go.Proofs.YtacajmgokdgbgaaDoor
open Go.ChangeShapes Go.WideShapes Go.ChangeAt Go.RowKit Go.Joins

theorem er_large : Tryd.prog.globalNamed "loop.example/g01079/impl.errLarge" = some 0 := by kernel_rfl
theorem er_steps : Tryd.prog.globalNamed "loop.example/g01079/impl.errSteps" = some 1 := by kernel_rfl
theorem er_largeT : (Tryd.prog.globals[0]?).map (·.type) = some 104 := by kernel_rfl
theorem er_stepsT : (Tryd.prog.globals[1]?).map (·.type) = some 104 := by kernel_rfl
theorem er_cellsE : Tryd.prog.cellsOf 247 = 1 := by kernel_rfl
theorem er_cellsS : Tryd.prog.cellsOf 9 = 1 := by kernel_rfl
theorem er_star : "*" ++ "errors.errorString" = "*errors.errorString" := by decide
theorem er_row (u : TypeId) (h : Tryd.prog.typeName? 3 u = some "*errors.errorString") : u = 224 :=
  typeName_ptr_named (nm := "errors.errorString") (by rw [er_star]; kernel_rfl) (by kernel_rfl) (by decide) u (by rw [er_star]; exact h)

set_option maxRecDepth 100000 in
theorem errs_of_laid {W : World} (h : laidMetH Tryd.prog [("loop.example/g01079/impl.errSteps", Rows.laid_loop_example_g01079_impl_errSteps), ("loop.example/g01079/impl.errLarge", Rows.laid_loop_example_g01079_impl_errLarge)] W) :
    ∃ a0 a1, ErrsW W a0 a1 ∧ W.var? Tryd.prog "loop.example/g01079/impl.errLarge" = some #[errV a0] ∧ W.var? Tryd.prog "loop.example/g01079/impl.errSteps" = some #[errV a1] := by
  rw [MakeChecks.laidMetH_plain _ _ _ (by kernel_rfl)] at h
  obtain ⟨ps, ⟨g0, t0, cs0, f0, p0, q0, hg0, ht0, hv0, hd0, ⟨g1, t1, cs1, f1, p1, q1, hg1, ht1, hv1, hd1, hq1, e1⟩, e0⟩, hnd, hrows⟩ := h
  obtain rfl := Option.some.inj (er_steps.symm.trans hg0)
  obtain rfl := Option.some.inj (er_large.symm.trans hg1)
  obtain rfl := Option.some.inj (er_stepsT.symm.trans ht0)
  obtain rfl := Option.some.inj (er_largeT.symm.trans ht1)
  have hq1' : q1 = [] := hq1
  subst hq1'
  subst e1
  subst e0
  obtain ⟨l0⟩ := cs0
  obtain ⟨l1⟩ := cs1
  have ok0 : ∀ u v, l0 = [.iface u v] → Value.okWide Tryd.prog W .any 0 u v := fun u v e => by
    subst e
    exact (hrows 1 0 (by simp [MemPlace.row])).2 u v (by simpa using World.var?_cell hg0 hv0 0)
  have ok1 : ∀ u v, l1 = [.iface u v] → Value.okWide Tryd.prog W .any 0 u v := fun u v e => by
    subst e
    exact (hrows 0 0 (by simp [MemPlace.row])).2 u v (by simpa using World.var?_cell hg1 hv1 0)
  obtain ⟨a0, s0, rfl, hc0, hs0, hz0, rfl⟩ := errorString_of_trod Tryd.underlying104 er_row Tryd.underlying224 Tryd.underlying247 rfl rfl Tryd.underlying9 er_cellsE er_cellsS hd0 ok0
  obtain ⟨a1, s1, rfl, hc1, hs1, hz1, rfl⟩ := errorString_of_trod Tryd.underlying104 er_row Tryd.underlying224 Tryd.underlying247 rfl rfl Tryd.underlying9 er_cellsE er_cellsS hd1 ok1
  obtain ⟨c0, t0, hb0⟩ := (hrows a0.block a0.off (by simp [MemPlace.row])).1
  obtain ⟨c1, t1, hb1⟩ := (hrows a1.block a1.off (by simp [MemPlace.row])).1
  refine ⟨a1, a0, ⟨by simpa using World.var?_cell hg1 hv1 0, by simpa using World.var?_cell hg0 hv0 0, ?_, ⟨c1, t1, hb1⟩, ⟨c0, t0, hb0⟩⟩, hv1, hv0⟩
  rintro rfl
  simp [MemPlace.row] at hnd

theorem vars_readE {H : Type} (enc : TypeId × Value → H) {W : World} {a0 a1 : Addr} (h0 : W.var? Tryd.prog "loop.example/g01079/impl.errLarge" = some #[errV a0]) (h1 : W.var? Tryd.prog "loop.example/g01079/impl.errSteps" = some #[errV a1]) (sp : Nat → Bool) :
    DataW.TrodVars enc Tryd.prog W sp ["loop.example/g01079/impl.errLarge", "loop.example/g01079/impl.errSteps"] [tok enc (errV a0), tok enc (errV a1)] [.cell 0 0, .cell 1 0] :=
  ⟨_, _, #[errV a0], 1, [], [.cell 1 0], er_large, er_largeT, h0, trod_held Tryd.underlying104 (show IsIface (errV a0) from trivial) 0, ⟨_, _, #[errV a1], 1, [], [], er_steps, er_stepsT, h1, trod_held Tryd.underlying104 (show IsIface (errV a1) from trivial) 0, rfl, rfl⟩, rfl⟩

theorem var_below {W W' : World} {n : String} {cs : Array Value} (h : W.var? Tryd.prog n = some cs) (z : Below W.heap.size W W') : W'.var? Tryd.prog n = some cs := by
  unfold World.var? at h ⊢
  cases hg : Tryd.prog.globalNamed n with
  | none => simp [hg] at h
  | some g =>
    simp only [hg, Option.bind_some] at h ⊢
    have hlt : g < W.heap.size := by
      rcases Nat.lt_or_ge g W.heap.size with h' | h'
      · exact h'
      · simp [Array.getElem?_eq_none h'] at h
    rw [z.block g hlt]
    exact h

/-- A law's post where the row names the two errors: it returned true, nothing that was there has turned. -/
theorem law_postE {H : Type} {enc : TypeId × Value → H} {f : Func} {s : ChangeSpec} {b : TypeId} {W W' : World} {args : Array Value} {ds gs : List (DataW H)} {before : List MemPlace} {a0 a1 : Addr} (hl : laidOutB Tryd.prog = true)
    (hr : ∀ t ∈ f.params.toList, Tryd.prog.readableRec t = true ∧ t < Tryd.prog.types.size) (hvars : s.vars = ["loop.example/g01079/impl.errLarge", "loop.example/g01079/impl.errSteps"]) (hres : f.resultTypes = #[b]) (hbool : Tryd.prog.underlying b = some .bool)
    (h1 : ∀ g0 g1, (s.fn H (ds ++ [g0, g1])).results = [.lit (.bool true)]) (h2 : ∀ g0 g1, (s.fn H (ds ++ [g0, g1])).args = ds) (h3 : ∀ g0 g1, (s.fn H (ds ++ [g0, g1])).vars = [g0, g1])
    (hv0 : W.var? Tryd.prog "loop.example/g01079/impl.errLarge" = some #[errV a0]) (hv1 : W.var? Tryd.prog "loop.example/g01079/impl.errSteps" = some #[errV a1])
    (hW : DataW.Whole enc Tryd.prog f.params.toList s.vars false W args.toList ds gs before) (hb : Below W.heap.size W W') :
    s.post enc Tryd.prog f false true false false W args (.bool true) W' := by
  have hlt : ∀ p ∈ before, p.block < W.heap.size := fun p hp => hW.lt p hp
  obtain ⟨p, q, hA, hV, hps, hfz, hnd⟩ := id hW
  rw [hvars] at hV
  obtain ⟨rfl, rfl⟩ := hV.unique (vars_readE enc hv0 hv1 _)
  subst hps
  have hltp : ∀ x ∈ p, x.block < W.heap.size := fun x hx => hlt x (List.mem_append_left _ hx)
  refine ⟨ds, _, _, [], p, [MemPlace.cell 0 0, MemPlace.cell 1 0], hW, ?_, ?_, ?_, World.keptBut_mono (fun x hx => ⟨hx, ?_⟩) (hb.frame (fun x => x ∈ p ++ [MemPlace.cell 0 0, MemPlace.cell 1 0])), fun h => by cases h⟩
  · rw [h1, hres]
    exact trodAll_mk1 (shut_bool hbool true)
  · rw [h2]
    exact trodAll_stays hl hb hr hA hltp (fun x hx => by simpa using hltp x hx)
  · rw [h3, hvars]
    exact vars_readE enc (var_below hv0 hb) (var_below hv1 hb) _
  · rcases List.mem_append.1 hx with h | h
    · exact .inr (.inl h)
    · exact .inr (.inr h)
end Go.Proofs.YtacajmgokdgbgaaDoor

/-
  Words that the laws' walks share: a box that a region made, contracts of the helpers in one form.
-/
namespace Go.Proofs.YtacajmgokdgbgaaDoor
open Go.RowKit

theorem Own.asI {w : World} {lo n c : Nat} {e : TypeId} {A : Option Addr} {xs : List Int} (h : Own w lo e 1 A n c (ints xs)) : SI w A n xs := h.rd
theorem Own.as3 {w : World} {lo n c : Nat} {e : TypeId} {A : Option Addr} {xs : List R3} (h : Own w lo e 3 A n c (cells3 xs)) : S3 w A n xs := h.rd
/-- A block from lo on that is known whole. -/
def Bx (lo : Nat) (t : TypeId) (cs : Array Value) (g : Nat) (w : World) : Prop := lo ≤ g ∧ Blk w g t cs
theorem Bx.new {lo : Nat} (w : World) (t : TypeId) (cs : Array Value) (h : lo ≤ w.heap.size) : Bx lo t cs w.heap.size (w.alloc (.cells cs t)) := ⟨h, Blk.new w t cs⟩
theorem Bx.below' {lo g : Nat} {t : TypeId} {cs : Array Value} {w w' : World} (h : Bx lo t cs g w) (z : Below w.heap.size w w') : Bx lo t cs g w' := ⟨h.1, h.2.below' z⟩
theorem Bx.drewN {lo g : Nat} {t : TypeId} {cs : Array Value} {w : World} (h : Bx lo t cs g w) (n : Nat) : Bx lo t cs g (w.drewN n) := ⟨h.1, h.2.drewN n⟩
theorem below_of_alloc {w w' : World} {o : Obj} (h : Below (w.alloc o).heap.size (w.alloc o) w') : Below w.heap.size w w' :=
  ((Below.refl _ _).alloc (Nat.le_refl _) o).trans (h.mono (by simp))
theorem eqI_b (A B : Option Addr) (n m c d : Nat) (xs ys : List Int) (w : World) (hx : SI w A n xs) (hy : SI w B m ys) (hn : n ≤ 9223372036854775807) :
    Calls Tryd.prog 12 #[.slice A n c, .slice B m d] w fun e w' => e = .returned (.bool (sameI xs ys)) ∧ Below w.heap.size w w' :=
  (eqI A B n m c d xs ys w hx hy hn).mono fun _ _ ⟨he, q, hq⟩ => ⟨he, hq ▸ below_drewN (Below.refl _ _) q⟩
theorem heldI_b (A : Option Addr) (n c : Nat) (xs : List Int) (m : Int) (w : World) (hx : SI w A n xs) (h0 : 0 ≤ m) (h1 : m + n ≤ 9223372036854775807) : Calls Tryd.prog 16 #[.slice A n c, .int .i64 m] w fun e w' => e = .returned (.int .i64 (heldF m xs)) ∧ Below w.heap.size w w' := (heldI A n c xs m w hx h0 h1).mono fun _ _ ⟨he, hq⟩ => ⟨he, hq ▸ Below.refl _ _⟩
theorem sameII_self (xs : List (List Int)) : sameII xs xs = true := by simp [sameII]
end Go.Proofs.YtacajmgokdgbgaaDoor

/-
  The walk of the law FnExactRunLoop: it returns true, and nothing that was there before has turned.
-/
namespace Go.Proofs.YtacajmgokdgbgaaDoor
open Go.RowKit

set_option maxRecDepth 100000 in
set_option maxHeartbeats 16000000 in
theorem lawRunLoop (A0 : Option Addr) (n0 c0 : Nat) (rs0 : List R3) (A1 : Option Addr) (n1 c1 : Nat) (xs1 : List Int) (b2 : Int) (w : World) (hx0 : S3 w A0 n0 rs0) (hx1 : SI w A1 n1 xs1)  (hb0 : n0 ≤ 9223372036854775807) (hb1 : n1 ≤ 9223372036854775807)  (a0 a1 : Addr) (he : ErrsW w a0 a1) :
    Calls Tryd.prog 3 #[.slice A0 n0 c0, .slice A1 n1 c1, .int .i64 b2] w fun e w' => e = .returned (.bool true) ∧ Below w.heap.size w w' := by
  by_cases hbig1 : 1048576 < n1
  · have hbig' : (1048576 : Int) < (n1 : Int) := by omega
    go_enter Tryd.func3, Tryd.ntmps3
    go_wp2_with fail
    go_ret
    exact ⟨rfl, Below.refl _ _⟩
  have hbig1' : ¬ (1048576 : Int) < (n1 : Int) := by omega
  have p1 : n1 ≤ 1048576 := by omega
  go_enter Tryd.func3, Tryd.ntmps3
  go_wp2_with fail
  refine (szLp_p _ _ _ _ _ hb0 (by omega) (by omega)).mono ?_
  rintro e W1 ⟨v1, rfl, va1, vb1, vc1, z1⟩
  have VC1 := Lib.hid vc1
  clear vc1
  by_cases hneg1 : v1 < 0
  · go_wp2_with fail
    go_ret
    exact ⟨rfl, z1⟩
  have hsm : n0 ≤ 1048576 := by
    have t1 := VC1.out (by omega)
    omega
  have p0 := hsm
  clear VC1
  go_wp2_with fail
  refine (toLp _ _ _ rs0 _ (hx0.below z1) p0).mono ?_
  rintro e W2 ⟨B2, rfl, o2, z2⟩
  go_wp2_with fail
  have yw_W2 : Below w.heap.size w W2 := z1.trans (z2.mono z1.size)
  refine (toI _ _ _ xs1 _ (hx1.below yw_W2) p1).mono ?_
  rintro e W3 ⟨B3, rfl, o3, z3⟩
  go_wp2_with fail
  have yw_W3 : Below w.heap.size w W3 := yw_W2.trans (z3.mono yw_W2.size)
  refine (rlS_any _ _ _ rs0 _ _ _ xs1 _ _ (o2.below z3).as3 o3.asI p0 p1).mono ?_
  obtain ⟨res, hres⟩ : ∃ res, res = runLoopF rs0 xs1 b2 := ⟨_, rfl⟩
  rw [← hres]
  have HRES := Lib.hid hres
  clear hres
  rintro e W4 ⟨A4r, c4r, rfl, oR4, z4⟩
  have hlen : res.1.length ≤ 1048576 := by rw [HRES.out]; exact runLoopF_len rs0 xs1 b2
  have lx0 := hlen
  go_wp2_with fail
  have yw_W4 : Below w.heap.size w W4 := yw_W3.trans (z4.mono yw_W3.size)
  refine (toLp _ _ _ rs0 _ (hx0.below yw_W4) p0).mono ?_
  rintro e W5 ⟨B5, rfl, o5, z5⟩
  go_wp2_with fail
  have yw_W5 : Below w.heap.size w W5 := yw_W4.trans (z5.mono yw_W4.size)
  refine (toI _ _ _ xs1 _ (hx1.below yw_W5) p1).mono ?_
  rintro e W6 ⟨B6, rfl, o6, z6⟩
  go_wp2_with fail
  have yw_W6 : Below w.heap.size w W6 := yw_W5.trans (z6.mono yw_W5.size)
  refine (rlI_any a0 a1 _ _ _ rs0 _ _ _ xs1 _ _ (o5.below z6).as3 o6.asI p0 p1 (Nat.le_refl _) (he.below yw_W6)).mono ?_
  rw [← HRES.out]
  rintro e W7 ⟨A7r, c7r, rfl, oR7, z7⟩
  have yW4_W6 : Below W4.heap.size W4 W6 := z5.trans (z6.mono z5.size)
  have yW4_W7 : Below W4.heap.size W4 W7 := yW4_W6.trans (z7.mono yW4_W6.size)
  go_wp2_with fail
  refine (eqI_b _ _ _ _ _ _ res.1 res.1 _ oR7.rd (oR4.below yW4_W7).rd (by omega)).mono ?_
  rintro e W8 ⟨rfl, z8⟩
  rw [sameI_self]
  have yw_W7 : Below w.heap.size w W7 := yw_W6.trans (z7.mono yw_W6.size)
  have yw_W8 : Below w.heap.size w W8 := yw_W7.trans (z8.mono yw_W7.size)
  go_wp2_with fail
  refine (toLp _ _ _ rs0 _ (hx0.below yw_W8) p0).mono ?_
  rintro e W9 ⟨B9, rfl, o9, z9⟩
  have yW5_W7 : Below W5.heap.size W5 W7 := z6.trans (z7.mono z6.size)
  have yW5_W8 : Below W5.heap.size W5 W8 := yW5_W7.trans (z8.mono yW5_W7.size)
  have yW5_W9 : Below W5.heap.size W5 W9 := yW5_W8.trans (z9.mono yW5_W8.size)
  go_wp2_with fail
  refine (eqLp _ _ _ _ _ _ rs0 rs0 _ (o5.below yW5_W9).as3 o9.as3 (by omega)).mono ?_
  rintro e W10 ⟨rfl, z10⟩
  rw [same3_self]
  have yw_W9 : Below w.heap.size w W9 := yw_W8.trans (z9.mono yw_W8.size)
  have yw_W10 : Below w.heap.size w W10 := yw_W9.trans (z10.mono yw_W9.size)
  go_wp2_with fail
  refine (toI _ _ _ xs1 _ (hx1.below yw_W10) p1).mono ?_
  rintro e W11 ⟨B11, rfl, o11, z11⟩
  have yW6_W8 : Below W6.heap.size W6 W8 := z7.trans (z8.mono z7.size)
  have yW6_W9 : Below W6.heap.size W6 W9 := yW6_W8.trans (z9.mono yW6_W8.size)
  have yW6_W10 : Below W6.heap.size W6 W10 := yW6_W9.trans (z10.mono yW6_W9.size)
  have yW6_W11 : Below W6.heap.size W6 W11 := yW6_W10.trans (z11.mono yW6_W10.size)
  go_wp2_with fail
  refine (eqI_b _ _ _ _ _ _ xs1 xs1 _ (o6.below yW6_W11).rd o11.rd (by omega)).mono ?_
  rintro e W12 ⟨rfl, z12⟩
  rw [sameI_self]
  have TN_LO : Hid (64 ∈ [64, 2]) := Lib.hid (by decide)
  have TI0 : Hid (2 ∈ [64, 2]) := Lib.hid (by decide)
  have hs_W2 : W1.heap.size ≤ W2.heap.size := z2.size
  have hs_W3 : W2.heap.size ≤ W3.heap.size := z3.size
  have hs_W4 : W3.heap.size ≤ W4.heap.size := z4.size
  have hs_W5 : W4.heap.size ≤ W5.heap.size := z5.size
  have hs_W6 : W5.heap.size ≤ W6.heap.size := z6.size
  have hs_W7 : W6.heap.size ≤ W7.heap.size := z7.size
  have hs_W8 : W7.heap.size ≤ W8.heap.size := z8.size
  have hs_W9 : W8.heap.size ≤ W9.heap.size := z9.size
  have hs_W10 : W9.heap.size ≤ W10.heap.size := z10.size
  have hs_W11 : W10.heap.size ≤ W11.heap.size := z11.size
  have hs_W12 : W11.heap.size ≤ W12.heap.size := z12.size
  have yW5_W10 : Below W5.heap.size W5 W10 := yW5_W9.trans (z10.mono yW5_W9.size)
  have yW5_W11 : Below W5.heap.size W5 W11 := yW5_W10.trans (z11.mono yW5_W10.size)
  have yW5_W12 : Below W5.heap.size W5 W12 := yW5_W11.trans (z12.mono yW5_W11.size)
  have m0 : Mk W12 W4.heap.size W6.heap.size 64 3 B5 n0 := (((o5.below yW5_W12)).mono (by omega)).mk (fun b hb => by have := o5.blk_lt b hb; omega)
  have yW6_W12 : Below W6.heap.size W6 W12 := yW6_W11.trans (z12.mono yW6_W11.size)
  have m1 : Mk W12 W4.heap.size W6.heap.size 2 1 B6 n1 := (((o6.below yW6_W12)).mono (by omega)).mk (fun b hb => by have := o6.blk_lt b hb; omega)
  have yw_W11 : Below w.heap.size w W11 := yw_W10.trans (z11.mono yw_W10.size)
  have yw_W12 : Below w.heap.size w W12 := yw_W11.trans (z12.mono yw_W11.size)
  have yW7_W9 : Below W7.heap.size W7 W9 := z8.trans (z9.mono z8.size)
  have yW7_W10 : Below W7.heap.size W7 W10 := yW7_W9.trans (z10.mono yW7_W9.size)
  have yW7_W11 : Below W7.heap.size W7 W11 := yW7_W10.trans (z11.mono yW7_W10.size)
  have yW7_W12 : Below W7.heap.size W7 W12 := yW7_W11.trans (z12.mono yW7_W11.size)
  have yW4_W8 : Below W4.heap.size W4 W8 := yW4_W7.trans (z8.mono yW4_W7.size)
  have yW4_W9 : Below W4.heap.size W4 W9 := yW4_W8.trans (z9.mono yW4_W8.size)
  have yW4_W10 : Below W4.heap.size W4 W10 := yW4_W9.trans (z10.mono yW4_W9.size)
  have yW4_W11 : Below W4.heap.size W4 W11 := yW4_W10.trans (z11.mono yW4_W10.size)
  have yW4_W12 : Below W4.heap.size W4 W12 := yW4_W11.trans (z12.mono yW4_W11.size)
  have io0 := (oR7.below yW7_W12)
  have so0 := (oR4.below yW4_W12)
  go_wp2_with fail
  refine (markLp_m [64, 2] _ _ _ _ _ W4.heap.size W6.heap.size m0 TN_LO.out (by omega) (by omega)).mono ?_
  rintro e W13 ⟨rfl, f13⟩
  go_wp2_with fail
  refine (markI_m [64, 2] _ _ _ _ _ W4.heap.size W6.heap.size (m1.mkf f13) TI0.out (by omega) (by omega)).mono ?_
  rintro e W14 ⟨rfl, f14⟩
  have ff14 := f13.trans f14
  have io0 := io0.mkf_far ff14 (fun b hb => .inr (oR7.blk_ge b hb))
  have so0 := so0.mkf_far ff14 (fun b hb => .inl (by have := oR4.blk_lt b hb; omega))
  have yM : Below w.heap.size w W14 := yw_W12.trans (ff14.below yw_W4.size yw_W12.size)
  have hs_W14 : W12.heap.size ≤ W14.heap.size := ff14.size
  clear ff14
  have gneg : ¬ ((1 : Int) + (n0 * 3 : Int) + (n1 : Int) < 0) := by omega
  go_wp2_with fail
  refine (eqI_b _ _ _ _ _ _ res.1 res.1 _ io0.rd so0.rd (by omega)).mono ?_
  rintro e W15 ⟨rfl, z15⟩
  rw [sameI_self]
  clear gneg
  have hs_W15 : W14.heap.size ≤ W15.heap.size := z15.size
  go_wp2_with fail
  refine (markI _ _ _ res.1 _ _ W6.heap.size W7.heap.size (.inr (io0.below z15)) (fun b hb => oR7.blk_lt b hb) (by omega) (by omega)).mono ?_
  rintro e W16 ⟨rfl, eR, t16, _⟩
  have so0 := (so0.below z15).touch t16 (fun b hb => .inl (by have := oR4.blk_lt b hb; omega))
  have yw_W15 : Below w.heap.size w W15 := yM.trans (z15.mono yM.size)
  have hlow : w.heap.size ≤ W6.heap.size := by have := yw_W4.size; omega
  have yN : Below w.heap.size w W16 := yw_W15.trans (t16.below hlow yw_W15.size)
  have hs_W16 : W15.heap.size ≤ W16.heap.size := t16.size
  clear t16
  go_wp2_with fail
  refine (heldI_b _ _ _ (marks 1 res.1.length) _ _ eR.si (by omega) (by omega)).mono ?_
  rintro e W17 ⟨rfl, z17⟩
  rw [heldF_marks]
  have gneg : ¬ ((1 : Int) + (res.1.length : Int) < 0) := by omega
  have yw_W17 : Below w.heap.size w W17 := yN.trans (z17.mono yN.size)
  go_wp2_with fail
  refine (toLp _ _ _ rs0 _ (hx0.below yw_W17) p0).mono ?_
  rintro e W18 ⟨B18, rfl, o18, z18⟩
  go_wp2_with fail
  have yw_W18 : Below w.heap.size w W18 := yw_W17.trans (z18.mono yw_W17.size)
  refine (toI _ _ _ xs1 _ (hx1.below yw_W18) p1).mono ?_
  rintro e W19 ⟨B19, rfl, o19, z19⟩
  go_wp2_with fail
  have yw_W19 : Below w.heap.size w W19 := yw_W18.trans (z19.mono yw_W18.size)
  refine (rlI_any a0 a1 _ _ _ rs0 _ _ _ xs1 _ _ (o18.below z19).as3 o19.asI p0 p1 (Nat.le_refl _) (he.below yw_W19)).mono ?_
  rw [← HRES.out]
  rintro e W20 ⟨A20r, c20r, rfl, oR20, z20⟩
  have yW16_W18 : Below W16.heap.size W16 W18 := z17.trans (z18.mono z17.size)
  have yW16_W19 : Below W16.heap.size W16 W19 := yW16_W18.trans (z19.mono yW16_W18.size)
  have yW16_W20 : Below W16.heap.size W16 W20 := yW16_W19.trans (z20.mono yW16_W19.size)
  go_wp2_with fail
  refine (eqI_b _ _ _ _ _ _ res.1 res.1 _ oR20.rd (so0.below yW16_W20).rd (by omega)).mono ?_
  rintro e W21 ⟨rfl, z21⟩
  rw [sameI_self]
  go_wp2_with fail
  have yW16_W21 : Below W16.heap.size W16 W21 := yW16_W20.trans (z21.mono yW16_W20.size)
  refine (heldI_b _ _ _ (marks 1 res.1.length) _ _ (eR.below yW16_W21).si (by omega) (by omega)).mono ?_
  rintro e W22 ⟨rfl, z22⟩
  rw [heldF_marks]
  have yw_W20 : Below w.heap.size w W20 := yw_W19.trans (z20.mono yw_W19.size)
  have yw_W21 : Below w.heap.size w W21 := yw_W20.trans (z21.mono yw_W20.size)
  have yw_W22 : Below w.heap.size w W22 := yw_W21.trans (z22.mono yw_W21.size)
  go_wp2_with fail
  go_ret
  exact ⟨rfl, yw_W22⟩
end Go.Proofs.YtacajmgokdgbgaaDoor

/-
  For every input, FnExactRunLoop returns true, and each argument reads afterwards as it read before. The two listed errors hold what the program's text lays.
-/
namespace Go.Proofs.YtacajmgokdgbgaaDoor.lawRunLoopRow
open Go.ChangeShapes Go.WideShapes Go.ChangeAt Go.RowKit Go.Joins Go.Proofs.YtacajmgokdgbgaaDoor

theorem own : ownKnob Tryd.prog.godebug = none := by kernel_rfl
theorem laidOut : laidOutB Tryd.prog = true := by kernel_rfl
theorem readable : ∀ t ∈ Tryd.f3.params.toList, Tryd.prog.readableRec t = true ∧ t < Tryd.prog.types.size := by
  have h : (Tryd.f3.params.toList.all fun t => Tryd.prog.readableRec t && decide (t < Tryd.prog.types.size)) = true := by kernel_rfl
  intro t ht
  have := List.all_eq_true.1 h t ht
  simpa using this

/-- The heap that the program's own start leaves meets the condition. -/
theorem door_met (os : Os) (args : Array Value) : laidMetH Tryd.prog Rows.fnExactRunLoopRow.laid ((World.doorLaid Tryd.prog 400 os).forCall (fun _ _ => 0) ⟨#[], args, []⟩).memory :=
  laidMetH_of_parts3 (fuel := 8) (laidMet_of_run' 8 (by kernel_rfl) (by kernel_rfl)) (by kernel_rfl) (by kernel_rfl)

set_option maxRecDepth 100000 in
theorem lifted (os : Os) (started : os.Started) (H : Type) (enc : TypeId × Value → H) :
    ReturnsInHanded {} Tryd.checked os 3 .any (fun w args => (Rows.fnExactRunLoopSpec.pre enc Tryd.prog Tryd.f3 [] false w args ∧ laidMetH Tryd.prog Rows.fnExactRunLoopRow.laid w) ∧ sizedMet enc Tryd.prog Tryd.f3 (OpenSpec.ofChange Rows.fnExactRunLoopSpec) false w args)
      (Rows.fnExactRunLoopSpec.post enc Tryd.prog Tryd.f3 false true false false) := by
  refine returnsInHanded_of_change_and (C := Tryd.checked) (X := fun w _ => laidMetH Tryd.prog Rows.fnExactRunLoopRow.laid w) (fun _ _ _ hh h => h.of_heap hh) own started (by kernel_rfl) Tryd.func3
    (ChangeSpec.witness_shaped (enc := enc) (C := Tryd.checked) (os := os) (X := fun w _ => laidMetH Tryd.prog Rows.fnExactRunLoopRow.laid w) false (World.doorLaid Tryd.prog 400 os) #[.slice none 0 0, .slice none 0 0, .int .i64 0] 8 rfl (World.shaped_of_RefB (by kernel_rfl) (by kernel_rfl)) (by kernel_rfl) (by kernel_rfl) (by kernel_rfl) (door_met os _)) ?_
  intro W base args ds gs before hval0 hW _ _ hL _
  have hval : ∀ (j : Nat) t v, Tryd.f3.params[j]? = some t → args[j]? = some v → Value.okWide Tryd.prog W .any base t v := hval0
  have hW' := hW
  obtain ⟨p, q, hA0, hV, hbef, hfz, hnd⟩ := hW
  have hA : DataW.TrodAll enc Tryd.prog W 0 (fun _ => true) true Tryd.f3.params.toList args.toList ds p := hA0
  rw [Tryd.params3] at hA hval
  obtain ⟨v0, vs0, d0, ds0, p0, q0, hargs, rfl, rfl, h0, r0⟩ := trodAll_cons hA
  obtain ⟨v1, vs1, d1, ds1, p1, q1, rfl, rfl, rfl, h1, r1⟩ := trodAll_cons r0
  obtain ⟨v2, vs2, d2, ds2, p2, q2, rfl, rfl, rfl, h2, r2⟩ := trodAll_cons r1
  obtain ⟨rfl, rfl, rfl⟩ := trodAll_nil r2
  obtain rfl : args = #[v0, v1, v2] := by cases args; simp_all
  obtain ⟨a0, a1, HE, hv0, hv1⟩ := errs_of_laid hL
  obtain ⟨Aa0, na0, ka0, rfl⟩ := okWide_slice Tryd.underlying22 (hval 0 22 v0 rfl rfl)
  obtain ⟨fuel0, hf0⟩ := h0
  obtain ⟨Aa0', na0', ka0', xa0, ee0, Sa0, la0, ma0⟩ := s3_of_trod (v := .slice Aa0 na0 ka0) Tryd.underlying22 Tryd.underlying66 rfl rfl rfl rfl rfl rfl Tryd.underlying2 (by kernel_rfl) (by kernel_rfl) (by simpa [Value.cells] using hf0)
  simp only [Value.slice.injEq] at ee0
  obtain ⟨rfl, rfl, rfl⟩ := ee0
  obtain ⟨Aa1, na1, ka1, rfl⟩ := okWide_slice Tryd.underlying23 (hval 1 23 v1 rfl rfl)
  obtain ⟨fuel1, hf1⟩ := h1
  obtain ⟨Aa1', na1', ka1', xa1, ee1, Sa1, la1, ma1, _⟩ := si_of_trod (v := .slice Aa1 na1 ka1) Tryd.underlying23 Tryd.underlying2 (by kernel_rfl) (by simpa [Value.cells] using hf1)
  simp only [Value.slice.injEq] at ee1
  obtain ⟨rfl, rfl, rfl⟩ := ee1
  obtain ⟨b2, rfl⟩ := okWide_int Tryd.underlying2 (hval 2 2 v2 rfl rfl)
  refine (lawRunLoop Aa0 na0 ka0 xa0 Aa1 na1 ka1 xa1 b2 W Sa0 Sa1 (by omega) (by omega) a0 a1 HE).mono fun e W' ⟨he, hb⟩ => ?_
  subst he
  exact ⟨_, rfl, law_postE laidOut readable rfl (by kernel_rfl) Tryd.underlying4 (fun g0 g1 => rfl) (fun g0 g1 => rfl) (fun g0 g1 => rfl) hv0 hv1 hW' hb⟩

set_option maxHeartbeats 8000000 in
theorem closed : joinedFacts Tryd.pinned.checked.prog 3 Tryd.f3 Rows.fnExactRunLoopSpec Rows.fnExactRunLoopRow = true := by
  unfold joinedFacts
  simp only [Bool.and_eq_true]
  repeat' (refine And.intro ?_ ?_)
  all_goals (as_aux_lemma => kernel_rfl)
theorem named : Tryd.pinned.checked.prog.funcNamed Rows.fnExactRunLoopRow.func = some 3 := by kernel_rfl
theorem instance_ : decide (Func.isInstance Tryd.pinned.checked.prog Tryd.f3 Rows.fnExactRunLoopRow.origin Rows.fnExactRunLoopRow.targs) = true := by kernel_rfl
set_option maxHeartbeats 8000000 in
theorem row_holds : Rows.FnExactRunLoopSaid :=
  OpenClaim.holds_of_wide 3 Tryd.f3 rfl rfl rfl rfl rfl rfl rfl ⟨rfl, rfl, rfl, rfl, rfl⟩ rfl rfl rfl rfl rfl named Tryd.func3 closed
    (of_decide_eq_true instance_) (by unfold Func.isWrapper; first | (rw [if_pos (by decide +kernel)]; kernel_rfl) | (rw [if_neg (by decide +kernel)]; exact ⟨rfl, rfl⟩))
    (fun os started H enc _ => lifted os started H enc)
end Go.Proofs.YtacajmgokdgbgaaDoor.lawRunLoopRow

/-
  The tied card of FnExactRunLoop: for every input it returns true, and each argument reads afterwards as it read before; the three listed tables are tied to the program's text.
-/
namespace Go.Proofs.YtacajmgokdgbgaaDoor.cardRunLoop
open Go Go.Proofs.YtacajmgokdgbgaaDoor

theorem proved : Rows.FnExactRunLoopCardSaid :=
  Claim7.holds_tied_plain_at .later [] Rows.fnExactRunLoopCard.laidKinds true Rows.fnExactRunLoopCard.stood.harness true
    lawRunLoopRow.row_holds (fun _ h => by cases h) (by kernel_rfl) (fun _ h => by cases h) fnExactRunLoop_row_tie rfl ⟨rfl, rfl⟩ (by kernel_rfl) rfl
    (fun f fn hf hfn => by
      obtain rfl : f = 3 := Option.some.inj ((show Tryd.prog.funcNamed Rows.fnExactRunLoopRow.func = some 3 by kernel_rfl).symm.trans hf) |>.symm
      obtain rfl : fn = Tryd.f3 := (Option.some.inj (Tryd.func3.symm.trans hfn)).symm
      exact ⟨by kernel_rfl, fun j t ht => by
        rw [Tryd.params3] at ht
        have hm : t ∈ [22, 23, 2] := by simpa using Array.mem_of_getElem? ht
        have hall : ([22, 23, 2].all fun u => !Tryd.prog.wantsStandIn u) = true := by kernel_rfl
        exact (show Tryd.prog.wantsStandIn t = false by simpa using List.all_eq_true.1 hall t hm)⟩)
    (by kernel_rfl)
end Go.Proofs.YtacajmgokdgbgaaDoor.cardRunLoop
