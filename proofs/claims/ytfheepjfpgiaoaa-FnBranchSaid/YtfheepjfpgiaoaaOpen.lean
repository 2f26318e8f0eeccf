/-
  From the reading of an argument to the words of the walks, and from a walk to a row's post. No program is in sight.
-/
import Derived.Test.YtfheepjfpgiaoaaWords
import Derived.ProofKit
import Derived.OpenShut
import Derived.ChangeOld
import Derived.Deep.Slices
import Derived.Lib.SmallJoins
namespace Go.Proofs.Ytfheepjfpgiaoaa
open Go.ChangeShapes Go.WideShapes Go.ChangeAt Go.RowKit Go.Deep

section
variable {H : Type} {enc : TypeId × Value → H} {P : Program} {w : World} {base : Nat} {spare : Nat → Bool} {held : Bool}

theorem addr_none {w : World} {a : Addr} {k : Nat} {v : Value} (h : w.cell? (a.add k) = some v) : a = ⟨a.block, a.off, none⟩ ∨ 0 < k := by
  by_cases hk : k = 0
  · subst hk
    have h1 : (a.add 0) = a := by simp [Addr.add]
    rw [h1] at h
    have := World.cell?_spot h
    left; cases a; simp_all
  · right; omega

/-- A slice of numbers that came in. -/
theorem si_of_trod {t e : TypeId} {fuel : Nat} {v : Value} {x : DataW H × List MemPlace} (ht : P.underlying t = some (.slice e)) (he : P.underlying e = some (.int .i64)) (hc : P.cellsOf e = 1) (h : DataW.trod enc P w base (fun _ => true) held fuel t [v] = some x) :
    ∃ A n c xs, v = .slice A n c ∧ SI w A n xs ∧ n ≤ c ∧ c ≤ 9223372036854775807 ∧ ∀ z ∈ xs, -9223372036854775808 ≤ z ∧ z ≤ 9223372036854775807 := by
  rcases open_ints ht he hc h with ⟨hcs, _⟩ | ⟨a, len, cap, zs, hcs, _, hl, hm, hz, _, hcell, hwf⟩
  · simp at hcs; subst hcs
    exact ⟨none, 0, 0, [], rfl, Rd.nil, by omega, by omega, by simp⟩
  · simp at hcs; subst hcs
    simp at hz
    have hm' : cap ≤ 9223372036854775807 := by simp only [maxLen] at hm; omega
    refine ⟨some a, len, cap, zs.take len, rfl, ⟨by rw [length_ints]; simp; omega, fun hn => ?_⟩, hl, hm', fun z hz' => ?_⟩
    · rw [length_ints] at hn
      simp at hn
      have h0 := hcell 0 (by omega)
      have hs : a = ⟨a.block, a.off, none⟩ := by
        rcases addr_none h0 with h1 | h1
        · exact h1
        · omega
      refine ⟨a.block, a.off, by rw [← hs], fun k hk => ?_⟩
      rw [length_ints] at hk
      simp at hk
      have hk' := hcell k (by omega)
      rw [hs, add_lit] at hk'
      rw [ints_get, hk']
      simp [List.getD, List.getElem?_eq_getElem (show k < zs.length by omega)]
    · have := hwf z (List.mem_of_mem_take hz')
      simpa [Lit.wf, IntKind.min, IntKind.max, IntKind.signed, IntKind.bits] using this

/-- A slice of slices of numbers that came in. -/
theorem sii_of_trod {t e q : TypeId} {fuel : Nat} {v : Value} {x : DataW H × List MemPlace} (ht : P.underlying t = some (.slice e)) (he : P.underlying e = some (.slice q)) (hq : P.underlying q = some (.int .i64)) (ce : P.cellsOf e = 1) (cq : P.cellsOf q = 1)
    (h : DataW.trod enc P w base (fun _ => true) held fuel t [v] = some x) :
    ∃ A n c ts, v = .slice A n c ∧ SII w A n ts ∧ n ≤ c ∧ c ≤ 9223372036854775807 ∧ (∀ t ∈ ts, t.xs.length ≤ t.c ∧ t.c ≤ 9223372036854775807) ∧ ∀ t ∈ ts, ∀ z ∈ t.xs, -9223372036854775808 ≤ z ∧ z ≤ 9223372036854775807 := by
  rcases open_slice1 ht ce h with ⟨hcs, _⟩ | ⟨a, len, cap, m, n, V, D, Pl, hcs, _, hl, hm, hmm, _, hi⟩
  · simp at hcs; subst hcs
    exact ⟨none, 0, 0, [], rfl, ⟨Rd.nil, by simp⟩, by omega, by omega, by simp, by simp⟩
  · simp at hcs; subst hcs
    simp at hmm; subst hmm
    have hm' : m ≤ 9223372036854775807 := by simp only [maxLen] at hm; omega
    have each : ∀ i, i < m → ∃ t : Sl, V i = t.val ∧ SI w t.A t.xs.length t.xs ∧ (t.xs.length ≤ t.c ∧ t.c ≤ 9223372036854775807) ∧ ∀ z ∈ t.xs, -9223372036854775808 ≤ z ∧ z ≤ 9223372036854775807 := by
      intro i him
      obtain ⟨A, k, c, xs, hV, hS, h1, h2, h3⟩ := si_of_trod he hq cq (hi i him).2
      have hk : xs.length = k := hS.len
      subst hk
      exact ⟨⟨A, c, xs⟩, hV, hS, ⟨h1, h2⟩, h3⟩
    have hall : ∃ T : Nat → Sl, ∀ i, i < m → V i = (T i).val ∧ SI w (T i).A (T i).xs.length (T i).xs ∧ ((T i).xs.length ≤ (T i).c ∧ (T i).c ≤ 9223372036854775807) ∧ ∀ z ∈ (T i).xs, -9223372036854775808 ≤ z ∧ z ≤ 9223372036854775807 :=
      ⟨fun i => if h : i < m then (each i h).choose else ⟨none, 0, []⟩, fun i him => by simp only [him, dif_pos]; exact (each i him).choose_spec⟩
    obtain ⟨T, hT⟩ := hall
    refine ⟨some a, len, m, (List.range len).map T, rfl, ⟨⟨by simp, fun hn => ?_⟩, fun t ht' => ?_⟩, hl, hm', fun t ht' => ?_, fun t ht' => ?_⟩
    · simp at hn
      have h0 := (hi 0 (by omega)).1
      have hs : a = ⟨a.block, a.off, none⟩ := by
        rcases addr_none h0 with h1 | h1
        · exact h1
        · omega
      refine ⟨a.block, a.off, by rw [← hs], fun k hk => ?_⟩
      simp at hk
      have hk' := (hi k (by omega)).1
      rw [hs, add_lit, (hT k (by omega)).1] at hk'
      rw [hk']; simp
    · obtain ⟨i, hi', rfl⟩ := List.mem_map.1 ht'
      exact (hT i (by have := List.mem_range.1 hi'; omega)).2.1
    · obtain ⟨i, hi', rfl⟩ := List.mem_map.1 ht'
      exact (hT i (by have := List.mem_range.1 hi'; omega)).2.2.1
    · obtain ⟨i, hi', rfl⟩ := List.mem_map.1 ht'
      exact (hT i (by have := List.mem_range.1 hi'; omega)).2.2.2
end

section
variable {H : Type} {enc : TypeId × Value → H} {P : Program}
theorem trodAll_stays (hl : laidOutB P = true) {W W' : World} {sp : Nat → Bool} (hb : Below W.heap.size W W') : ∀ {ts : List TypeId} {vs : List Value} {ds : List (DataW H)} {ps : List MemPlace}, (∀ t ∈ ts, P.readableRec t = true ∧ t < P.types.size) →
    DataW.TrodAll enc P W 0 (fun _ => true) true ts vs ds ps → (∀ x ∈ ps, x.block < W.heap.size) → (∀ x ∈ ps, sp x.block = true) → DataW.TrodAll enc P W' 0 sp true ts vs ds ps
  | [], vs, ds, ps, _, h, _, _ => by
    obtain ⟨rfl, rfl, rfl⟩ := trodAll_nil h
    exact trodAll_mk0
  | t :: ts, vs, ds, ps, hr, h, hlt, hs => by
    obtain ⟨v, vs', d, ds', p, q, rfl, rfl, rfl, h0, h1⟩ := trodAll_cons h
    exact trodAll_cons_mk (WideElems.Trod_stays hl (hr t (by simp)).1 (hr t (by simp)).2 h0 (fun x hx => hb.same (hlt x (by simp [hx]))) (fun x hx => hs x (by simp [hx])))
      (trodAll_stays hl hb (fun t' ht' => hr t' (by simp [ht'])) h1 (fun x hx => hlt x (by simp [hx])) (fun x hx => hs x (by simp [hx])))

/-- A law's post: it returned true, nothing that was there has turned. -/
theorem law_post {f : Func} {s : ChangeSpec} {b : TypeId} {W W' : World} {args : Array Value} {ds : List (DataW H)} {before : List MemPlace} (hl : laidOutB P = true) (hr : ∀ t ∈ f.params.toList, P.readableRec t = true ∧ t < P.types.size)
    (hvars : s.vars = []) (hres : f.resultTypes = #[b]) (hbool : P.underlying b = some .bool) (h1 : (s.fn H (ds ++ [])).results = [.lit (.bool true)]) (h2 : (s.fn H (ds ++ [])).args = ds) (h3 : (s.fn H (ds ++ [])).vars = [])
    (hW : DataW.Whole enc P f.params.toList s.vars false W args.toList ds [] before) (hb : Below W.heap.size W W') :
    s.post enc P f false true false false W args (.bool true) W' := by
  have hlt : ∀ p ∈ before, p.block < W.heap.size := fun p hp => hW.lt p hp
  have hold : ∀ p ∈ before, (fun b => decide (b < W.heap.size)) p.block = true := fun p hp => by simpa using hlt p hp
  obtain ⟨p, q, hA, hV, hps, hfz, hnd⟩ := id hW
  rw [hvars] at hV
  obtain ⟨_, rfl⟩ := trodVars_none hV
  simp only [List.append_nil] at hps
  subst hps
  refine ⟨ds, [], before, [], before, [], hW, ?_, ?_, ?_, World.keptBut_mono (fun p hp => ⟨hp, ?_⟩) (hb.frame (· ∈ before)), fun h => by cases h⟩
  · rw [h1, hres]
    exact trodAll_mk1 (shut_bool hbool true)
  · rw [h2]
    exact trodAll_stays hl hb hr hA hlt hold
  · rw [h3, hvars]; rfl
  · simp [hp]
end
end Go.Proofs.Ytfheepjfpgiaoaa
