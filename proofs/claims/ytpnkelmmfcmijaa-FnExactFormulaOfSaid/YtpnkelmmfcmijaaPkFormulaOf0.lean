/-
  From the reading of an argument to the words of the walks, and from a walk to a row's post. No program is in sight.
-/
import Derived.Test.YtpnkelmmfcmijaaPbHelpFB0
import Derived.Test.YtpnkelmmfcmijaaPbHelpFB1
import Derived.Test.YtpnkelmmfcmijaaPbHelpFB4
import Derived.Test.YtpnkelmmfcmijaaPbHelpFB6
import Derived.ProofKit
import Derived.OpenShut
import Derived.ChangeOld
import Derived.Deep.Slices
import Derived.Lib.SmallJoins
import Derived.Deep.Strs
import Derived.Lib.QuietBelow
namespace Go.Proofs.Ytpnkelmmfcmijaa
open Go.ChangeShapes Go.WideShapes Go.ChangeAt Go.RowKit Go.Deep

section
variable {H : Type} {enc : TypeId × Value → H} {P : Program} {w : World} {base : Nat} {spare : Nat → Bool} {held : Bool}

theorem addr_none {w : World} {a : Addr} {k : Nat} {v : Value} (h : w.cell? (a.add k) = some v) : a = ⟨a.block, a.off, none⟩ ∨ 0 < k := by
  by_cases hk : k = 0
  · subst hk
    have h1 : (a.add 0) = a := by simp [Addr.add]
    rw [h1] at h
    have := World.cell?_spot h
    left; cases a; simp_all
  · right; omega

/-- A slice of numbers that came in. -/
theorem si_of_trod {t e : TypeId} {fuel : Nat} {v : Value} {x : DataW H × List MemPlace} (ht : P.underlying t = some (.slice e)) (he : P.underlying e = some (.int .i64)) (hc : P.cellsOf e = 1) (h : DataW.trod enc P w base (fun _ => true) held fuel t [v] = some x) :
    ∃ A n c xs, v = .slice A n c ∧ SI w A n xs ∧ n ≤ c ∧ c ≤ 9223372036854775807 ∧ ∀ z ∈ xs, -9223372036854775808 ≤ z ∧ z ≤ 9223372036854775807 := by
  rcases open_ints ht he hc h with ⟨hcs, _⟩ | ⟨a, len, cap, zs, hcs, _, hl, hm, hz, _, hcell, hwf⟩
  · simp at hcs; subst hcs
    exact ⟨none, 0, 0, [], rfl, Rd.nil, by omega, by omega, by simp⟩
  · simp at hcs; subst hcs
    simp at hz
    have hm' : cap ≤ 9223372036854775807 := by simp only [maxLen] at hm; omega
    refine ⟨some a, len, cap, zs.take len, rfl, ⟨by rw [length_ints]; simp; omega, fun hn => ?_⟩, hl, hm', fun z hz' => ?_⟩
    · rw [length_ints] at hn
      simp at hn
      have h0 := hcell 0 (by omega)
      have hs : a = ⟨a.block, a.off, none⟩ := by
        rcases addr_none h0 with h1 | h1
        · exact h1
        · omega
      refine ⟨a.block, a.off, by rw [← hs], fun k hk => ?_⟩
      rw [length_ints] at hk
      simp at hk
      have hk' := hcell k (by omega)
      rw [hs, add_lit] at hk'
      rw [ints_get, hk']
      simp [List.getD, List.getElem?_eq_getElem (show k < zs.length by omega)]
    · have := hwf z (List.mem_of_mem_take hz')
      simpa [Lit.wf, IntKind.min, IntKind.max, IntKind.signed, IntKind.bits] using this

/-- A slice of slices of numbers that came in. -/
theorem sii_of_trod {t e q : TypeId} {fuel : Nat} {v : Value} {x : DataW H × List MemPlace} (ht : P.underlying t = some (.slice e)) (he : P.underlying e = some (.slice q)) (hq : P.underlying q = some (.int .i64)) (ce : P.cellsOf e = 1) (cq : P.cellsOf q = 1)
    (h : DataW.trod enc P w base (fun _ => true) held fuel t [v] = some x) :
    ∃ A n c ts, v = .slice A n c ∧ SII w A n ts ∧ n ≤ c ∧ c ≤ 9223372036854775807 ∧ (∀ t ∈ ts, t.xs.length ≤ t.c ∧ t.c ≤ 9223372036854775807) ∧ ∀ t ∈ ts, ∀ z ∈ t.xs, -9223372036854775808 ≤ z ∧ z ≤ 9223372036854775807 := by
  rcases open_slice1 ht ce h with ⟨hcs, _⟩ | ⟨a, len, cap, m, n, V, D, Pl, hcs, _, hl, hm, hmm, _, hi⟩
  · simp at hcs; subst hcs
    exact ⟨none, 0, 0, [], rfl, ⟨Rd.nil, by simp⟩, by omega, by omega, by simp, by simp⟩
  · simp at hcs; subst hcs
    simp at hmm; subst hmm
    have hm' : m ≤ 9223372036854775807 := by simp only [maxLen] at hm; omega
    have each : ∀ i, i < m → ∃ t : Sl, V i = t.val ∧ SI w t.A t.xs.length t.xs ∧ (t.xs.length ≤ t.c ∧ t.c ≤ 9223372036854775807) ∧ ∀ z ∈ t.xs, -9223372036854775808 ≤ z ∧ z ≤ 9223372036854775807 := by
      intro i him
      obtain ⟨A, k, c, xs, hV, hS, h1, h2, h3⟩ := si_of_trod he hq cq (hi i him).2
      have hk : xs.length = k := hS.len
      subst hk
      exact ⟨⟨A, c, xs⟩, hV, hS, ⟨h1, h2⟩, h3⟩
    have hall : ∃ T : Nat → Sl, ∀ i, i < m → V i = (T i).val ∧ SI w (T i).A (T i).xs.length (T i).xs ∧ ((T i).xs.length ≤ (T i).c ∧ (T i).c ≤ 9223372036854775807) ∧ ∀ z ∈ (T i).xs, -9223372036854775808 ≤ z ∧ z ≤ 9223372036854775807 :=
      ⟨fun i => if h : i < m then (each i h).choose else ⟨none, 0, []⟩, fun i him => by simp only [him, dif_pos]; exact (each i him).choose_spec⟩
    obtain ⟨T, hT⟩ := hall
    refine ⟨some a, len, m, (List.range len).map T, rfl, ⟨⟨by simp, fun hn => ?_⟩, fun t ht' => ?_⟩, hl, hm', fun t ht' => ?_, fun t ht' => ?_⟩
    · simp at hn
      have h0 := (hi 0 (by omega)).1
      have hs : a = ⟨a.block, a.off, none⟩ := by
        rcases addr_none h0 with h1 | h1
        · exact h1
        · omega
      refine ⟨a.block, a.off, by rw [← hs], fun k hk => ?_⟩
      simp at hk
      have hk' := (hi k (by omega)).1
      rw [hs, add_lit, (hT k (by omega)).1] at hk'
      rw [hk']; simp
    · obtain ⟨i, hi', rfl⟩ := List.mem_map.1 ht'
      exact (hT i (by have := List.mem_range.1 hi'; omega)).2.1
    · obtain ⟨i, hi', rfl⟩ := List.mem_map.1 ht'
      exact (hT i (by have := List.mem_range.1 hi'; omega)).2.2.1
    · obtain ⟨i, hi', rfl⟩ := List.mem_map.1 ht'
      exact (hT i (by have := List.mem_range.1 hi'; omega)).2.2.2
end

section
variable {H : Type} {enc : TypeId × Value → H} {P : Program}
theorem trodAll_stays (hl : laidOutB P = true) {W W' : World} {sp : Nat → Bool} (hb : Below W.heap.size W W') : ∀ {ts : List TypeId} {vs : List Value} {ds : List (DataW H)} {ps : List MemPlace}, (∀ t ∈ ts, P.readableRec t = true ∧ t < P.types.size) →
    DataW.TrodAll enc P W 0 (fun _ => true) true ts vs ds ps → (∀ x ∈ ps, x.block < W.heap.size) → (∀ x ∈ ps, sp x.block = true) → DataW.TrodAll enc P W' 0 sp true ts vs ds ps
  | [], vs, ds, ps, _, h, _, _ => by
    obtain ⟨rfl, rfl, rfl⟩ := trodAll_nil h
    exact trodAll_mk0
  | t :: ts, vs, ds, ps, hr, h, hlt, hs => by
    obtain ⟨v, vs', d, ds', p, q, rfl, rfl, rfl, h0, h1⟩ := trodAll_cons h
    exact trodAll_cons_mk (WideElems.Trod_stays hl (hr t (by simp)).1 (hr t (by simp)).2 h0 (fun x hx => hb.same (hlt x (by simp [hx]))) (fun x hx => hs x (by simp [hx])))
      (trodAll_stays hl hb (fun t' ht' => hr t' (by simp [ht'])) h1 (fun x hx => hlt x (by simp [hx])) (fun x hx => hs x (by simp [hx])))

/-- A law's post: it returned true, nothing that was there has turned. -/
theorem law_post {f : Func} {s : ChangeSpec} {b : TypeId} {W W' : World} {args : Array Value} {ds : List (DataW H)} {before : List MemPlace} (hl : laidOutB P = true) (hr : ∀ t ∈ f.params.toList, P.readableRec t = true ∧ t < P.types.size)
    (hvars : s.vars = []) (hres : f.resultTypes = #[b]) (hbool : P.underlying b = some .bool) (h1 : (s.fn H (ds ++ [])).results = [.lit (.bool true)]) (h2 : (s.fn H (ds ++ [])).args = ds) (h3 : (s.fn H (ds ++ [])).vars = [])
    (hW : DataW.Whole enc P f.params.toList s.vars false W args.toList ds [] before) (hb : Below W.heap.size W W') :
    s.post enc P f false true false false W args (.bool true) W' := by
  have hlt : ∀ p ∈ before, p.block < W.heap.size := fun p hp => hW.lt p hp
  have hold : ∀ p ∈ before, (fun b => decide (b < W.heap.size)) p.block = true := fun p hp => by simpa using hlt p hp
  obtain ⟨p, q, hA, hV, hps, hfz, hnd⟩ := id hW
  rw [hvars] at hV
  obtain ⟨_, rfl⟩ := trodVars_none hV
  simp only [List.append_nil] at hps
  subst hps
  refine ⟨ds, [], before, [], before, [], hW, ?_, ?_, ?_, World.keptBut_mono (fun p hp => ⟨hp, ?_⟩) (hb.frame (· ∈ before)), fun h => by cases h⟩
  · rw [h1, hres]
    exact trodAll_mk1 (shut_bool hbool true)
  · rw [h2]
    exact trodAll_stays hl hb hr hA hlt hold
  · rw [h3, hvars]; rfl
  · simp [hp]
end
end Go.Proofs.Ytpnkelmmfcmijaa

/-
  From the reading of an argument that is a slice of triples to the words of the walks. No program is in sight.
-/
namespace Go.Proofs.Ytpnkelmmfcmijaa
open Go.ChangeShapes Go.WideShapes Go.ChangeAt Go.RowKit Go.Deep

theorem addr_add_add (a : Addr) (i j : Nat) (w : World) (v : Value) (h : w.cell? ((a.add i).add j) = some v) : w.cell? (a.add (i + j)) = some v := by
  rw [← h]
  congr 1
  unfold Addr.add
  by_cases hi : i = 0 <;> by_cases hj : j = 0 <;> simp_all <;> omega

section
variable {H : Type} {enc : TypeId × Value → H} {P : Program} {w : World} {base : Nat} {held : Bool}
/-- A slice of triples that came in. -/
theorem s3_of_trod {t e q : TypeId} {f0 f1 f2 : Field} {fuel : Nat} {v : Value} {x : DataW H × List MemPlace} (ht : P.underlying t = some (.slice e)) (he : P.underlying e = some (.struct #[f0, f1, f2])) (t0 : f0.type = q) (t1 : f1.type = q) (t2 : f2.type = q) (o0 : f0.offset = 0) (o1 : f1.offset = 1) (o2 : f2.offset = 2) (hq : P.underlying q = some (.int .i64)) (ce : P.cellsOf e = 3) (cq : P.cellsOf q = 1)
    (h : DataW.trod enc P w base (fun _ => true) held fuel t [v] = some x) :
    ∃ A n c rs, v = .slice A n c ∧ S3 w A n rs ∧ n ≤ c ∧ c ≤ 9223372036854775807 := by
  rcases open_slice ht h with ⟨hcs, _⟩ | ⟨a, len, cap, m, n, D, Pl, hcs, _, hl, hm, hmm, _, hi⟩
  · simp at hcs; subst hcs
    exact ⟨none, 0, 0, [], rfl, Rd.nil, by omega, by omega⟩
  · simp at hcs; subst hcs
    simp at hmm; subst hmm
    have hm' : m ≤ 9223372036854775807 := by simp only [maxLen] at hm; omega
    have each : ∀ i, i < m → ∃ r : R3, w.cell? (a.add (i * 3 + 0)) = some (.int .i64 r.a) ∧ w.cell? (a.add (i * 3 + 1)) = some (.int .i64 r.b) ∧ w.cell? (a.add (i * 3 + 2)) = some (.int .i64 r.c) := by
      intro i him
      obtain ⟨cs', hc, htr⟩ := hi i him
      rw [ce] at hc
      obtain ⟨_, hlen, hcell⟩ := World.cells?_some hc
      obtain ⟨y0, y1, y2, n', _, _, h0, h1, h2⟩ := trod_struct3 he htr
      rw [t0, o0, cq] at h0
      rw [t1, o1, cq] at h1
      rw [t2, o2, cq] at h2
      match cs', hlen, hcell, h0, h1, h2 with
      | [c0, c1, c2], _, hcell, h0, h1, h2 =>
        simp at h0 h1 h2
        obtain ⟨z0, e0, _, _⟩ := DataW.trod_int hq h0
        obtain ⟨z1, e1, _, _⟩ := DataW.trod_int hq h1
        obtain ⟨z2, e2, _, _⟩ := DataW.trod_int hq h2
        simp only [List.cons.injEq, and_true] at e0 e1 e2
        subst e0 e1 e2
        exact ⟨⟨z0, z1, z2⟩, addr_add_add _ _ _ _ _ (by simpa using hcell 0 (by omega)), addr_add_add _ _ _ _ _ (by simpa using hcell 1 (by omega)), addr_add_add _ _ _ _ _ (by simpa using hcell 2 (by omega))⟩
    have hall : ∃ T : Nat → R3, ∀ i, i < m → w.cell? (a.add (i * 3 + 0)) = some (.int .i64 (T i).a) ∧ w.cell? (a.add (i * 3 + 1)) = some (.int .i64 (T i).b) ∧ w.cell? (a.add (i * 3 + 2)) = some (.int .i64 (T i).c) :=
      ⟨fun i => if h : i < m then (each i h).choose else ⟨0, 0, 0⟩, fun i him => by simp only [him, dif_pos]; exact (each i him).choose_spec⟩
    obtain ⟨T, hT⟩ := hall
    refine ⟨some a, len, m, (List.range len).map T, rfl, ⟨by rw [length_cells3]; simp, fun hn => ?_⟩, hl, hm'⟩
    rw [length_cells3] at hn
    simp at hn
    have h0 := (hT 0 (by omega)).1
    have hs : a = ⟨a.block, a.off, none⟩ := by
      rcases addr_none h0 with h1 | h1
      · exact h1
      · omega
    refine ⟨a.block, a.off, by rw [← hs], fun k hk => ?_⟩
    have hk2 := hk
    rw [length_cells3] at hk2
    simp at hk2
    obtain ⟨i, j, hj, rfl⟩ : ∃ i j, j < 3 ∧ k = i * 3 + j := ⟨k / 3, k % 3, by omega, by omega⟩
    have hg : ((List.range len).map T)[i]? = some (T i) := by simp [show i < len by omega]
    obtain ⟨g0, g1, g2⟩ := cells3_get _ _ _ hg
    obtain ⟨q0, q1, q2⟩ := hT i (by omega)
    rw [hs, add_lit] at q0 q1 q2
    match j, hj with
    | 0, _ => rw [q0, ← g0]; exact List.getElem?_eq_getElem _
    | 1, _ => rw [q1, ← g1]; exact List.getElem?_eq_getElem _
    | 2, _ => rw [q2, ← g2]; exact List.getElem?_eq_getElem _
end
end Go.Proofs.Ytpnkelmmfcmijaa

/-
  Contracts of the reference's checks of words and proofs: l03Is, l03All, l25Is, l25Form, l25Blank, l25Side, l25After, CheckHalt.
-/
namespace Go.Proofs.Ytpnkelmmfcmijaa
open Go.RowKit

theorem isWord_out {xs : List Int} {k n : Nat} (hk : k < n) (hl : xs.length = n) (h : (!inB (xs[k]'(by omega)) 0 9) = true) : false = isWordB xs := by
  have := allIn_at hk hl h
  unfold isWordB; rw [← this]; simp
theorem isWord_end {xs : List Int} {k n : Nat} (hk : n ≤ k) (hl : xs.length = n) (he : allIn (xs.take k) 0 9 = true) : decide ((n : Int) ≤ 400) = isWordB xs := by
  have := allIn_end hk hl he
  unfold isWordB; rw [← this, hl]; simp; omega

set_option maxHeartbeats 400000 in
theorem l03Is_any (A : Option Addr) (n c : Nat) (xs : List Int) (w : World) (hx : SI w A n xs) (hn : n ≤ 9223372036854775807) :
    Calls Try.prog 234 #[.slice A n c] w fun e w' => e = .returned (.bool (isWordB xs)) ∧ w = w' := by
  go_enter Try.func234, Try.ntmps234
  go_wp2
  go_loop [3] (fun i => ∃ k : Nat, k ≤ n ∧ i = .int .i64 k ∧ Hid (allIn (xs.take k) 0 9 = true)) (fun i => n - (intOf i).toNat)
  case atStart => exact ⟨0, by omega, rfl, rfl⟩
  case round =>
    obtain ⟨k, hk, rfl, he⟩ := hrel
    by_cases hlt : k < n
    · obtain ⟨b, off, rfl, _, hc⟩ := hx.at_ hlt
      go_wp2_with (go_at_call 101; refine (l00In_any _ _ _ _).mono ?_; rintro e w' ⟨rfl, rfl⟩)
      · go_ret
        exact ⟨ret_bool (isWord_out hlt hx.len (by assumption)), rfl⟩
      · exact ⟨⟨k + 1, by omega, by go_num, allIn_next hlt hx.len (by assumption) he.out⟩, by simp [intOf]; omega⟩
    · go_wp2
      go_ret
      exact ⟨ret_bool (isWord_end (by omega) hx.len he.out), rfl⟩

theorem areWords_not {ts : List Sl} {t : Sl} {k : Nat} (hT : ts[k]? = some t) (h : (!isWordB t.xs) = true) : false = areWordsB (nums ts) := by
  symm
  unfold areWordsB; rw [List.all_eq_false]
  exact ⟨t.xs, by simp only [nums, List.mem_map]; exact ⟨t, List.mem_of_getElem? hT, rfl⟩, by simpa using h⟩
theorem areWords_next {ts : List Sl} {t : Sl} {k : Nat} (hT : ts[k]? = some t) (h : (!isWordB t.xs) = false) (he : areWordsB ((nums ts).take k) = true) : areWordsB ((nums ts).take (k + 1)) = true := by
  obtain ⟨hk, rfl⟩ := List.getElem?_eq_some_iff.1 hT
  unfold areWordsB at he ⊢
  rw [List.take_succ_eq_append_getElem (by simpa [nums] using hk), List.all_append, he]
  simpa [nums] using h
theorem areWords_end {ts : List Sl} {k n : Nat} (hk : n ≤ k) (hl : ts.length = n) (he : areWordsB ((nums ts).take k) = true) : true = areWordsB (nums ts) := by
  rw [List.take_of_length_le (by simp [nums]; omega)] at he; exact he.symm

set_option maxHeartbeats 400000 in
theorem l03All_any (A : Option Addr) (n c : Nat) (ts : List Sl) (w : World) (hx : SII w A n ts) (hn : n ≤ 9223372036854775807) (hns : ∀ t ∈ ts, t.xs.length ≤ 9223372036854775807) :
    Calls Try.prog 163 #[.slice A n c] w fun e w' => e = .returned (.bool (areWordsB (nums ts))) ∧ w = w' := by
  have HNS := Lib.hid hns
  clear hns
  go_enter Try.func163, Try.ntmps163
  go_wp2
  go_loop [3] (fun i => ∃ k : Nat, k ≤ n ∧ i = .int .i64 k ∧ Hid (areWordsB ((nums ts).take k) = true)) (fun i => n - (intOf i).toNat)
  case atStart => exact ⟨0, by omega, rfl, rfl⟩
  case round =>
    obtain ⟨k, hk, rfl, he⟩ := hrel
    by_cases hlt : k < n
    · obtain ⟨t, b, off, hT, htm, rfl, _, hc, hr⟩ := hx.pick hlt
      have hnt := HNS.out t htm
      go_wp2_with (go_at_call 234; refine (l03Is_any _ _ _ _ _ hr hnt).mono ?_; rintro e w' ⟨rfl, rfl⟩)
      · go_ret
        exact ⟨ret_bool (areWords_not hT.out (by assumption)), rfl⟩
      · exact ⟨⟨k + 1, by omega, by go_num, areWords_next hT.out (by assumption) he.out⟩, by simp [intOf]; omega⟩
    · go_wp2
      go_ret
      exact ⟨ret_bool (areWords_end (by omega) hx.len he.out), rfl⟩

/-- A proof behind a pointer. -/
def PrfAt (w : World) (g : Nat) (q : Int) (A : Option Addr) (n c : Nat) (B : Option Addr) (m d : Nat) : Prop :=
  w.cell? ⟨g, 0, none⟩ = some (.int .i64 q) ∧ w.cell? ⟨g, 1, none⟩ = some (.slice A n c) ∧ w.cell? ⟨g, 2, none⟩ = some (.slice B m d)
theorem PrfAt.below {w w' : World} {g : Nat} {q : Int} {A : Option Addr} {n c : Nat} {B : Option Addr} {m d : Nat} (h : PrfAt w g q A n c B m d) (hb : Below w.heap.size w w') : PrfAt w' g q A n c B m d := by
  have hlt : g < w.heap.size := World.block_lt_of_cell? w _ h.1
  exact ⟨(hb.cell (p := ⟨g, 0, none⟩) hlt).trans h.1, (hb.cell (p := ⟨g, 1, none⟩) hlt).trans h.2.1, (hb.cell (p := ⟨g, 2, none⟩) hlt).trans h.2.2⟩
theorem Blk.prfAt {w : World} {g : Nat} {t : TypeId} {q : Int} {A : Option Addr} {n c : Nat} {B : Option Addr} {m d : Nat} (h : Blk w g t #[.int .i64 q, .slice A n c, .slice B m d]) : PrfAt w g q A n c B m d := ⟨h.cell 0, h.cell 1, h.cell 2⟩

set_option maxHeartbeats 1000000 in
theorem l25Is_any (g : Nat) (q : Int) (A : Option Addr) (n c : Nat) (xs : List Int) (B : Option Addr) (m d : Nat) (ts : List Sl) (w : World) (hp : PrfAt w g q A n c B m d) (hx : SI w A n xs) (hy : SII w B m ts) (hn : n ≤ 1048576) (hm : m ≤ 1048576) (hns : ∀ t ∈ ts, t.xs.length ≤ 1048576) :
    Calls Try.prog 80 #[.pointer (some ⟨g, 0, none⟩)] w fun e w' => e = .returned (.bool (validProofB q xs (nums ts))) ∧ w = w' := by
  obtain ⟨u0, u1, u2⟩ := hp
  have HL := Lib.hid hx.len
  have HM : Hid ((nums ts).length = m) := by show _ = _; have := hy.len; simpa [nums] using this
  have HNS := Lib.hid hns
  clear hns
  cases a1 : inB q 1 8
  · have A1 := Lib.hid a1
    clear a1
    go_enter Try.func80, Try.ntmps80
    go_wp2_with (go_at_call 101; refine (l00In_is A1.out _).mono ?_; rintro e w' ⟨rfl, rfl⟩)
    go_ret
    exact ⟨ret_bool (by unfold validProofB; rw [A1.out]; rfl), rfl⟩
  have A1 := Lib.hid a1
  clear a1
  by_cases h1 : n ≤ 300
  · by_cases h2 : m ≤ 300
    · have i1 : decide ((300 : Int) < (n : Int)) = false := by simp; omega
      have i2 : decide ((300 : Int) < (m : Int)) = false := by simp; omega
      go_enter Try.func80, Try.ntmps80
      go_wp2_with (go_at_call 101; refine (l00In_is A1.out _).mono ?_; rintro e w' ⟨rfl, rfl⟩)
      go_loop [3] (fun i => ∃ k : Nat, k ≤ n ∧ i = .int .i64 k ∧ Hid (allIn (xs.take k) (-1000000000000) 1000000000000 = true)) (fun i => n - (intOf i).toNat)
      case atStart => exact ⟨0, by omega, rfl, rfl⟩
      case round =>
        obtain ⟨k, hk, rfl, he⟩ := hrel
        by_cases hlt : k < n
        · obtain ⟨b, off, rfl, _, hc⟩ := hx.at_ hlt
          go_wp2_with (go_at_call 101; refine (l00In_any _ _ _ _).mono ?_; rintro e w' ⟨rfl, rfl⟩)
          · go_ret
            exact ⟨ret_bool (by unfold validProofB; rw [← allIn_at hlt hx.len (by assumption)]; simp), rfl⟩
          · exact ⟨⟨k + 1, by omega, by go_num, allIn_next hlt hx.len (by assumption) he.out⟩, by simp [intOf]; omega⟩
        · go_wp2_with (go_at_call 163; refine (l03All_any _ _ _ ts _ hy (by omega) (fun t ht => by have := HNS.out t ht; omega)).mono ?_; rintro e w' ⟨rfl, rfl⟩)
          go_ret
          exact ⟨ret_bool (by unfold validProofB; rw [A1.out, ← allIn_end (by omega) hx.len he.out, HL.out, HM.out]; simp [h1, h2]), rfl⟩
    · have i1 : decide ((300 : Int) < (n : Int)) = false := by simp; omega
      have i2 : decide ((300 : Int) < (m : Int)) = true := by simp; omega
      go_enter Try.func80, Try.ntmps80
      go_wp2_with (go_at_call 101; refine (l00In_is A1.out _).mono ?_; rintro e w' ⟨rfl, rfl⟩)
      go_ret
      exact ⟨ret_bool (by unfold validProofB; rw [HM.out]; simp [h2]), rfl⟩
  · have i1 : decide ((300 : Int) < (n : Int)) = true := by simp; omega
    go_enter Try.func80, Try.ntmps80
    go_wp2_with (go_at_call 101; refine (l00In_is A1.out _).mono ?_; rintro e w' ⟨rfl, rfl⟩)
    go_ret
    exact ⟨ret_bool (by unfold validProofB; rw [HL.out]; simp [h1]), rfl⟩

def formB (q : Int) (xs : List Int) (xss : List (List Int)) (kd : Int) (nn : Nat) : Bool := validProofB q xs xss && decide (q = kd) && decide (xs.length = nn) && decide (xss.length = 0)
theorem formB_eq (sy st : Int) (rs : List R3) (q : Int) (xs : List Int) (xss : List (List Int)) (kd : Int) (nn : Nat) : proofOfB sy st rs q xs xss kd nn = (machB sy st rs && formB q xs xss kd nn) := by
  unfold proofOfB formB; simp only [Bool.and_assoc]

set_option maxHeartbeats 1000000 in
theorem l25Blank_any (w : World) : Calls Try.prog 165 #[] w (NewConf w 0 [] []) := by
  obtain ⟨C, hC⟩ : ∃ C : Obj, C = .cells #[.int .i64 0, .slice (some ⟨w.heap.size + 1, 0, none⟩) 0 0, .slice (some ⟨w.heap.size + 1 + 1, 0, none⟩) 0 0] 59 := ⟨_, rfl⟩
  have s1 : (w.alloc C).heap.size = w.heap.size + 1 := by simp
  have s2 : ((w.alloc C).alloc (.cells #[] 2)).heap.size = w.heap.size + 1 + 1 := by simp
  have o1 := (Own.lit (w.alloc C) #[] 2 0 1 w.heap.size (by simp) (by simp [maxLen]) (by simp)).alloc (.cells #[] 2)
  have o2 := Own.lit ((w.alloc C).alloc (.cells #[] 2)) #[] 2 0 1 w.heap.size (by simp) (by simp [maxLen]) (by simp; omega)
  rw [s1] at o1
  rw [s2] at o2
  have d : Blk (((w.alloc C).alloc (.cells #[] 2)).alloc (.cells #[] 2)) w.heap.size 59 #[.int .i64 0, .slice (some ⟨w.heap.size + 1, 0, none⟩) 0 0, .slice (some ⟨w.heap.size + 1 + 1, 0, none⟩) 0 0] := by rw [hC]; exact ((Blk.new w _ _).alloc _).alloc _
  have y : Below w.heap.size w (((w.alloc C).alloc (.cells #[] 2)).alloc (.cells #[] 2)) := (((Below.refl _ _).alloc (Nat.le_refl _) _).alloc (by simp) _).alloc (by simp; omega) _
  have HC := Lib.hid hC
  clear hC s1 s2
  go_enter Try.func165, Try.ntmps165
  go_wp2_with fail
  rw [← HC.out]
  generalize ((w.alloc C).alloc (.cells #[] 2)).alloc (.cells #[] 2) = wf at *
  have q0 : wf.cell? ⟨w.heap.size, 0, none⟩ = some (.int .i64 0) := d.cell 0
  have q1 : wf.cell? ⟨w.heap.size, 1, none⟩ = some (.slice (some ⟨w.heap.size + 1, 0, none⟩) 0 0) := d.cell 1
  have q2 : wf.cell? ⟨w.heap.size, 2, none⟩ = some (.slice (some ⟨w.heap.size + 1 + 1, 0, none⟩) 0 0) := d.cell 2
  exact bodyPost_ret (v := .agg #[.int .i64 0, .slice (some ⟨w.heap.size + 1, 0, none⟩) 0 0, .slice (some ⟨w.heap.size + 1 + 1, 0, none⟩) 0 0]) (by simp [results, Try.results165, go_sem, q0, q1, q2]) rfl ⟨_, 0, _, 0, rfl, o1, o2, fun b h1 h2 => by simp [blk] at h1 h2; omega, y⟩

set_option maxHeartbeats 2000000 in
theorem l25Side_c {w : World} {g : Nat} {sy st : Int} {A : Option Addr} {n k : Nat} {rs : List R3} {f lo : Nat} {c : Conf} (hm : MachAt w g sy st A n k) (hrs : S3 w A n rs) (hc : ConfC w lo f c) (hg : goodC sy st rs c) (_hn : n ≤ 1048576) :
    Calls Try.prog 237 #[.pointer (some ⟨g, 0, none⟩), .pointer (some ⟨f, 0, none⟩)] w fun e w' => e = .returned (.int .i64 (ruleOf sy rs c.q c.ys).b) ∧ ∃ nq, w' = w.drewN nq := by
  obtain ⟨p1, p2, p3, p4, p5, p6, p7, p8, p9, p10, p11, p12⟩ := conf_parts hg
  have hys : ∀ y ∈ c.ys.reverse, 0 ≤ y ∧ y ≤ sy - 1 := fun y hy' => p11 y (List.mem_reverse.mp hy')
  have hrl : rs.length = n := hrs.len
  obtain ⟨i1, i2, i3, i4, idx, i5, i6⟩ := at_parts (n := n) p1 p2 p3 p4 (by rw [← hrl]; exact p5) p6 p7 hys
  have ir : rs[idx]? = some (ruleOf sy rs c.q c.ys) := ruleOf_get i5 (by rw [hrl]; exact i6)
  obtain ⟨q0, q1, q2⟩ := id hm
  obtain ⟨r', b, off, hr', _, rfl, hbl, c0, c1, c2⟩ := hrs.pick i6
  obtain rfl : ruleOf sy rs c.q c.ys = r' := by have e2 := hr'.out; rw [ir] at e2; simpa using e2
  have j1 : (0 : Int) ≤ (idx : Int) := by omega
  have j2 : (idx : Int) < (n : Int) := by omega
  have I5 := Lib.hid i5
  have HAT : Hid (∀ q, Calls Try.prog 273 #[.pointer (some ⟨g, 0, none⟩), .pointer (some ⟨f, 0, none⟩)] (w.drewN q) fun e w' => e = .returned (.int .i64 (idx : Int)) ∧ ∃ nq, w' = (w.drewN q).drewN nq) := fun q => by
    rw [← i5]; exact l05At_c (hm.drewN q) (hc.drewN q) hg
  clear p5 p10 p11 p12 hys i5 ir hrl
  go_enter Try.func237, Try.ntmps237
  go_wp2_with fail
  go_quiet ((go_at_call 273; exact quiet_1 (HAT.out _)))
  go_wp2_with fail
  go_ret
  exact ⟨rfl, _, rfl⟩
/-- The configuration behind N steps, and whether they can be made. -/
def AfterS (w : World) (sy : Int) (rs : List R3) (c : Conf) (N : Nat) (e : Ending) (w' : World) : Prop :=
  ∃ (v : Bool) (x : Int) (cf : Conf) (L : Option Addr) (a : Nat) (R : Option Addr) (d : Nat), e = .returned (.tuple #[.agg #[.int .i64 cf.q, .slice L cf.xs.length a, .slice R cf.ys.length d], .int .i64 x, .bool v]) ∧ (v = true → Alive sy rs c N ∧ cf = itC sy rs c N) ∧ (v = false → ¬ Alive sy rs c N) ∧
    Own w' w.heap.size 2 1 L cf.xs.length a (ints cf.xs) ∧ Own w' w.heap.size 2 1 R cf.ys.length d (ints cf.ys) ∧ (∀ b, blk L = some b → blk R ≠ some b) ∧ Below w.heap.size w w'
theorem not_alive_halt {sy : Int} {rs : List R3} {c : Conf} {N i : Nat} (h : i < N) (hh : haltC sy rs (itC sy rs c i) = true) : ¬ Alive sy rs c N := fun ha => by
  have := (ha i h).1; rw [hh] at this; cases this
theorem not_alive_room {sy : Int} {rs : List R3} {c : Conf} {N i : Nat} (h : i < N) (hh : roomC (nextC sy rs (itC sy rs c i)) = false) : ¬ Alive sy rs c N := fun ha => by
  have h1 : roomC (nextC sy rs (itC sy rs c i)) = true := (ha i h).2
  rw [hh] at h1; cases h1

set_option maxRecDepth 100000 in
set_option maxHeartbeats 4000000 in
theorem l25After_any (g : Nat) (sy st : Int) (A : Option Addr) (n k : Nat) (rs : List R3) (c : Conf) (L : Option Addr) (a : Nat) (R : Option Addr) (d : Nat) (N : Nat) (w : World) (hm : MachAt w g sy st A n k) (hrs : S3 w A n rs) (hx : SI w L c.xs.length c.xs) (hy : SI w R c.ys.length c.ys) (hgc : goodC sy st rs c) (hn : n ≤ 1048576) (hN : N ≤ 1000000) :
    Calls Try.prog 164 #[.pointer (some ⟨g, 0, none⟩), .agg #[.int .i64 c.q, .slice L c.xs.length a, .slice R c.ys.length d], .int .i64 (N : Int)] w (AfterS w sy rs c N) := by
  obtain ⟨W, hW_⟩ : ∃ W, W = (w.alloc (.cells #[.int .i64 c.q, .slice L c.xs.length a, .slice R c.ys.length d] 59)).alloc (.cells #[.int .i64 0, .slice none 0 0, .slice none 0 0] 59) := ⟨_, rfl⟩
  have s_1 : (w.alloc (.cells #[.int .i64 c.q, .slice L c.xs.length a, .slice R c.ys.length d] 59)).heap.size = w.heap.size + 1 := by simp
  have b0 : Blk W w.heap.size 59 #[.int .i64 c.q, .slice L c.xs.length a, .slice R c.ys.length d] := by rw [hW_]; exact (Blk.new w _ _).alloc _
  have b1 : Blk W (w.heap.size + 1) 59 #[.int .i64 0, .slice none 0 0, .slice none 0 0] := by rw [hW_, ← s_1]; exact Blk.new _ _ _
  have y0 : Below w.heap.size w W := by rw [hW_]; exact ((Below.refl _ _).alloc (Nat.le_refl _) _).alloc (by simp) _
  have HW := Lib.hid hW_
  clear hW_ s_1
  have hl := conf_parts hgc
  have hxl : c.xs.length ≤ 1048576 := by have := hl.2.2.2.2.2.2.2.1; omega
  have hyl : c.ys.length ≤ 1048576 := by have := hl.2.2.2.2.2.2.2.2.1; omega
  clear hl
  go_enter Try.func164, Try.ntmps164
  go_wp2_with fail
  rw [← HW.out]
  clear HW
  refine (l05OwnConfig_any _ _ _ _ _ c.xs _ _ _ c.ys _ b0.confAt (hx.below y0) (hy.below y0) hxl hyl).mono ?_
  rintro e W1 ⟨L1, a1, R1, d1, rfl, o1, o1', hap1, z1⟩
  have HAP1 := Lib.hid hap1
  clear hap1
  obtain ⟨W2, hW_⟩ : ∃ W_, W_ = W1.alloc (.cells #[.int .i64 c.q, .slice L1 c.xs.length a1, .slice R1 c.ys.length d1] 59) := ⟨_, rfl⟩
  have b2 : Blk W2 W1.heap.size 59 #[.int .i64 c.q, .slice L1 c.xs.length a1, .slice R1 c.ys.length d1] := by rw [hW_]; exact Blk.new W1 _ _
  have z2 : Below W1.heap.size W1 W2 := by rw [hW_]; exact (Below.refl _ _).alloc (Nat.le_refl _) _
  have HW2 := Lib.hid hW_
  clear hW_
  have y2 : Below w.heap.size w W2 := (y0.trans (z1.mono y0.size)).trans (z2.mono (y0.trans (z1.mono y0.size)).size)
  have hC2 : ConfC W2 w.heap.size W1.heap.size c := ⟨L1, a1, R1, d1, b2, (o1.below z2).mono y0.size, (o1'.below z2).mono y0.size, HAP1.out⟩
  have b12 := (b1.below' z1).below' z2
  have hf : w.heap.size + 1 < W1.heap.size := by have := (b1.below' z1).lt; omega
  clear b0 b1 o1 o1' HAP1 b2
  go_wp2_with fail
  rw [← HW2.out]
  clear HW2
  obtain ⟨f, hf'⟩ : ∃ f, f = W1.heap.size := ⟨_, rfl⟩
  rw [← hf'] at hC2 hf
  rw [← hf']
  clear hf' z1 z2
  go_loopw [2, 10] (fun s x wr => ∃ (i : Nat) (v : Int), s = .int .i64 ((N : Int) - (i : Int)) ∧ x = .int .i64 v ∧ i ≤ N ∧ Alive sy rs c i ∧ ConfC wr w.heap.size f (itC sy rs c i) ∧ Blk wr (w.heap.size + 1) 59 #[.int .i64 0, .slice none 0 0, .slice none 0 0] ∧ Below w.heap.size w wr) (fun s _ _ => (intOf s).toNat)
  case atStart => exact ⟨0, 0, by simp, rfl, Nat.zero_le _, Alive.zero _ _ _, hC2, b12, y2⟩
  case round =>
    obtain ⟨i, v, rfl, rfl, hi, hal, hC, hB, hY⟩ := hrel
    have HGOOD := Lib.hid (hal.good hgc)
    have HAL := Lib.hid hal
    clear hal hC2 b12 y2 y0
    have HHALT := Lib.hid (l05Halts_c (hm.below hY) (hrs.below hY) hC HGOOD.out hn)
    have hBlt : w.heap.size + 1 < wr.heap.size := hB.lt
    by_cases hlt : i < N
    · have j1 : (0 : Int) < (N : Int) - (i : Int) := by omega
      go_wp2_with fail
      refine HHALT.out.mono ?_
      rintro e W3 ⟨rfl, z3⟩
      have hC3 := hC.below z3
      have hB3 := hB.below' z3
      have hY3 : Below w.heap.size w W3 := hY.trans (z3.mono hY.size)
      cases hh : haltC sy rs (itC sy rs c i) with
      | true =>
        have HH := Lib.hid (not_alive_halt hlt hh)
        clear hh
        obtain ⟨L3, a3, R3', d3, bc, ol, or_, hap⟩ := hC3
        have HAP := Lib.hid hap
        clear hap
        generalize itC sy rs c i = ci at *
        have c0 : W3.cell? ⟨f, 0, none⟩ = some (.int .i64 ci.q) := bc.cell 0
        have c1 : W3.cell? ⟨f, 1, none⟩ = some (.slice L3 ci.xs.length a3) := bc.cell 1
        have c2 : W3.cell? ⟨f, 2, none⟩ = some (.slice R3' ci.ys.length d3) := bc.cell 2
        have u0 : W3.cell? ⟨(w.heap.size + 1), 0, none⟩ = some (.int .i64 0) := hB3.cell 0
        have u1 : W3.cell? ⟨(w.heap.size + 1), 1, none⟩ = some (.slice none 0 0) := hB3.cell 1
        have u2 : W3.cell? ⟨(w.heap.size + 1), 2, none⟩ = some (.slice none 0 0) := hB3.cell 2
        have f0 := hB3.frozen 0
        have f1 := hB3.frozen 1
        have f2 := hB3.frozen 2
        go_wp2_with fail
        have hCf := ConfC.set3 (c := ci) rfl hB3 ol or_ HAP.out
        have hYf := conf_below hY3 (show w.heap.size ≤ w.heap.size + 1 by omega) (.int .i64 ci.q) (.slice L3 ci.xs.length a3) (.slice R3' ci.ys.length d3)
        generalize ((W3.setCell ⟨w.heap.size + 1, 0, none⟩ (.int .i64 ci.q)).setCell ⟨w.heap.size + 1, 1, none⟩ (.slice L3 ci.xs.length a3)).setCell ⟨w.heap.size + 1, 2, none⟩ (.slice R3' ci.ys.length d3) = Wf at *
        obtain ⟨Lf, af, Rf, df, bf, olf, orf, hapf⟩ := hCf
        have g0 : Wf.cell? ⟨(w.heap.size + 1), 0, none⟩ = some (.int .i64 ci.q) := bf.cell 0
        have g1 : Wf.cell? ⟨(w.heap.size + 1), 1, none⟩ = some (.slice Lf ci.xs.length af) := bf.cell 1
        have g2 : Wf.cell? ⟨(w.heap.size + 1), 2, none⟩ = some (.slice Rf ci.ys.length df) := bf.cell 2
        exact bodyPost_ret (v := .tuple #[.agg #[.int .i64 ci.q, .slice Lf ci.xs.length af, .slice Rf ci.ys.length df], .int .i64 0, .bool false]) (by simp [results, Try.results164, go_sem, g0, g1, g2]) rfl ⟨false, 0, ci, Lf, af, Rf, df, rfl, (fun h => by cases h), fun _ => HH.out, olf, orf, hapf, hYf⟩
      | false =>
        have HH := Lib.hid hh
        clear hh
        have HSIDE := Lib.hid (l25Side_c (hm.below hY3) (hrs.below hY3) hC3 HGOOD.out hn)
        go_wp2_with fail
        refine HSIDE.out.mono ?_
        rintro e W3' ⟨rfl, nq, rfl⟩
        have hY3' : Below w.heap.size w (W3.drewN nq) := below_drewN hY3 nq
        have hC3' := hC3.drewN nq
        have hB3' : Blk (W3.drewN nq) (w.heap.size + 1) 59 #[.int .i64 0, .slice none 0 0, .slice none 0 0] := hB3.drewN nq
        clear hC3 hB3 hY3 HSIDE z3
        generalize W3.drewN nq = W4 at *
        have HSTEP := Lib.hid (l05Step_c (hm.below hY3') (hrs.below hY3') hC3' HGOOD.out hn)
        go_wp2_with fail
        refine HSTEP.out.mono ?_
        rintro e W5 ⟨L4, a4, R4, d4, rfl, ol4, or4, hap4, z4⟩
        have HAP4 := Lib.hid hap4
        clear hap4 HSTEP HHALT
        have hY4 : Below w.heap.size w W5 := hY3'.trans (z4.mono hY3'.size)
        have HNXT : Hid (roomC (itC sy rs c (i + 1)) = true → Alive sy rs c (i + 1)) := fun h => HAL.out.next HH.out h
        have hHR := Lib.hid (not_alive_room (sy := sy) (rs := rs) (c := c) hlt)
        generalize hnx : nextC sy rs (itC sy rs c i) = nx at *
        have HNX : Hid (itC sy rs c (i + 1) = nx) := Lib.hid hnx
        clear hnx
        obtain ⟨W6, hW_⟩ : ∃ W_, W_ = W5.alloc (.cells #[.int .i64 nx.q, .slice L4 nx.xs.length a4, .slice R4 nx.ys.length d4] 59) := ⟨_, rfl⟩
        have b5 : Blk W6 W5.heap.size 59 #[.int .i64 nx.q, .slice L4 nx.xs.length a4, .slice R4 nx.ys.length d4] := by rw [hW_]; exact Blk.new W5 _ _
        have z5 : Below W5.heap.size W5 W6 := by rw [hW_]; exact (Below.refl _ _).alloc (Nat.le_refl _) _
        have HW6 := Lib.hid hW_
        clear hW_
        have hY5 : Below w.heap.size w W6 := hY4.trans (z5.mono hY4.size)
        have hB5 := (hB3'.below' z4).below' z5
        have hC5 := (hC3'.below z4).below z5
        have hfW : f < W5.heap.size := by obtain ⟨_, _, _, _, b4, _⟩ := hC3'.below z4; exact b4.lt
        have hB5lt : w.heap.size + 1 < W5.heap.size := (hB3'.below' z4).lt
        obtain ⟨L5, a5, R5, d5, bc5, ol5, or5, hap5⟩ := hC5
        have HAP5 := Lib.hid hap5
        clear hap5
        generalize itC sy rs c i = ci at *
        cases hro : roomC nx with
        | true =>
          have HRO : Hid (roomC (itC sy rs c (i + 1)) = true) := Lib.hid (by rw [HNX.out]; exact hro)
          clear hro
          go_upto_region 9 with fail
          rw [← HW6.out]
          clear HW6
          have c0 : W6.cell? ⟨W5.heap.size, 0, none⟩ = some (.int .i64 nx.q) := b5.cell 0
          have c1 : W6.cell? ⟨W5.heap.size, 1, none⟩ = some (.slice L4 nx.xs.length a4) := b5.cell 1
          have c2 : W6.cell? ⟨W5.heap.size, 2, none⟩ = some (.slice R4 nx.ys.length d4) := b5.cell 2
          have u0 : W6.cell? ⟨f, 0, none⟩ = some (.int .i64 ci.q) := bc5.cell 0
          have u1 : W6.cell? ⟨f, 1, none⟩ = some (.slice L5 ci.xs.length a5) := bc5.cell 1
          have u2 : W6.cell? ⟨f, 2, none⟩ = some (.slice R5 ci.ys.length d5) := bc5.cell 2
          have f0 := bc5.frozen 0
          have f1 := bc5.frozen 1
          have f2 := bc5.frozen 2
          go_wp2_with fail
          have hCf := ConfC.set3 (c := nx) rfl bc5 ((ol4.below z5).mono hY3'.size) ((or4.below z5).mono hY3'.size) HAP4.out
          have hYf := conf_below hY5 (show w.heap.size ≤ f by omega) (.int .i64 nx.q) (.slice L4 nx.xs.length a4) (.slice R4 nx.ys.length d4)
          have hBf := ((hB5.far (p := ⟨f, 0, none⟩) (show w.heap.size + 1 ≠ f by omega) (.int .i64 nx.q)).far (p := ⟨f, 1, none⟩) (show w.heap.size + 1 ≠ f by omega) (.slice L4 nx.xs.length a4)).far (p := ⟨f, 2, none⟩) (show w.heap.size + 1 ≠ f by omega) (.slice R4 nx.ys.length d4)
          go_roundw
          case rel => exact ⟨i + 1, _, by go_num, rfl, by omega, HNXT.out HRO.out, by rw [HNX.out]; exact hCf, hBf, hYf⟩
          case measure => simp [intOf]; omega
        | false =>
          have HRO := Lib.hid (hHR.out hro)
          clear hro
          go_upto_region 9 with fail
          rw [← HW6.out]
          clear HW6
          have c0 : W6.cell? ⟨f, 0, none⟩ = some (.int .i64 ci.q) := bc5.cell 0
          have c1 : W6.cell? ⟨f, 1, none⟩ = some (.slice L5 ci.xs.length a5) := bc5.cell 1
          have c2 : W6.cell? ⟨f, 2, none⟩ = some (.slice R5 ci.ys.length d5) := bc5.cell 2
          have u0 : W6.cell? ⟨(w.heap.size + 1), 0, none⟩ = some (.int .i64 0) := hB5.cell 0
          have u1 : W6.cell? ⟨(w.heap.size + 1), 1, none⟩ = some (.slice none 0 0) := hB5.cell 1
          have u2 : W6.cell? ⟨(w.heap.size + 1), 2, none⟩ = some (.slice none 0 0) := hB5.cell 2
          have f0 := hB5.frozen 0
          have f1 := hB5.frozen 1
          have f2 := hB5.frozen 2
          go_wp2_with fail
          have hCf := ConfC.set3 (c := ci) rfl hB5 ol5 or5 HAP5.out
          have hYf := conf_below hY5 (show w.heap.size ≤ w.heap.size + 1 by omega) (.int .i64 ci.q) (.slice L5 ci.xs.length a5) (.slice R5 ci.ys.length d5)
          generalize ((W6.setCell ⟨w.heap.size + 1, 0, none⟩ (.int .i64 ci.q)).setCell ⟨w.heap.size + 1, 1, none⟩ (.slice L5 ci.xs.length a5)).setCell ⟨w.heap.size + 1, 2, none⟩ (.slice R5 ci.ys.length d5) = Wf at *
          obtain ⟨Lf, af, Rf, df, bf, olf, orf, hapf⟩ := hCf
          have g0 : Wf.cell? ⟨(w.heap.size + 1), 0, none⟩ = some (.int .i64 ci.q) := bf.cell 0
          have g1 : Wf.cell? ⟨(w.heap.size + 1), 1, none⟩ = some (.slice Lf ci.xs.length af) := bf.cell 1
          have g2 : Wf.cell? ⟨(w.heap.size + 1), 2, none⟩ = some (.slice Rf ci.ys.length df) := bf.cell 2
          exact bodyPost_ret (v := .tuple #[.agg #[.int .i64 ci.q, .slice Lf ci.xs.length af, .slice Rf ci.ys.length df], .int .i64 0, .bool false]) (by simp [results, Try.results164, go_sem, g0, g1, g2]) rfl ⟨false, 0, ci, Lf, af, Rf, df, rfl, (fun h => by cases h), fun _ => HRO.out, olf, orf, hapf, hYf⟩
    · obtain rfl : N = i := by omega
      have j1 : ¬ ((0 : Int) < (N : Int) - (N : Int)) := by omega
      obtain ⟨L3, a3, R3', d3, bc, ol, or_, hap⟩ := hC
      have HAP := Lib.hid hap
      have HCI : Hid (itC sy rs c N = itC sy rs c N) := rfl
      clear hap HHALT
      generalize hci : itC sy rs c N = ci at *
      have HC1 := Lib.hid hci
      clear hci HCI
      have c0 : wr.cell? ⟨f, 0, none⟩ = some (.int .i64 ci.q) := bc.cell 0
      have c1 : wr.cell? ⟨f, 1, none⟩ = some (.slice L3 ci.xs.length a3) := bc.cell 1
      have c2 : wr.cell? ⟨f, 2, none⟩ = some (.slice R3' ci.ys.length d3) := bc.cell 2
      have u0 : wr.cell? ⟨(w.heap.size + 1), 0, none⟩ = some (.int .i64 0) := hB.cell 0
      have u1 : wr.cell? ⟨(w.heap.size + 1), 1, none⟩ = some (.slice none 0 0) := hB.cell 1
      have u2 : wr.cell? ⟨(w.heap.size + 1), 2, none⟩ = some (.slice none 0 0) := hB.cell 2
      have f0 := hB.frozen 0
      have f1 := hB.frozen 1
      have f2 := hB.frozen 2
      go_wp2_with fail
      have hCf := ConfC.set3 (c := ci) rfl hB ol or_ HAP.out
      have hYf := conf_below hY (show w.heap.size ≤ w.heap.size + 1 by omega) (.int .i64 ci.q) (.slice L3 ci.xs.length a3) (.slice R3' ci.ys.length d3)
      generalize ((wr.setCell ⟨w.heap.size + 1, 0, none⟩ (.int .i64 ci.q)).setCell ⟨w.heap.size + 1, 1, none⟩ (.slice L3 ci.xs.length a3)).setCell ⟨w.heap.size + 1, 2, none⟩ (.slice R3' ci.ys.length d3) = Wf at *
      obtain ⟨Lf, af, Rf, df, bf, olf, orf, hapf⟩ := hCf
      have g0 : Wf.cell? ⟨(w.heap.size + 1), 0, none⟩ = some (.int .i64 ci.q) := bf.cell 0
      have g1 : Wf.cell? ⟨(w.heap.size + 1), 1, none⟩ = some (.slice Lf ci.xs.length af) := bf.cell 1
      have g2 : Wf.cell? ⟨(w.heap.size + 1), 2, none⟩ = some (.slice Rf ci.ys.length df) := bf.cell 2
      exact bodyPost_ret (v := .tuple #[.agg #[.int .i64 ci.q, .slice Lf ci.xs.length af, .slice Rf ci.ys.length df], .int .i64 v, .bool true]) (by simp [results, Try.results164, go_sem, g0, g1, g2]) rfl ⟨true, v, ci, Lf, af, Rf, df, rfl, fun _ => ⟨HAL.out, HC1.out.symm⟩, (fun h => by cases h), olf, orf, hapf, hYf⟩

theorem l25After_blank (g : Nat) (sy st : Int) (A : Option Addr) (n k : Nat) (rs : List R3) (L : Option Addr) (a : Nat) (R : Option Addr) (d : Nat) (N : Nat) (w : World) (hm : MachAt w g sy st A n k) (hrs : S3 w A n rs) (hgc : goodC sy st rs blankC) (hn : n ≤ 1048576) (hN : N ≤ 1000000) :
    Calls Try.prog 164 #[.pointer (some ⟨g, 0, none⟩), .agg #[.int .i64 0, .slice L 0 a, .slice R 0 d], .int .i64 (N : Int)] w (AfterS w sy rs blankC N) :=
  l25After_any g sy st A n k rs blankC L a R d N w hm hrs SI.nil SI.nil hgc hn hN
/-- What l25After returned, in a box. -/
def AfterBox (W : World) (sy : Int) (rs : List R3) (N : Nat) (s5 s6 s7 : Value) (wx : World) : Prop :=
  ∃ g v x cf, s5 = .pointer (some ⟨g, 0, none⟩) ∧ s6 = .int .i64 x ∧ s7 = .bool v ∧ ConfC wx W.heap.size g cf ∧ (v = true → Alive sy rs blankC N ∧ cf = itC sy rs blankC N) ∧ (v = false → ¬ Alive sy rs blankC N) ∧ Below W.heap.size W wx
theorem MachAt.alloc {w : World} {g : Nat} {sy st : Int} {A : Option Addr} {n k : Nat} (h : MachAt w g sy st A n k) (o : Obj) : MachAt (w.alloc o) g sy st A n k := h.below ((Below.refl _ _).alloc (Nat.le_refl _) o)
theorem ConfC.new {W w : World} {q : Int} {xs ys : List Int} {L R : Option Addr} {a d : Nat} (oL : Own w W.heap.size 2 1 L xs.length a (ints xs)) (oR : Own w W.heap.size 2 1 R ys.length d (ints ys)) (hap : ∀ b, blk L = some b → blk R ≠ some b) :
    ConfC (w.alloc (.cells #[.int .i64 q, .slice L xs.length a, .slice R ys.length d] 59)) W.heap.size w.heap.size ⟨q, xs, ys⟩ := ⟨L, a, R, d, Blk.new w _ _, oL.alloc _, oR.alloc _, hap⟩

end Go.Proofs.Ytpnkelmmfcmijaa

/-
  The sides of a good configuration are short.
-/
namespace Go.Proofs.Ytpnkelmmfcmijaa
open Go.RowKit
theorem conf_len {sy st : Int} {rs : List R3} {c : Conf} (h : goodC sy st rs c) : c.xs.length ≤ 200 ∧ c.ys.length ≤ 200 := by
  have hp := conf_parts h
  exact ⟨hp.2.2.2.2.2.2.2.1, hp.2.2.2.2.2.2.2.2.1⟩
end Go.Proofs.Ytpnkelmmfcmijaa

/-
  Contracts of impl's sameConfig, spanOk, CheckCycle.
-/
namespace Go.Proofs.Ytpnkelmmfcmijaa
open Go.RowKit Go.Sort

def sameConfB (c d : Conf) : Bool := decide (c.q = d.q) && sameI c.xs d.xs && sameI c.ys d.ys

def spanB (a b : Int) : Bool := inB a 0 20000 && inB b 1 (20000 - a)

theorem spanB_iff (a b : Int) : spanB a b = true ↔ 0 ≤ a ∧ a ≤ 20000 ∧ 1 ≤ b ∧ b ≤ 20000 - a := by
  unfold spanB inB; simp; omega

theorem afterSteps_int (sy st : Int) (A : Option Addr) (n k : Nat) (rs : List R3) (x : Int) (w : World) (hr : S3 w A n rs) (hn : n ≤ 1048576) (hg : goodC sy st rs blankC) (h0 : 0 ≤ x) (h1 : x ≤ 1000000) :
    Calls Try.prog 174 #[.agg #[.int .i64 sy, .int .i64 st, .slice A n k], .int .i64 x] w (AfterP w sy st A n k rs x.toNat) := by
  obtain ⟨N, rfl⟩ : ∃ N : Nat, x = (N : Int) := ⟨x.toNat, by omega⟩
  rw [Int.toNat_natCast]
  exact afterSteps_any sy st A n k rs N w hr hn hg (by omega)

/-- What CheckCycle returns. -/
def checkCycleF (sy st : Int) (rs : List R3) (q : Int) (xs : List Int) (xss : List (List Int)) : Bool :=
  proofOfB sy st rs q xs xss 2 2 && spanB (xs.getD 0 0) (xs.getD 1 0) && aliveB sy rs blankC (xs.getD 0 0).toNat && aliveB sy rs blankC (xs.getD 0 0 + xs.getD 1 0).toNat &&
    sameConfB (itC sy rs blankC (xs.getD 0 0).toNat) (itC sy rs blankC (xs.getD 0 0 + xs.getD 1 0).toNat)
theorem SI.two {w : World} {A : Option Addr} {xs : List Int} (h : SI w A 2 xs) : ∃ b off, A = some ⟨b, off, none⟩ ∧ b < w.heap.size ∧ w.cell? ⟨b, off, none⟩ = some (.int .i64 (xs.getD 0 0)) ∧ w.cell? ⟨b, off + 1, none⟩ = some (.int .i64 (xs.getD 1 0)) := by
  obtain ⟨b, off, rfl, hb, h0⟩ := h.at_ (k := 0) (by omega)
  obtain ⟨b', off', e, _, h1⟩ := h.at_ (k := 1) (by omega)
  cases e
  have hl := h.len
  refine ⟨b, off, rfl, hb, ?_, ?_⟩
  · rw [show off = off + 0 from rfl, h0]; congr 2; simp [List.getD_eq_getElem?_getD, List.getElem?_eq_getElem (show 0 < xs.length by omega)]
  · rw [h1]; congr 2; simp [List.getD_eq_getElem?_getD, List.getElem?_eq_getElem (show 1 < xs.length by omega)]
end Go.Proofs.Ytpnkelmmfcmijaa
