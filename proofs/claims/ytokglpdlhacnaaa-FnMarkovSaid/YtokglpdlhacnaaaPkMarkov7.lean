/-
  Contracts of impl's StepMarkov and RunMarkov for small words.
-/
import Derived.Test.YtokglpdlhacnaaaPkMarkov0
import Derived.Test.YtokglpdlhacnaaaPkMarkov1
import Derived.Test.YtokglpdlhacnaaaPkMarkov6
import Derived.Test.YtokglpdlhacnaaaRows
namespace Go.Proofs.Ytokglpdlhacnaaa
open Go.RowKit

/-- The next state: a word, and whether the rule that led to it ends the algorithm. -/
def lastAt (ts : List Mk3) (k : Nat) : Bool := match ts[k]? with
  | some t => t.last
  | none => false
def mkNext (ts : List Mk3) (s : List Int × Bool) : Option (List Int × Bool) :=
  if s.2 then none else (mkF ts s.1).map (fun p => (p.1, lastAt ts p.2))
def mkIt (ts : List Mk3) (s : List Int × Bool) : Nat → Option (List Int × Bool)
  | 0 => some s
  | n + 1 => (mkIt ts s n).bind (mkNext ts)
theorem Few.word {k : Nat} {xs : List Int} (h : Few k xs) (hk : k ≤ 400) : isWordB xs = true := by
  unfold isWordB
  have h1 : xs.length ≤ 400 := by have := h.1; omega
  rw [decide_eq_true h1, Bool.true_and]
  unfold allIn
  rw [List.all_eq_true]
  intro x hx
  have := h.2 x hx
  exact (inB_iff _ _ _).2 (by omega)
theorem atF_some {w part : List Int} : ∀ {f a : Nat}, f ≤ w.length + 1 → atF w part f = some a → a + part.length ≤ w.length := by
  intro f
  induction f with
  | zero => intro a _ h; cases h
  | succ f ih =>
    intro a hf h
    rw [atF] at h
    split at h
    · next hb =>
      have hfit := begB_fits hb
      rw [List.length_drop] at hfit
      injection h with h
      omega
    · exact ih (by omega) h
theorem mkTo_some {ts : List Mk3} {w : List Int} : ∀ {f k : Nat} {ys : List Int}, mkTo ts w f = some (ys, k) → ∃ t a, ts[k]? = some t ∧ occF w t.xs = some a ∧ ys = w.take a ++ t.ys ++ w.drop (a + t.xs.length) := by
  intro f
  induction f with
  | zero => intro k ys h; cases h
  | succ f ih =>
    intro k ys h
    rw [mkTo] at h
    split at h
    · cases h
    · next t ht =>
      split at h
      · next a ha =>
        injection h with h
        injection h with h1 h2
        subst h2
        exact ⟨t, a, ht, ha, h1.symm⟩
      · exact ih h
theorem mkF_few {ts : List Mk3} {w ys : List Int} {k L : Nat} (hts : ∀ t ∈ ts, Few 4 t.xs ∧ Few 4 t.ys) (hw : Few L w) (h : mkF ts w = some (ys, k)) : Few (L + 4) ys ∧ k < ts.length := by
  obtain ⟨t, a, ht, ha, rfl⟩ := mkTo_some h
  have hfit := atF_some (Nat.le_refl _) ha
  have hm := hts t (List.mem_of_getElem? ht)
  obtain ⟨hk, _⟩ := List.getElem?_eq_some_iff.1 ht
  refine ⟨⟨?_, fun x hx => ?_⟩, hk⟩
  · have h1 := hw.1
    have h2 := hm.2.1
    simp only [List.length_append, List.length_take, List.length_drop]
    omega
  · rcases List.mem_append.1 hx with hx | hx
    · rcases List.mem_append.1 hx with hx | hx
      · exact hw.2 x (List.mem_of_mem_take hx)
      · exact hm.2.2 x hx
    · exact hw.2 x (List.mem_of_mem_drop hx)
theorem mkIt_few {ts : List Mk3} {w : List Int} {L : Nat} {b : Bool} (hts : ∀ t ∈ ts, Few 4 t.xs ∧ Few 4 t.ys) (hw : Few L w) : ∀ {n : Nat} {s : List Int × Bool}, mkIt ts (w, b) n = some s → Few (L + 4 * n) s.1 := by
  intro n
  induction n with
  | zero => intro s h; injection h with h; subst h; exact hw
  | succ n ih =>
    intro s h
    rw [mkIt] at h
    cases h1 : mkIt ts (w, b) n with
    | none => rw [h1] at h; cases h
    | some s1 =>
      rw [h1] at h
      simp only [Option.bind_some, mkNext] at h
      split at h
      · cases h
      · cases h2 : mkF ts s1.1 with
        | none => rw [h2] at h; cases h
        | some p =>
          rw [h2] at h
          simp only [Option.map_some, Option.some.injEq] at h
          subst h
          have := (mkF_few hts (ih h1) h2).1
          rw [show L + 4 * (n + 1) = L + 4 * n + 4 by omega]
          exact this
theorem mkNext_none {ts : List Mk3} {x : List Int} {b : Bool} : (mkNext ts (x, b) = none) ↔ (b = true ∨ mkF ts x = none) := by
  unfold mkNext
  cases b <;> simp
/-- What StepMarkov returns for small words. -/
def StepQ (w : World) (r : Option (List Int × Nat)) (e : Ending) (w' : World) : Prop :=
  match r with
  | some (ys, k) => ∃ D d, e = .returned (.tuple #[.slice D ys.length d, .int .i64 (k : Int), .int .i64 0]) ∧ Own w' w.heap.size 2 1 D ys.length d (ints ys) ∧ Below w.heap.size w w'
  | none => e = .returned (.tuple #[.slice none 0 0, .int .i64 0, .int .i64 6]) ∧ Below w.heap.size w w'
theorem mkOk_few {ts : List Mk3} (h1 : 1 ≤ ts.length) (h4 : ts.length ≤ 4) (hts : ∀ t ∈ ts, Few 4 t.xs ∧ Few 4 t.ys) : MkOk ts := ⟨h1, by omega, fun t ht => ⟨(hts t ht).1.word (by omega), (hts t ht).2.word (by omega)⟩⟩
set_option maxRecDepth 100000 in
set_option maxHeartbeats 4000000 in
theorem stepMarkovX_any (lo : Nat) (A : Option Addr) (n c : Nat) (ts : List Mk3) (B : Option Addr) (m d L : Nat) (xs : List Int) (w : World) (hx : OMk w lo A n c ts) (hy : SI w B m xs) (hd : m ≤ d) (h1 : 1 ≤ ts.length) (h4 : ts.length ≤ 4) (hts : ∀ t ∈ ts, Few 4 t.xs ∧ Few 4 t.ys) (hxs : Few L xs) (hL : L ≤ 300) :
    Calls Try.prog 19 #[.slice A n c, .slice B m d] w (StepQ w (mkF ts xs)) := by
  have hnl : ts.length = n := hx.len
  have hml : xs.length = m := hy.len
  have hm300 : m ≤ 300 := by have := hxs.1; omega
  have HX := Lib.hid hx
  have HY := Lib.hid hy
  have HO := Lib.hid (mkOk_few h1 h4 hts)
  have HW : Hid (isWordB xs = true) := Lib.hid (hxs.word (by omega))
  have HTS := Lib.hid hts
  have HXS := Lib.hid hxs
  have HSL : Hid (∀ t ∈ ts, t.xs.length ≤ 1000 ∧ t.ys.length ≤ 1000) := Lib.hid (fun t ht => ⟨by have := (hts t ht).1.1; omega, by have := (hts t ht).2.1; omega⟩)
  have HWI := Lib.hid (fun w' (z : Below w.heap.size w w') => isWord_any B m d xs w' (hy.below z) (by omega))
  rw [HW.out] at HWI
  clear hx hy hts hxs h1
  cases hr : mkF ts xs with
  | none =>
    have HR := Lib.hid hr
    clear hr
    go_enter Try.func19, Try.ntmps19
    go_upto_region 4 with (first
      | (go_at_call 53; refine (validMarkov_yes lo A n c ts w HX.out HO.out).mono ?_; rintro e w1 ⟨rfl, z1⟩)
      | (go_at_call 54; refine (HWI.out _ z1).mono ?_; rintro e w2 ⟨rfl, rfl⟩)
      | (go_at_call 56; refine (stepMarkov_any lo A n c ts B m d xs _ (HX.out.below z1) (HY.out.below z1) hd (by omega) (by omega) HSL.out).mono ?_; rw [HR.out]; rintro e w3 ⟨rfl, z3⟩))
    go_wp2_with fail
    exact bodyPost_ret (v := .tuple #[.slice none 0 0, .int .i64 0, .int .i64 6]) (by simp [results, Try.results19, go_sem]) rfl ⟨rfl, z1.trans (z3.mono z1.size)⟩
  | some p =>
    obtain ⟨ys, k⟩ := p
    have HR := Lib.hid hr
    have hyl : ys.length ≤ 304 := by have := (mkF_few HTS.out HXS.out hr).1.1; omega
    clear hr
    go_enter Try.func19, Try.ntmps19
    go_upto_region 4 with (first
      | (go_at_call 53; refine (validMarkov_yes lo A n c ts w HX.out HO.out).mono ?_; rintro e w1 ⟨rfl, z1⟩)
      | (go_at_call 54; refine (HWI.out _ z1).mono ?_; rintro e w2 ⟨rfl, rfl⟩)
      | (go_at_call 56; refine (stepMarkov_any lo A n c ts B m d xs _ (HX.out.below z1) (HY.out.below z1) hd (by omega) (by omega) HSL.out).mono ?_; rw [HR.out]; rintro e w3 ⟨D, d3, rfl, o3, z3⟩))
    have i1 : ¬ (k : Int) < 0 := by omega
    have i2 : ¬ (400 : Int) < (ys.length : Int) := by omega
    go_wp2_with fail
    exact bodyPost_ret (v := .tuple #[.slice D ys.length d3, .int .i64 (k : Int), .int .i64 0]) (by simp [results, Try.results19, go_sem]) rfl ⟨D, d3, rfl, o3.mono z1.size, z1.trans (z3.mono z1.size)⟩
/-- What RunMarkov returns for small words. -/
def RunQ (w : World) (ts : List Mk3) (xs : List Int) (N : Nat) (e : Ending) (w' : World) : Prop :=
  ∃ D d, ∃ n : Nat, ∃ ys b h, e = .returned (.tuple #[.slice D ys.length d, .int .i64 (n : Int), .bool h, .int .i64 0]) ∧ Own w' w.heap.size 2 1 D ys.length d (ints ys) ∧ n ≤ N ∧ mkIt ts (xs, false) n = some (ys, b) ∧ (h = true ↔ mkNext ts (ys, b) = none) ∧ (h = true ∨ n = N) ∧ Below w.heap.size w w'
set_option maxRecDepth 100000 in
set_option maxHeartbeats 8000000 in
theorem runMarkov_any (lo : Nat) (A : Option Addr) (n c : Nat) (ts : List Mk3) (B : Option Addr) (m d N : Nat) (xs : List Int) (w : World) (hx : OMk w lo A n c ts) (hy : SI w B m xs) (h1 : 1 ≤ ts.length) (h4 : ts.length ≤ 4) (hts : ∀ t ∈ ts, Few 4 t.xs ∧ Few 4 t.ys) (hxs : Few 7 xs) (hN1 : 1 ≤ N) (hN : N ≤ 25) :
    Calls Try.prog 17 #[.slice A n c, .slice B m d, .int .i64 (N : Int)] w (RunQ w ts xs N) := by
  have hnl : ts.length = n := hx.len
  have hml : xs.length = m := hy.len
  have hm7 : m ≤ 7 := by have := hxs.1; omega
  have HX := Lib.hid hx
  have HY := Lib.hid hy
  have HO := Lib.hid (mkOk_few h1 h4 hts)
  have HW : Hid (isWordB xs = true) := Lib.hid (hxs.word (by omega))
  have HTS := Lib.hid hts
  have HXS := Lib.hid hxs
  have HSL : Hid (∀ t ∈ ts, t.xs.length ≤ 1000 ∧ t.ys.length ≤ 1000) := Lib.hid (fun t ht => ⟨by have := (hts t ht).1.1; omega, by have := (hts t ht).2.1; omega⟩)
  have HWI := Lib.hid (fun w' (z : Below w.heap.size w w') => isWord_any B m d xs w' (hy.below z) (by omega))
  rw [HW.out] at HWI
  have HBK : Hid (inB (N : Int) 1 20000 = true) := Lib.hid ((inB_iff _ _ _).2 (by omega))
  have HNL := Lib.hid hnl
  clear hx hy hts hxs h1 hnl hml
  go_enter Try.func17, Try.ntmps17
  go_upto_region 6 with (first
    | (go_at_call 53; refine (validMarkov_yes lo A n c ts w HX.out HO.out).mono ?_; rintro e w1 ⟨rfl, z1⟩)
    | (go_at_call 54; refine (HWI.out _ z1).mono ?_; rintro e w2 ⟨rfl, rfl⟩)
    | (go_at_call 41; refine (budgetOk_is HBK.out _).mono ?_; rintro e w2 ⟨rfl, rfl⟩)
    | (go_at_call 55; refine (cloneI_any B m d xs _ (HY.out.below z1) (by omega)).mono ?_; rintro e w3 ⟨C, c3, rfl, o3, z3⟩))
  have HO3 : Hid (Own w3 w.heap.size 2 1 C xs.length c3 (ints xs)) := Lib.hid (o3.mono z1.size)
  have HZ3 := Lib.hid (z1.trans (z3.mono z1.size))
  clear o3 z1 z3
  go_wp2_with fail
  go_loopw [10, 11, 12] (fun v l i wr => ∃ (j : Nat) (D : Option Addr) (e : Nat) (ys : List Int) (b : Bool), j ≤ N ∧ i = .int .i64 (j : Int) ∧ l = .bool b ∧ v = .slice D ys.length e ∧ Hid (Own wr w.heap.size 2 1 D ys.length e (ints ys)) ∧ Hid (mkIt ts (xs, false) j = some (ys, b)) ∧ Hid (Below w.heap.size w wr)) (fun _ _ i _ => N - (intOf i).toNat)
  case atStart => exact ⟨0, C, c3, xs, false, by omega, rfl, rfl, rfl, HO3, Lib.hid rfl, HZ3⟩
  case round =>
    obtain ⟨j, D, e, ys, b, hj, rfl, rfl, rfl, HOy, HIT, HZ⟩ := hrel
    clear HO3 HZ3
    have hfy : Few (7 + 4 * j) ys := mkIt_few HTS.out HXS.out HIT.out
    have hyl : ys.length ≤ 107 := by have := hfy.1; omega
    have HFY := Lib.hid hfy
    have HSM := Lib.hid (stepMarkov_any lo A n c ts D ys.length e ys _ (HX.out.below HZ.out) HOy.out.rd HOy.out.le (by omega) (by have := HNL.out; omega) HSL.out)
    clear hfy
    cases hr : mkF ts ys with
    | none =>
      rw [hr] at HSM
      have HQ : Hid (mkNext ts (ys, b) = none) := Lib.hid (mkNext_none.2 (.inr hr))
      clear hr
      go_upto_region 9 with (go_at_call 56; refine HSM.out.mono ?_; rintro e8 w8 ⟨rfl, z8⟩)
      have HE : Hid (RunQ w ts xs N (.returned (.tuple #[.slice D ys.length e, .int .i64 (j : Int), .bool true, .int .i64 0])) w8) := Lib.hid
        ⟨D, e, j, ys, b, true, rfl, HOy.out.below z8, hj, HIT.out, ⟨fun _ => HQ.out, fun _ => rfl⟩, .inl rfl, HZ.out.trans (z8.mono HZ.out.size)⟩
      clear z8
      cases b
      all_goals
        go_wp2_with fail
        exact bodyPost_ret (v := .tuple #[.slice D ys.length e, .int .i64 (j : Int), .bool true, .int .i64 0]) (by simp [results, Try.results17, go_sem]) rfl HE.out
    | some p =>
      obtain ⟨zs, k⟩ := p
      rw [hr] at HSM
      have hfz := mkF_few HTS.out HFY.out hr
      have hzl : zs.length ≤ 300 := by have := hfz.1.1; omega
      have hkn : k < n := by have := hfz.2; have := HNL.out; omega
      have HR := Lib.hid hr
      clear hr hfz
      have i1 : ¬ (k : Int) < 0 := by omega
      go_upto_region 9 with (go_at_call 56; refine HSM.out.mono ?_; rintro e8 w8 ⟨E, e9, rfl, o8, z8⟩)
      have HO8 : Hid (Own w8 w.heap.size 2 1 E zs.length e9 (ints zs)) := Lib.hid (o8.mono HZ.out.size)
      have HOy8 := Lib.hid (HOy.out.below z8)
      have HZ8 := Lib.hid (HZ.out.trans (z8.mono HZ.out.size))
      clear o8 z8
      cases b
      · by_cases hjN : j = N
        · subst hjN
          have HE : Hid (RunQ w ts xs j (.returned (.tuple #[.slice D ys.length e, .int .i64 (j : Int), .bool false, .int .i64 0])) w8) := Lib.hid
            ⟨D, e, j, ys, false, false, rfl, HOy8.out, hj, HIT.out, ⟨fun h => (by cases h), fun h => (by rw [mkNext_none, HR.out] at h; rcases h with h | h <;> cases h)⟩, .inr rfl, HZ8.out⟩
          go_wp2_with fail
          exact bodyPost_ret (v := .tuple #[.slice D ys.length e, .int .i64 (j : Int), .bool false, .int .i64 0]) (by simp [results, Try.results17, go_sem]) rfl HE.out
        · have i2 : ¬ (j : Int) = (N : Int) := by omega
          have i3 : ¬ (400 : Int) < (zs.length : Int) := by omega
          obtain ⟨t, bl, off, hT, rfl, hbl, q0, q1, q2, _, _⟩ := (HX.out.below HZ8.out).pick hkn
          have k0 : (0 : Int) ≤ (k : Int) := by omega
          have k1 : (k : Int) < (n : Int) := by omega
          have HIT2 : Hid (mkIt ts (xs, false) (j + 1) = some (zs, t.last)) := Lib.hid (by
            rw [mkIt, HIT.out]
            simp only [Option.bind_some, mkNext, HR.out, Option.map_some, lastAt, hT.out]
            rfl)
          go_upto_region 13 with fail
          go_quiet (fail)
          go_wp2_with fail
          exact ⟨⟨j + 1, E, e9, zs, t.last, by omega, by go_num, rfl, rfl, HO8, HIT2, Lib.hid (below_drewN HZ8.out _)⟩, by simp [intOf]; omega⟩
      · have HE : Hid (RunQ w ts xs N (.returned (.tuple #[.slice D ys.length e, .int .i64 (j : Int), .bool true, .int .i64 0])) w8) := Lib.hid
          ⟨D, e, j, ys, true, true, rfl, HOy8.out, hj, HIT.out, ⟨fun _ => mkNext_none.2 (.inl rfl), fun _ => rfl⟩, .inl rfl, HZ8.out⟩
        go_wp2_with fail
        exact bodyPost_ret (v := .tuple #[.slice D ys.length e, .int .i64 (j : Int), .bool true, .int .i64 0]) (by simp [results, Try.results17, go_sem]) rfl HE.out
end Go.Proofs.Ytokglpdlhacnaaa

/-
  Whether two lists are equal (b10Nums).
-/
namespace Go.Proofs.Ytokglpdlhacnaaa
open Go.RowKit

set_option maxHeartbeats 400000 in
theorem b10Nums_any (A B : Option Addr) (n m c d : Nat) (xs ys : List Int) (w : World) (hx : SI w A n xs) (hy : SI w B m ys) (hn : n ≤ 9223372036854775807) :
    Calls Try.prog 12 #[.slice A n c, .slice B m d] w fun e w' => e = .returned (.bool (sameI xs ys)) ∧ ∃ q, w' = w.drewN q := by
  by_cases hnm : n = m
  · subst hnm
    go_enter Try.func12, Try.ntmps12
    go_wp2
    go_loopw [5] (fun i wr => ∃ k q : Nat, k ≤ n ∧ i = .int .i64 k ∧ Hid (xs.take k = ys.take k) ∧ wr = w.drewN q) (fun i _ => n - (intOf i).toNat)
    case atStart => exact ⟨0, 0, by omega, rfl, rfl, rfl⟩
    case round =>
      obtain ⟨k, q, hk, rfl, he, rfl⟩ := hrel
      by_cases hlt : k < n
      · obtain ⟨b, off, rfl, _, hc⟩ := hx.at_ hlt
        obtain ⟨b', off', rfl, _, hc'⟩ := hy.at_ hlt
        go_wp2
        go_quiet (fail)
        go_wp2
        · go_ret
          exact ⟨ret_bool (sameI_ne hlt hx.len hy.len (by assumption)), _, World.drewN_drewN _ _ _⟩
        · exact ⟨⟨k + 1, _, by omega, by go_num, take_next hlt hx.len hy.len he.out (by assumption), rfl⟩, by simp [intOf]; omega⟩
      · go_wp2
        go_ret
        exact ⟨ret_bool (sameI_eq (by omega) hx.len hy.len he.out), _, rfl⟩
  · have hne : ((n : Int) != (m : Int)) = true := by simp; omega
    go_enter Try.func12, Try.ntmps12
    go_wp2
    go_ret
    exact ⟨ret_bool (sameI_len hnm hx.len hy.len), 0, rfl⟩
theorem b10Nums_yes (A B : Option Addr) (n c d : Nat) (xs : List Int) (w : World) (hx : SI w A n xs) (hy : SI w B n xs) (hn : n ≤ 9223372036854775807) :
    Calls Try.prog 12 #[.slice A n c, .slice B n d] w fun e w' => e = .returned (.bool true) ∧ ∃ q, w' = w.drewN q :=
  (b10Nums_any A B n n c d xs xs w hx hy hn).mono fun _ _ ⟨h1, h2⟩ => ⟨by rw [h1]; simp [sameI], h2⟩
theorem b10Long_yes (A : Option Addr) (n c : Nat) (w : World) (h : 1048576 < n) : Calls Try.prog 8 #[.slice A n c] w fun e w' => e = .returned (.bool true) ∧ w = w' := by
  have i1 : (1048576 : Int) < (n : Int) := by omega
  go_enter Try.func8, Try.ntmps8
  go_wp2_with fail
  go_ret
  exact ⟨ret_bool (by simp), rfl⟩
theorem b10Long_no (A : Option Addr) (n c : Nat) (w : World) (h : ¬ 1048576 < n) : Calls Try.prog 8 #[.slice A n c] w fun e w' => e = .returned (.bool false) ∧ w = w' := by
  have i1 : ¬ (1048576 : Int) < (n : Int) := by omega
  go_enter Try.func8, Try.ntmps8
  go_wp2_with fail
  go_ret
  exact ⟨ret_bool (by simp), rfl⟩
end Go.Proofs.Ytokglpdlhacnaaa

/-
  The walk of the law FnMarkov: it returns true, and nothing that was there before has turned.
-/
namespace Go.Proofs.Ytokglpdlhacnaaa
open Go.RowKit

theorem mkIt_pred {ts : List Mk3} {s y : List Int × Bool} : ∀ {n j : Nat}, mkIt ts s n = some y → j ≤ n → ∃ x, mkIt ts s j = some x := by
  intro n
  induction n generalizing y with
  | zero => intro j h hj; obtain rfl : j = 0 := (by omega); exact ⟨_, h⟩
  | succ n ih =>
    intro j h hj
    by_cases e : j = n + 1
    · subst e; exact ⟨_, h⟩
    · rw [mkIt] at h
      cases h1 : mkIt ts s n with
      | none => rw [h1] at h; cases h
      | some x => exact ih h1 (by omega)
theorem mkIt_next {ts : List Mk3} {s y : List Int × Bool} {ys : List Int} {b : Bool} {n j : Nat} (h : mkIt ts s n = some y) (hj : j < n) (hs : mkIt ts s j = some (ys, b)) : b = false ∧ ∃ zs k, mkF ts ys = some (zs, k) ∧ mkIt ts s (j + 1) = some (zs, lastAt ts k) := by
  obtain ⟨x, hx⟩ := mkIt_pred h (show j + 1 ≤ n by omega)
  have h2 := hx
  rw [mkIt, hs, Option.bind_some] at h2
  unfold mkNext at h2
  cases b
  · refine ⟨rfl, ?_⟩
    cases h3 : mkF ts ys with
    | none => rw [h3] at h2; cases h2
    | some p =>
      obtain ⟨zs, k⟩ := p
      rw [h3] at h2
      simp only [Bool.false_eq_true, if_false, Option.map_some, Option.some.injEq] at h2
      exact ⟨zs, k, rfl, by rw [hx, ← h2]⟩
  · cases h2
set_option maxHeartbeats 1000000 in
theorem b10At_low (A : Option Addr) (m c : Nat) (xs : List Int) (k N : Nat) (w : World) (hx : SB w A m xs) (_hm : m ≤ 9223372036854775807) (hk : k ≤ 1000) (hN0 : 1 < N) (hN : N ≤ 1000) :
    Calls Try.prog 16 #[.slice A m c, .int .i64 (k : Int), .int .i64 (N : Int)] w fun e w' => ∃ v : Nat, e = .returned (.int .i64 (v : Int)) ∧ v < N ∧ w = w' := by
  have HL := Lib.hid hx.len
  have n1 : ¬ (N : Int) ≤ 1 := by omega
  have n0 : ¬ (N : Int) = 0 := by omega
  by_cases h2 : m ≤ k
  · have i1 : ¬ (k : Int) < (m : Int) := by omega
    obtain ⟨v, hv⟩ : ∃ v : Nat, ((k : Int) * 37 + 11).tmod (N : Int) = (v : Int) := ⟨(((k : Int) * 37 + 11).tmod (N : Int)).toNat, by rw [Int.tmod_eq_emod_of_nonneg (by omega)]; have := Int.emod_nonneg ((k : Int) * 37 + 11) n0; omega⟩
    have hvN : v < N := by
      rw [Int.tmod_eq_emod_of_nonneg (by omega)] at hv
      have := Int.emod_lt_of_pos ((k : Int) * 37 + 11) (show (0 : Int) < (N : Int) by omega)
      omega
    have w1 : IntKind.i64.wrap ((k : Int) * 37) = (k : Int) * 37 := IntWalk.i64_in _ (by omega)
    have w2 : IntKind.i64.wrap ((k : Int) * 37 + 11) = (k : Int) * 37 + 11 := IntWalk.i64_in _ (by omega)
    have w3 : IntKind.i64.wrap (v : Int) = (v : Int) := IntWalk.i64_in _ (by omega)
    go_enter Try.func16, Try.ntmps16
    go_wp2_with fail
    go_ret
    exact ⟨v, by first | rfl | (rw [hv]) | (rw [hv, w3]), hvN, rfl⟩
  have hkm : k < m := by omega
  obtain ⟨b, off, rfl, _, hc⟩ := hx.at_ hkm
  obtain ⟨y, hy⟩ : ∃ y, y = xs[k]'(by rw [HL.out]; exact hkm) := ⟨_, rfl⟩
  have hy2 := hx.2 _ (List.getElem_mem (l := xs) (n := k) (by rw [HL.out]; exact hkm))
  rw [← hy] at hc hy2
  clear hy
  have i1 : (0 : Int) ≤ (k : Int) := by omega
  have i2 : (k : Int) < (m : Int) := by omega
  obtain ⟨v, hv⟩ : ∃ v : Nat, y % (N : Int) = (v : Int) := ⟨(y % (N : Int)).toNat, by have := Int.emod_nonneg y n0; omega⟩
  have hvN : v < N := by
    have := Int.emod_lt_of_pos y (show (0 : Int) < (N : Int) by omega)
    omega
  have HV := Lib.hid hv
  clear hv
  go_enter Try.func16, Try.ntmps16
  go_wp2_with fail
  go_ret
  exact ⟨v, ret_int HV.out, hvN, rfl⟩
set_option maxRecDepth 100000 in
set_option maxHeartbeats 8000000 in
theorem lawMarkov (A : Option Addr) (n c : Nat) (xs : List Int) (B : Option Addr) (m d : Nat) (ys : List Int) (w : World) (hx : SB w A n xs) (hy : SB w B m ys) (hA : ∀ k, blk A = some k → k < w.heap.size) (hn : n ≤ 9223372036854775807) (hm : m ≤ 9223372036854775807) :
    Calls Try.prog 4 #[.slice A n c, .slice B m d] w fun e w' => e = .returned (.bool true) ∧ Below w.heap.size w w' := by
  by_cases hlong : 1048576 < n
  · go_enter Try.func4, Try.ntmps4
    go_wp2_with (go_at_call 8; refine (b10Long_yes _ _ _ _ hlong).mono ?_; rintro e w' ⟨rfl, rfl⟩)
    go_ret
    exact ⟨rfl, Below.refl _ _⟩
  by_cases hlong2 : 1048576 < m
  · go_enter Try.func4, Try.ntmps4
    go_wp2_with (go_at_call 8; first | (refine (b10Long_no A n c w hlong).mono ?_; rintro e w' ⟨rfl, rfl⟩) | (refine (b10Long_yes B m d w hlong2).mono ?_; rintro e w' ⟨rfl, rfl⟩))
    go_ret
    exact ⟨rfl, Below.refl _ _⟩
  have HX := Lib.hid hx
  have HY := Lib.hid hy
  have HA := Lib.hid hA
  clear hx hy hA
  go_enter Try.func4, Try.ntmps4
  go_upto_region 3 with (go_at_call 8; first | (refine (b10Long_no A n c w hlong).mono ?_; rintro e w' ⟨rfl, rfl⟩) | (refine (b10Long_no B m d w hlong2).mono ?_; rintro e w' ⟨rfl, rfl⟩))
  clear hlong hlong2
  go_upto_region 4 with (go_at_call 15; refine (b10Markov_any A n c xs w HX.out HA.out hn).mono ?_; rintro e1 w1 ⟨D, dc, ts, E, ec, zs, rfl, o1, h1, h4, hts, o2, hzs, z1⟩)
  have hD4 : ts.length ≤ 4 := h4
  have HO1 := Lib.hid o1
  have HO2 := Lib.hid o2
  have HTS := Lib.hid hts
  have HZS := Lib.hid hzs
  have HZ1 := Lib.hid z1
  have hz7 : zs.length ≤ 7 := hzs.1
  clear o1 o2 hts hzs z1 h4
  go_wp2_with fail
  refine (b10At_low B m d ys 0 25 _ (HY.out.below HZ1.out) hm (by omega) (by omega) (by omega)).mono ?_
  rintro e2 w2 ⟨v, rfl, hv, rfl⟩
  obtain ⟨N, hN⟩ : ∃ N : Nat, 1 + (v : Int) = (N : Int) := ⟨1 + v, by omega⟩
  have hN1 : 1 ≤ N ∧ N ≤ 25 := by omega
  have v1 : IntKind.i64.wrap (1 + (v : Int)) = (N : Int) := by rw [hN]; exact IntWalk.i64_in _ (by omega)
  obtain ⟨hN1, hN2⟩ := hN1
  clear hN hv
  go_wp2_with fail
  clear v1
  refine (runMarkov_any w.heap.size D ts.length dc ts E zs.length ec N zs _ HO1.out HO2.out.rd h1 hD4 HTS.out HZS.out hN1 hN2).mono ?_
  rintro e3 w3 ⟨F, fc, n0, ls, b0, h0, rfl, o3, hn0, hit0, hh, hhN, z3⟩
  have HLS := Lib.hid o3
  have HIT0 := Lib.hid hit0
  have HH := Lib.hid hh
  have HHN := Lib.hid hhN
  have HZ3 := Lib.hid (HZ1.out.trans (z3.mono HZ1.out.size))
  have HO3 := Lib.hid (HO1.out.below z3)
  have HOW : Hid (Own w3 w.heap.size 2 1 E zs.length ec (ints zs)) := Lib.hid (HO2.out.below z3)
  have HSZ : Hid (w1.heap.size ≤ w3.heap.size) := Lib.hid z3.size
  clear o3 hit0 hh hhN z3 HO1 HO2 HX HY HA
  go_wp2_with fail
  go_loopw [16, 17, 18] (fun v b i wr => ∃ (j : Nat) (G : Option Addr) (g : Nat) (ys : List Int) (bb : Bool), j ≤ n0 ∧ i = .int .i64 (j : Int) ∧ b = .bool bb ∧ v = .slice G ys.length g ∧ Hid (Own wr w.heap.size 2 1 G ys.length g (ints ys)) ∧ Hid (mkIt ts (zs, false) j = some (ys, bb)) ∧ Hid (Below w3.heap.size w3 wr)) (fun _ _ i _ => n0 - (intOf i).toNat)
  case atStart => exact ⟨0, E, ec, zs, false, by omega, rfl, rfl, rfl, HOW, Lib.hid rfl, Lib.hid (Below.refl _ _)⟩
  case round =>
    obtain ⟨j, G, g, us, bb, hj, rfl, rfl, rfl, HOu, HIT, HZ⟩ := hrel
    clear HOW
    have hfu : Few (7 + 4 * j) us := mkIt_few HTS.out HZS.out HIT.out
    have hSM := stepMarkovX_any w.heap.size D ts.length dc ts G us.length g (7 + 4 * j) us _ (HO3.out.below HZ.out) HOu.out.rd HOu.out.le h1 hD4 HTS.out hfu (by omega)
    have HSM := Lib.hid hSM
    clear hSM hfu
    by_cases hlt : j < n0
    · obtain ⟨rfl, vs, k, hF, hI2⟩ := mkIt_next HIT0.out hlt HIT.out
      have hkn : k < ts.length := (mkF_few HTS.out (mkIt_few HTS.out HZS.out HIT.out : Few (7 + 4 * j) us) hF).2
      rw [hF] at HSM
      have HI2 := Lib.hid hI2
      clear hF hI2
      have i1 : (j : Int) < (n0 : Int) := by omega
      have i2 : (j : Int) < (N : Int) := by omega
      have i3 : ¬ (k : Int) < 0 := by omega
      have i4 : ¬ (ts.length : Int) ≤ (k : Int) := by omega
      go_upto_region 15 with (go_at_call 19; refine HSM.out.mono ?_; rintro e5 w5 ⟨P, pc, rfl, o5, z5⟩)
      have HO5 : Hid (Own w5 w.heap.size 2 1 P vs.length pc (ints vs)) := Lib.hid (o5.mono (by have := HZ.out.size; have := HZ3.out.size; omega))
      have HZ5 := Lib.hid (HZ.out.trans (z5.mono HZ.out.size))
      clear o5 z5
      obtain ⟨t, bl, off, hT, rfl, hbl, q0, q1, q2, _, _⟩ := (HO3.out.below HZ5.out).pick hkn
      have k0 : (0 : Int) ≤ (k : Int) := by omega
      have k1 : (k : Int) < (ts.length : Int) := by omega
      have HLA : Hid (lastAt ts k = t.last) := Lib.hid (by unfold lastAt; rw [hT.out])
      rw [HLA.out] at HI2
      go_wp2_with fail
      exact ⟨⟨j + 1, P, pc, vs, t.last, by omega, by go_num, rfl, rfl, HO5, HI2, HZ5⟩, by simp [intOf]; omega⟩
    · obtain rfl : j = n0 := by omega
      have e0 := HIT.out.symm.trans HIT0.out
      simp only [Option.some.injEq, Prod.mk.injEq] at e0
      obtain ⟨rfl, rfl⟩ := e0
      have HUL : Hid (us.length ≤ 107) := Lib.hid (by have h : Few (7 + 4 * j) us := mkIt_few HTS.out HZS.out HIT.out; have := h.1; omega)
      cases hF : mkF ts us with
      | none =>
        obtain rfl : h0 = true := HH.out.2 (mkNext_none.2 (.inr hF))
        rw [hF] at HSM
        clear hF
        go_upto_region 20 with (go_at_call 19; refine HSM.out.mono ?_; rintro e5 w5 ⟨rfl, z5⟩)
        have HZ5 := Lib.hid (HZ.out.trans (z5.mono HZ.out.size))
        have HG5 := Lib.hid (HOu.out.below z5)
        have HF5 := Lib.hid (HLS.out.below HZ5.out)
        have HZ6 : Hid (Below w.heap.size w w5) := Lib.hid (HZ3.out.trans (HZ5.out.mono HZ3.out.size))
        clear z5
        have hBN := b10Nums_yes G F us.length g fc us w5 HG5.out.rd HF5.out.rd (by have := HG5.out.le; have := HUL.out; omega)
        have HBN := Lib.hid hBN
        clear hBN
        cases bb
        all_goals
          go_wp2_with (go_at_call 12; refine HBN.out.mono ?_; rintro e6 w6 ⟨rfl, q, rfl⟩)
          go_ret
          exact ⟨rfl, below_drewN HZ6.out _⟩
      | some p =>
        obtain ⟨vs, k⟩ := p
        cases bb
        · obtain rfl : j = N := by
            rcases HHN.out with h | h
            · have h2 := HH.out.1 h
              rw [mkNext_none, hF] at h2
              rcases h2 with h2 | h2 <;> cases h2
            · exact h
          obtain rfl : h0 = false := by
            cases h0
            · rfl
            · have h2 := HH.out.1 rfl
              rw [mkNext_none, hF] at h2
              rcases h2 with h2 | h2 <;> cases h2
          rw [hF] at HSM
          clear hF
          go_upto_region 20 with (go_at_call 19; refine HSM.out.mono ?_; rintro e5 w5 ⟨P, pc, rfl, o5, z5⟩)
          have HZ5 := Lib.hid (HZ.out.trans (z5.mono HZ.out.size))
          have HG5 := Lib.hid (HOu.out.below z5)
          have HF5 := Lib.hid (HLS.out.below HZ5.out)
          have HZ6 : Hid (Below w.heap.size w w5) := Lib.hid (HZ3.out.trans (HZ5.out.mono HZ3.out.size))
          clear z5
          have hBN := b10Nums_yes G F us.length g fc us w5 HG5.out.rd HF5.out.rd (by have := HG5.out.le; have := HUL.out; omega)
          have HBN := Lib.hid hBN
          clear hBN
          all_goals
            go_wp2_with (go_at_call 12; refine HBN.out.mono ?_; rintro e6 w6 ⟨rfl, q, rfl⟩)
            go_ret
            exact ⟨rfl, below_drewN HZ6.out _⟩
        · obtain rfl : h0 = true := HH.out.2 (mkNext_none.2 (.inl rfl))
          rw [hF] at HSM
          clear hF
          go_upto_region 20 with (go_at_call 19; refine HSM.out.mono ?_; rintro e5 w5 ⟨P, pc, rfl, o5, z5⟩)
          have HZ5 := Lib.hid (HZ.out.trans (z5.mono HZ.out.size))
          have HG5 := Lib.hid (HOu.out.below z5)
          have HF5 := Lib.hid (HLS.out.below HZ5.out)
          have HZ6 : Hid (Below w.heap.size w w5) := Lib.hid (HZ3.out.trans (HZ5.out.mono HZ3.out.size))
          clear z5
          have hBN := b10Nums_yes G F us.length g fc us w5 HG5.out.rd HF5.out.rd (by have := HG5.out.le; have := HUL.out; omega)
          have HBN := Lib.hid hBN
          clear hBN
          all_goals
            go_wp2_with (go_at_call 12; refine HBN.out.mono ?_; rintro e6 w6 ⟨rfl, q, rfl⟩)
            go_ret
            exact ⟨rfl, below_drewN HZ6.out _⟩
end Go.Proofs.Ytokglpdlhacnaaa

/-
  For every input, FnMarkov returns true, and each argument reads afterwards as it read before. No conditions.
-/
namespace Go.Proofs.Ytokglpdlhacnaaa.lawMarkovRow
open Go.ChangeShapes Go.WideShapes Go.ChangeAt Go.RowKit Go.Joins Go.Proofs.Ytokglpdlhacnaaa

theorem own : ownKnob Try.prog.godebug = none := by kernel_rfl
theorem laidOut : laidOutB Try.prog = true := by kernel_rfl
theorem readable : ∀ t ∈ Try.f4.params.toList, Try.prog.readableRec t = true ∧ t < Try.prog.types.size := by
  have h : (Try.f4.params.toList.all fun t => Try.prog.readableRec t && decide (t < Try.prog.types.size)) = true := by kernel_rfl
  intro t ht
  have := List.all_eq_true.1 h t ht
  simpa using this

set_option maxRecDepth 100000 in
theorem lifted (os : Os) (started : os.Started) (H : Type) (enc : TypeId × Value → H) :
    ReturnsInHanded {} Try.checked os 4 .any (Rows.fnMarkovSpec.pre6 enc Try.prog Try.f4 Rows.fnMarkovRow.domain false) (Rows.fnMarkovSpec.post enc Try.prog Try.f4 false true false false) := by
  refine returnsInHanded_of_change (C := Try.checked) own started (by kernel_rfl) Try.func4
    (ChangeSpec.witness6 (enc := enc) (C := Try.checked) false ⟨#[], #[.slice none 0 0, .slice none 0 0], []⟩ 8 (by kernel_rfl) (by kernel_rfl) (by kernel_rfl) (by kernel_rfl)) ?_
  intro W base args ds gs before hval0 hW hcnd _
  have hval : ∀ (j : Nat) t v, Try.f4.params[j]? = some t → args[j]? = some v → Value.okWide Try.prog W .any base t v := hval0
  have hW' := hW
  obtain ⟨p, q, hA0, hV, hbef, hfz, hnd⟩ := hW
  have hA : DataW.TrodAll enc Try.prog W 0 (fun _ => true) true Try.f4.params.toList args.toList ds p := hA0
  rw [Try.params4] at hA hval
  obtain ⟨v0, vs0, d0, ds0, p0, q0, hargs, rfl, rfl, h0, r0⟩ := trodAll_cons hA
  obtain ⟨v1, vs1, d1, ds1, p1, q1, rfl, rfl, rfl, h1, r1⟩ := trodAll_cons r0
  obtain ⟨rfl, rfl, rfl⟩ := trodAll_nil r1
  obtain rfl : args = #[v0, v1] := by cases args; simp_all
  obtain ⟨rfl, rfl⟩ := trodVars_none hV
  obtain ⟨Aa0, na0, ka0, rfl⟩ := okWide_slice Try.underlying22 (hval 0 22 v0 rfl rfl)
  have hB0 := okWide_blk Try.underlying22 (hval 0 22 _ rfl rfl)
  obtain ⟨fuel0, hf0⟩ := h0
  obtain ⟨Aa0', na0', ka0', xa0, ee0, Sa0, la0, ma0⟩ := sb_of_trod (v := .slice Aa0 na0 ka0) Try.underlying22 Try.underlying5 (by kernel_rfl) (by simpa [Value.cells] using hf0)
  simp only [Value.slice.injEq] at ee0
  obtain ⟨rfl, rfl, rfl⟩ := ee0
  obtain ⟨Aa1, na1, ka1, rfl⟩ := okWide_slice Try.underlying22 (hval 1 22 v1 rfl rfl)
  obtain ⟨fuel1, hf1⟩ := h1
  obtain ⟨Aa1', na1', ka1', xa1, ee1, Sa1, la1, ma1⟩ := sb_of_trod (v := .slice Aa1 na1 ka1) Try.underlying22 Try.underlying5 (by kernel_rfl) (by simpa [Value.cells] using hf1)
  simp only [Value.slice.injEq] at ee1
  obtain ⟨rfl, rfl, rfl⟩ := ee1
  refine (lawMarkov Aa0 na0 ka0 xa0 Aa1 na1 ka1 xa1 W Sa0 Sa1 hB0 (by omega) (by omega)).mono fun e W' ⟨he, hb⟩ => ?_
  subst he
  exact ⟨_, rfl, law_post laidOut readable rfl (by kernel_rfl) Try.underlying4 rfl rfl rfl hW' hb⟩

theorem proved : Rows.FnMarkovSaid :=
  OpenClaim.holds_of_wide 4 Try.f4 rfl rfl rfl rfl rfl rfl rfl ⟨rfl, rfl, rfl, rfl, rfl⟩ rfl rfl rfl rfl rfl (by kernel_rfl) Try.func4 (by kernel_rfl)
    (of_decide_eq_true (by kernel_rfl)) (by unfold Func.isWrapper; first | (rw [if_pos (by decide +kernel)]; kernel_rfl) | (rw [if_neg (by decide +kernel)]; exact ⟨rfl, rfl⟩))
    (fun os started H enc _ => lifted os started H enc)
end Go.Proofs.Ytokglpdlhacnaaa.lawMarkovRow
