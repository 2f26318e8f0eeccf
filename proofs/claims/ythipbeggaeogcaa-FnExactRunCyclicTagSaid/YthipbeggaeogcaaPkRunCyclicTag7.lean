/-
  Contract of the reference's l15Codes.
-/
import Derived.Test.YthipbeggaeogcaaPkRunCyclicTag1
import Derived.Test.YthipbeggaeogcaaPkRunCyclicTag2
import Derived.Test.YthipbeggaeogcaaPkRunCyclicTag3
import Derived.Test.YthipbeggaeogcaaPkRunCyclicTag4
import Derived.Test.YthipbeggaeogcaaPkRunCyclicTag6
namespace Go.Proofs.Ythipbeggaeogcaa
open Go.RowKit

/-- The first k digits of a letter's code. -/
def unitTo (x k : Nat) : List Int := (List.range k).map fun j => if j = x then 1 else 0
theorem unitTo_next (x k : Nat) : unitTo x (k + 1) = unitTo x k ++ [if k = x then 1 else 0] := by unfold unitTo; rw [List.range_succ]; simp
def SpecCodes (w : World) (n : Nat) (xs : List Int) (e : Ending) (w' : World) : Prop :=
  ((xs.length * n ≤ 1000 ∧ ∃ A c, e = .returned (.tuple #[.slice A (codesL n xs).length c, .bool true]) ∧ Own w' w.heap.size 2 1 A (codesL n xs).length c (ints (codesL n xs))) ∨
    (1000 < xs.length * n ∧ e = .returned (.tuple #[.slice none 0 0, .bool false]))) ∧ Below w.heap.size w w'

set_option maxRecDepth 100000 in
set_option maxHeartbeats 4000000 in
theorem l15Codes_any (C : Option Addr) (l r : Nat) (xs : List Int) (n : Nat) (w : World) (hz : SI w C l xs) (hn : n ≤ 100000) (hl : l ≤ 1048576) (hle : ∀ y ∈ xs, 0 ≤ y) :
    Calls Try.prog 89 #[.slice C l r, .int .i64 (n : Int)] w (SpecCodes w n xs) := by
  obtain rfl : xs.length = l := hz.len
  have HLE := Lib.hid hle
  clear hle
  have hln : xs.length * n ≤ 1048576 * 100000 := Nat.mul_le_mul hl hn
  obtain ⟨M, hM⟩ : ∃ M, M = xs.length * n := ⟨_, rfl⟩
  have w1 : IntKind.i64.wrap ((xs.length : Int) * (n : Int)) = (M : Int) := by rw [IntWalk.i64_in _ (by rw [← Int.natCast_mul, ← hM]; omega), hM]; simp
  have HM := Lib.hid hM
  rw [← hM] at hln
  clear hM
  obtain ⟨W, hW_⟩ : ∃ W_, W_ = w.alloc (.cells #[] 2) := ⟨_, rfl⟩
  have b0 : Blk W w.heap.size 2 #[] := by rw [hW_]; exact Blk.new w _ _
  have y0 : Below w.heap.size w W := by rw [hW_]; exact (Below.refl _ _).alloc (Nat.le_refl _) _
  have HW := Lib.hid hW_
  clear hW_
  by_cases hM1 : M ≤ 1000
  rotate_left
  · have hg : (1000 : Int) < (M : Int) := by omega
    go_enter Try.func89, Try.ntmps89
    go_upto_region 2 with fail
    rw [← HW.out]
    go_wp2_with fail
    exact bodyPost_ret (v := .tuple #[.slice none 0 0, .bool false]) (by simp [results, Try.results89, go_sem]) rfl ⟨.inr ⟨by rw [← HM.out]; omega, rfl⟩, y0⟩
  have hg : ¬ (1000 : Int) < (M : Int) := by omega
  have o0 : Own W w.heap.size 2 1 (some ⟨w.heap.size, 0, none⟩) 0 0 [] := ⟨by simp, .inr ⟨w.heap.size, 0, #[], rfl, Nat.le_refl _, b0, Nat.le_refl _, by simp [maxLen], by simp, fun k hk => by simp at hk⟩⟩
  have hW := y0.size
  go_enter Try.func89, Try.ntmps89
  go_upto_region 2 with fail
  rw [← HW.out]
  go_wp2_with fail
  clear w1
  go_loopw [6, 7] (fun o i wr => ∃ (j : Nat) (A : Option Addr) (c : Nat), j ≤ xs.length ∧ i = .int .i64 (j : Int) ∧ o = .slice A (codesL n (xs.take j)).length c ∧ Own wr w.heap.size 2 1 A (codesL n (xs.take j)).length c (ints (codesL n (xs.take j))) ∧ Below w.heap.size w wr) (fun _ i _ => xs.length - (intOf i).toNat)
  case atStart => exact ⟨0, some ⟨w.heap.size, 0, none⟩, 0, Nat.zero_le _, rfl, by simp [codesL], by simpa [codesL, ints] using o0, y0⟩
  case round =>
    obtain ⟨j, A1, c1, hj, rfl, rfl, ho, hb⟩ := hrel
    clear o0
    by_cases hlt : j < xs.length
    · obtain ⟨b, off, hC, _, hc⟩ := (hz.below hb).at_ hlt
      obtain ⟨y, hy⟩ : ∃ y, y = xs[j]'hlt := ⟨_, rfl⟩
      have hy0 := HLE.out _ (List.getElem_mem (l := xs) (n := j) hlt)
      rw [← hy] at hy0
      obtain ⟨x0, rfl⟩ : ∃ x0 : Nat, y = (x0 : Int) := ⟨y.toNat, by omega⟩
      have HNX : Hid (codesL n (xs.take (j + 1)) = codesL n (xs.take j) ++ unitTo x0 n) := Lib.hid (by
        rw [List.take_succ_eq_append_getElem hlt, codesL_append, ← hy]
        simp [codesL, unitL, unitTo])
      have hjl : (codesL n (xs.take j)).length + n ≤ M := by
        rw [codesL_len, List.length_take, Nat.min_eq_left (by omega), HM.out, ← Nat.succ_mul]; exact Nat.mul_le_mul_right _ hlt
      have HY := Lib.hid hy
      clear hy hc hC hy0
      generalize codesL n (xs.take j) = cs at *
      go_wp2_with fail
      have h0 : Own wr w.heap.size 2 1 A1 (cs ++ unitTo x0 0).length c1 (ints (cs ++ unitTo x0 0)) := by simpa [unitTo] using ho
      go_loopw [6, 8] (fun o i w3 => ∃ (k : Nat) (A : Option Addr) (c : Nat), k ≤ n ∧ i = .int .i64 (k : Int) ∧ o = .slice A (cs ++ unitTo x0 k).length c ∧ Own w3 w.heap.size 2 1 A (cs ++ unitTo x0 k).length c (ints (cs ++ unitTo x0 k)) ∧ Below w.heap.size w w3) (fun _ i _ => n - (intOf i).toNat)
      case atStart => exact ⟨0, A1, c1, Nat.zero_le _, rfl, by simp [unitTo], h0, hb⟩
      case round =>
        obtain ⟨k, A3, c3, hk, rfl, rfl, ho3, hb3⟩ := hrel
        clear h0
        by_cases hkn : k < n
        · obtain ⟨b, off, rfl, _, hc⟩ := (hz.below hb3).at_ hlt
          rw [← HY.out] at hc
          have hcl : (cs ++ unitTo x0 k).length = cs.length + k := by simp [unitTo]
          by_cases hkx : k = x0
          · have hd : ((k : Int) == (x0 : Int)) = true := by simp; omega
            have HN1 : Hid (unitTo x0 (k + 1) = unitTo x0 k ++ [1]) := Lib.hid (by rw [unitTo_next, if_pos hkx])
            clear hkx
            go_wp2_with (at_builtin; refine wpList_append_Own rfl (.tmp 32) (.tmp 33) rfl elI (lo := w.heap.size) rfl (ho3.alloc _) rfl (Rd.new1 wr _ _) (by simp [Value.oneCell']) (by omega) (by simp only [maxLen]; omega) (by have := hb3.size; simp; omega) ?_; intro A4 c4 w4 ho4 hg4 _)
            rw [hcl] at ho4
            have hL1 : (cs ++ unitTo x0 (k + 1)).length = cs.length + k + 1 := by simp [unitTo]; omega
            have hb4 := Own.below_of (ho3.alloc _) (hb3.alloc hb3.size _) hg4 (by have := hb3.size; simp; omega)
            have ho5 : Own w4 w.heap.size 2 1 A4 (cs ++ unitTo x0 (k + 1)).length c4 (ints (cs ++ unitTo x0 (k + 1))) := by
              rw [hL1, HN1.out, ← List.append_assoc]
              simpa [ints] using ho4
            exact ⟨⟨k + 1, A4, c4, by omega, by go_num, by rw [hL1], ho5, hb4⟩, by simp [intOf]; omega⟩
          · have hd : ((k : Int) == (x0 : Int)) = false := by simp; omega
            have HN1 : Hid (unitTo x0 (k + 1) = unitTo x0 k ++ [0]) := Lib.hid (by rw [unitTo_next, if_neg hkx])
            clear hkx
            go_wp2_with (at_builtin; refine wpList_append_Own rfl (.tmp 35) (.tmp 36) rfl elI (lo := w.heap.size) rfl (ho3.alloc _) rfl (Rd.new1 wr _ _) (by simp [Value.oneCell']) (by omega) (by simp only [maxLen]; omega) (by have := hb3.size; simp; omega) ?_; intro A4 c4 w4 ho4 hg4 _)
            rw [hcl] at ho4
            have hL1 : (cs ++ unitTo x0 (k + 1)).length = cs.length + k + 1 := by simp [unitTo]; omega
            have hb4 := Own.below_of (ho3.alloc _) (hb3.alloc hb3.size _) hg4 (by have := hb3.size; simp; omega)
            have ho5 : Own w4 w.heap.size 2 1 A4 (cs ++ unitTo x0 (k + 1)).length c4 (ints (cs ++ unitTo x0 (k + 1))) := by
              rw [hL1, HN1.out, ← List.append_assoc]
              simpa [ints] using ho4
            exact ⟨⟨k + 1, A4, c4, by omega, by go_num, by rw [hL1], ho5, hb4⟩, by simp [intOf]; omega⟩
        · have hkn' : k = n := by omega
          subst hkn'
          rw [← HNX.out] at ho3
          go_wp2_with fail
          exact ⟨⟨j + 1, A3, c3, by omega, by go_num, by rw [HNX.out], ho3, hb3⟩, by simp [intOf]; omega⟩
    · rw [List.take_of_length_le (by omega)] at ho ⊢
      go_wp2_with fail
      exact bodyPost_ret (v := .tuple #[.slice A1 (codesL n xs).length c1, .bool true]) (by simp [results, Try.results89, go_sem]) rfl ⟨.inl ⟨by rw [← HM.out]; exact hM1, A1, c1, rfl, ho⟩, hb⟩
end Go.Proofs.Ythipbeggaeogcaa

/-
  Contracts of the reference's small functions: l00Has, l00Rises.
-/
namespace Go.Proofs.Ythipbeggaeogcaa
open Go.RowKit

def hasB (xs : List Int) (t : Int) : Bool := decide (t ∈ xs)
theorem hasB_at {xs : List Int} {t : Int} {k n : Nat} (hk : k < n) (hl : xs.length = n) (h : (xs[k]'(by omega) == t) = true) : true = hasB xs t := by
  symm; unfold hasB; rw [decide_eq_true_iff]; simp at h; subst h; exact List.getElem_mem _
theorem hasB_next {xs : List Int} {t : Int} {k n : Nat} (hk : k < n) (hl : xs.length = n) (h : (xs[k]'(by omega) == t) = false) (he : ¬ t ∈ xs.take k) : ¬ t ∈ xs.take (k + 1) := by
  rw [List.take_succ_eq_append_getElem (by omega)]
  simp at h
  rw [List.mem_append]
  rintro (h1 | h1)
  · exact he h1
  · simp at h1; exact h h1.symm
theorem hasB_end {xs : List Int} {t : Int} {k n : Nat} (hk : n ≤ k) (hl : xs.length = n) (he : ¬ t ∈ xs.take k) : false = hasB xs t := by
  rw [List.take_of_length_le (by omega)] at he
  symm; unfold hasB; rw [decide_eq_false_iff_not]; exact he
set_option maxHeartbeats 400000 in
theorem l00Has_any (A : Option Addr) (n c : Nat) (xs : List Int) (t : Int) (w : World) (hx : SI w A n xs) (hn : n ≤ 9223372036854775807) :
    Calls Try.prog 150 #[.slice A n c, .int .i64 t] w fun e w' => e = .returned (.bool (hasB xs t)) ∧ w = w' := by
  go_enter Try.func150, Try.ntmps150
  go_wp2
  go_loop [5] (fun i => ∃ k : Nat, k ≤ n ∧ i = .int .i64 k ∧ Hid (¬ t ∈ xs.take k)) (fun i => n - (intOf i).toNat)
  case atStart => exact ⟨0, by omega, rfl, by simp [Hid]⟩
  case round =>
    obtain ⟨k, hk, rfl, he⟩ := hrel
    by_cases hlt : k < n
    · obtain ⟨b, off, rfl, _, hc⟩ := hx.at_ hlt
      go_wp2
      · go_ret
        exact ⟨ret_bool (hasB_at hlt hx.len (by assumption)), rfl⟩
      · exact ⟨⟨k + 1, by omega, by go_num, hasB_next hlt hx.len (by assumption) he.out⟩, by simp [intOf]; omega⟩
    · go_wp2
      go_ret
      exact ⟨ret_bool (hasB_end (by omega) hx.len he.out), rfl⟩

def risesInB (xs : List Int) (lo hi : Int) : Bool := allIn xs lo hi && risesB xs
/-- After k rounds all is well so far. -/
def risesTo (xs : List Int) (lo hi : Int) (k : Nat) : Prop := allIn (xs.take k) lo hi = true ∧ (xs.take k).Pairwise (· < ·)
theorem risesTo_out {xs : List Int} {lo hi : Int} {k n : Nat} (hk : k < n) (hl : xs.length = n) (h : inB (xs[k]'(by omega)) lo hi = false) : false = risesInB xs lo hi := by
  have := allIn_at hk hl (lo := lo) (hi := hi) (by simpa using h)
  unfold risesInB; rw [← this]; rfl
theorem risesTo_not {xs : List Int} {lo hi : Int} {k n : Nat} (hk : k < n) (hl : xs.length = n) (h0 : 1 ≤ k) (hge : xs[k]'(by omega) ≤ xs[k - 1]'(by omega)) : false = risesInB xs lo hi := by
  have := rises_not h0 (by omega) hge
  unfold risesInB; rw [← this]; simp
theorem risesTo_first {xs : List Int} {lo hi : Int} {n : Nat} (hk : 0 < n) (hl : xs.length = n) (h : inB (xs[0]'(by omega)) lo hi = true) : risesTo xs lo hi (0 + 1) := by
  rcases xs with _ | ⟨x, r⟩
  · simp at hl; omega
  · exact ⟨by simpa [allIn] using h, by simp⟩
theorem risesTo_next {xs : List Int} {lo hi : Int} {k n : Nat} (hk : k < n) (hl : xs.length = n) (h : inB (xs[k]'(by omega)) lo hi = true) (h0 : 1 ≤ k) (hlt : xs[k - 1]'(by omega) < xs[k]'(by omega)) (he : risesTo xs lo hi k) : risesTo xs lo hi (k + 1) :=
  ⟨allIn_next hk hl (by simpa using h) he.1, rises_next he.2 h0 (by omega) hlt⟩
theorem risesTo_end {xs : List Int} {lo hi : Int} {k n : Nat} (hk : n ≤ k) (hl : xs.length = n) (he : risesTo xs lo hi k) : true = risesInB xs lo hi := by
  unfold risesInB; rw [← allIn_end hk hl he.1, ← rises_end hk hl he.2]; rfl

set_option maxHeartbeats 1000000 in
theorem l00Rises_any (A : Option Addr) (n c : Nat) (xs : List Int) (lo hi : Int) (w : World) (hx : SI w A n xs) (hn : n ≤ 9223372036854775800) :
    Calls Try.prog 190 #[.slice A n c, .int .i64 lo, .int .i64 hi] w fun e w' => e = .returned (.bool (risesInB xs lo hi)) ∧ ∃ q, w' = w.drewN q := by
  go_enter Try.func190, Try.ntmps190
  go_wp2
  go_loopw [7] (fun i wr => ∃ k q : Nat, k ≤ n ∧ i = .int .i64 k ∧ Hid (risesTo xs lo hi k) ∧ wr = w.drewN q) (fun i _ => n - (intOf i).toNat)
  case atStart => exact ⟨0, 0, by omega, rfl, by simp [Hid, risesTo, allIn], rfl⟩
  case round =>
    obtain ⟨k, q, hk, rfl, he, rfl⟩ := hrel
    by_cases hlt : k < n
    · obtain ⟨b, off, rfl, _, hc⟩ := hx.at_ hlt
      have HXL := Lib.hid hx.len
      cases hin : inB (xs[k]'(by have := HXL.out; omega)) lo hi
      · have HIN := Lib.hid hin
        clear hin
        go_wp2
        go_quiet ((go_at_call 82; exact quiet_add_left (l00In_is HIN.out _)))
        go_wp2
        go_ret
        exact ⟨ret_bool (risesTo_out hlt HXL.out HIN.out), _, World.drewN_drewN _ _ _⟩
      · have HIN := Lib.hid hin
        clear hin
        by_cases hk0 : k = 0
        · subst hk0
          have g0 : decide ((0 : Int) < ((0 : Nat) : Int)) = false := by decide
          rw [Nat.add_zero] at hc
          go_wp2
          go_quiet ((go_at_call 82; exact quiet_add_left (l00In_is HIN.out _)))
          go_wp2
          exact ⟨⟨0 + 1, _, by omega, rfl, risesTo_first hlt HXL.out HIN.out, rfl⟩, by simp [intOf]; omega⟩
        · have g0 : 0 < k := by omega
          obtain ⟨b', off', he', _, hc'⟩ := hx.at_ (k := k - 1) (by omega)
          simp only [Option.some.injEq, Addr.mk.injEq, and_true] at he'
          obtain ⟨rfl, rfl⟩ := he'
          have i1 : (0 : Int) ≤ (k : Int) - 1 := by omega
          have i2 : ((k : Int) - 1).toNat = k - 1 := by omega
          go_wp2
          go_quiet ((go_at_call 82; exact quiet_add_left (l00In_is HIN.out _)))
          clear i2
          go_wp2
          · go_ret
            exact ⟨ret_bool (risesTo_not hlt HXL.out (by omega) (by assumption)), _, World.drewN_drewN _ _ _⟩
          · exact ⟨⟨k + 1, _, by omega, by go_num, risesTo_next hlt HXL.out HIN.out (by omega) (by omega) he.out, rfl⟩, by simp [intOf]; omega⟩
    · go_wp2
      go_ret
      exact ⟨ret_bool (risesTo_end (by omega) hx.len he.out), _, rfl⟩
theorem l00Rises_is {xs : List Int} {lo hi : Int} {b : Bool} (h : risesInB xs lo hi = b) (A : Option Addr) (n c : Nat) (w : World) (hx : SI w A n xs) (hn : n ≤ 9223372036854775800) :
    Calls Try.prog 190 #[.slice A n c, .int .i64 lo, .int .i64 hi] w fun e w' => e = .returned (.bool b) ∧ ∃ q, w' = w.drewN q := h ▸ l00Rises_any A n c xs lo hi w hx hn
end Go.Proofs.Ythipbeggaeogcaa

/-
  Contracts of the reference's tag systems: l09Over, l09Is, l09Good, l09Ask, l09Halts.
-/
namespace Go.Proofs.Ythipbeggaeogcaa
open Go.RowKit

/-- A tag system behind a pointer. -/
def TagAt (w : World) (g : Nat) (d : Int) (A : Option Addr) (n c : Nat) (B : Option Addr) (m k : Nat) : Prop :=
  w.cell? ⟨g, 0, none⟩ = some (.int .i64 d) ∧ w.cell? ⟨g, 1, none⟩ = some (.slice A n c) ∧ w.cell? ⟨g, 2, none⟩ = some (.slice B m k)
theorem TagAt.lt {w : World} {g : Nat} {d : Int} {A : Option Addr} {n c : Nat} {B : Option Addr} {m k : Nat} (h : TagAt w g d A n c B m k) : g < w.heap.size := World.block_lt_of_cell? w _ h.1
theorem TagAt.below {w w' : World} {g : Nat} {d : Int} {A : Option Addr} {n c : Nat} {B : Option Addr} {m k : Nat} (h : TagAt w g d A n c B m k) (hb : Below w.heap.size w w') : TagAt w' g d A n c B m k :=
  ⟨(hb.cell (p := ⟨g, 0, none⟩) h.lt).trans h.1, (hb.cell (p := ⟨g, 1, none⟩) h.lt).trans h.2.1, (hb.cell (p := ⟨g, 2, none⟩) h.lt).trans h.2.2⟩
theorem TagAt.drewN {w : World} {g : Nat} {d : Int} {A : Option Addr} {n c : Nat} {B : Option Addr} {m k : Nat} (h : TagAt w g d A n c B m k) (q : Nat) : TagAt (w.drewN q) g d A n c B m k := h

theorem over_at {xs : List Int} {letters : Int} {k n : Nat} (hk : k < n) (hl : xs.length = n) (h : (!inB (xs[k]'(by omega)) 0 (letters - 1)) = true) : false = tagWordB xs letters := by
  have := allIn_at hk hl h
  unfold tagWordB; rw [← this]; simp
theorem over_end {xs : List Int} {letters : Int} {k n : Nat} (hk : n ≤ k) (hl : xs.length = n) (he : allIn (xs.take k) 0 (letters - 1) = true) : decide ((n : Int) ≤ 1000) = tagWordB xs letters := by
  have := allIn_end hk hl he
  unfold tagWordB; rw [← this, hl]; simp; omega

set_option maxHeartbeats 400000 in
theorem l09Over_any (A : Option Addr) (n c : Nat) (xs : List Int) (letters : Int) (w : World) (hx : SI w A n xs) (hn : n ≤ 9223372036854775807) (h1 : 0 ≤ letters) (h2 : letters ≤ 9223372036854775807) :
    Calls Try.prog 191 #[.slice A n c, .int .i64 letters] w fun e w' => e = .returned (.bool (tagWordB xs letters)) ∧ w = w' := by
  go_enter Try.func191, Try.ntmps191
  go_wp2
  go_loop [5] (fun i => ∃ k : Nat, k ≤ n ∧ i = .int .i64 k ∧ Hid (allIn (xs.take k) 0 (letters - 1) = true)) (fun i => n - (intOf i).toNat)
  case atStart => exact ⟨0, by omega, rfl, rfl⟩
  case round =>
    obtain ⟨k, hk, rfl, he⟩ := hrel
    by_cases hlt : k < n
    · obtain ⟨b, off, rfl, _, hc⟩ := hx.at_ hlt
      go_wp2_with (go_at_call 82; refine (l00In_any _ _ _ _).mono ?_; rintro e w' ⟨rfl, rfl⟩)
      · go_ret
        exact ⟨ret_bool (over_at hlt hx.len (by assumption)), rfl⟩
      · exact ⟨⟨k + 1, by omega, by go_num, allIn_next hlt hx.len (by assumption) he.out⟩, by simp [intOf]; omega⟩
    · go_wp2
      go_ret
      exact ⟨ret_bool (over_end (by omega) hx.len he.out), rfl⟩

theorem l09Good_any (g : Nat) (d : Int) (A : Option Addr) (n c : Nat) (B : Option Addr) (m k : Nat) (C : Option Addr) (l r : Nat) (xs : List Int) (w : World) (ht : TagAt w g d A n c B m k) (hx : SI w C l xs) (hl : l ≤ 9223372036854775807) (hn : n ≤ 9223372036854775807) :
    Calls Try.prog 149 #[.pointer (some ⟨g, 0, none⟩), .slice C l r] w fun e w' => e = .returned (.bool (tagWordB xs n)) ∧ w = w' := by
  obtain ⟨c0, c1, c2⟩ := ht
  go_enter Try.func149, Try.ntmps149
  go_wp2_with (go_at_call 191; refine (l09Over_any _ _ _ xs _ _ hx hl (by omega) (by omega)).mono ?_; rintro e w' ⟨rfl, rfl⟩)
  go_ret
  exact ⟨rfl, rfl⟩

theorem words_not {ts : List Sl} {t : Sl} {k : Nat} {letters : Int} (hT : ts[k]? = some t) (h : (!tagWordB t.xs letters) = true) : wordsB (nums ts) letters = false := by
  unfold wordsB; rw [List.all_eq_false]
  exact ⟨t.xs, by simp only [nums, List.mem_map]; exact ⟨t, List.mem_of_getElem? hT, rfl⟩, by simpa using h⟩
theorem words_next {ts : List Sl} {t : Sl} {k : Nat} {letters : Int} (hT : ts[k]? = some t) (h : (!tagWordB t.xs letters) = false) (he : wordsB ((nums ts).take k) letters = true) : wordsB ((nums ts).take (k + 1)) letters = true := by
  obtain ⟨hk, rfl⟩ := List.getElem?_eq_some_iff.1 hT
  unfold wordsB at he ⊢
  rw [List.take_succ_eq_append_getElem (by simpa [nums] using hk), List.all_append, he]
  simpa [nums] using h
theorem valid_of {b : Bool} {d : Int} {words : List (List Int)} {hs : List Int} {n : Nat} (hn : words.length = n) (h1 : inB d 1 4 = true) (h2 : inB n 1 200 = true) (h3 : risesInB hs 0 ((n : Int) - 1) = true) (h4 : wordsB words n = b) : b = validTagB d words hs := by
  unfold risesInB at h3
  simp only [Bool.and_eq_true] at h3
  unfold validTagB
  rw [hn, h1, h2, h4, h3.1, h3.2]; simp

set_option maxHeartbeats 1000000 in
theorem l09Is_any (g : Nat) (d : Int) (A : Option Addr) (n c : Nat) (ts : List Sl) (B : Option Addr) (m k : Nat) (hs : List Int) (w : World) (ht : TagAt w g d A n c B m k) (hx : SII w A n ts) (hy : SI w B m hs) (hn : n ≤ 1048576) (hm : m ≤ 1048576) (hns : ∀ t ∈ ts, t.xs.length ≤ 9223372036854775807) :
    Calls Try.prog 148 #[.pointer (some ⟨g, 0, none⟩)] w fun e w' => e = .returned (.bool (validTagB d (nums ts) hs)) ∧ ∃ q, w' = w.drewN q := by
  obtain ⟨c0, c1, c2⟩ := ht
  have HL : Hid ((nums ts).length = n) := by show _ = _; have := hx.len; simpa [nums] using this
  cases hq : risesInB hs 0 ((n : Int) - 1)
  · have HQ := Lib.hid hq
    clear hq
    go_enter Try.func148, Try.ntmps148
    go_wp2_with (first
      | (go_at_call 82; refine (l00In_any _ _ _ _).mono ?_; rintro e w' ⟨rfl, rfl⟩)
      | (go_at_call 190; refine (l00Rises_is HQ.out _ _ _ _ hy (by omega)).mono ?_; rintro e w' ⟨rfl, q, rfl⟩))
    all_goals go_ret
    · exact ⟨ret_bool (by unfold validTagB; simp [*]), 0, rfl⟩
    · exact ⟨ret_bool (by unfold validTagB; rw [HL.out]; simp [*]), 0, rfl⟩
    · refine ⟨ret_bool ?_, _, rfl⟩
      have a3 := HQ.out
      unfold risesInB at a3
      unfold validTagB; rw [HL.out]
      simp only [Bool.and_eq_false_iff] at a3
      rcases a3 with a3 | a3 <;> simp [a3]
  have HQ := Lib.hid hq
  clear hq
  go_enter Try.func148, Try.ntmps148
  go_wp2_with (first
    | (go_at_call 82; refine (l00In_any _ _ _ _).mono ?_; rintro e w' ⟨rfl, rfl⟩)
    | (go_at_call 190; refine (l00Rises_is HQ.out _ _ _ _ hy (by omega)).mono ?_; rintro e w' ⟨rfl, q, rfl⟩))
  · go_ret
    exact ⟨ret_bool (by unfold validTagB; simp [*]), 0, rfl⟩
  · go_ret
    exact ⟨ret_bool (by unfold validTagB; rw [HL.out]; simp [*]), 0, rfl⟩
  · have a1 : inB d 1 4 = true := by assumption
    have a2 : inB n 1 200 = true := by assumption
    have A1 := Lib.hid a1
    have A2 := Lib.hid a2
    have A3 := HQ
    clear a1 a2
    go_loop [4] (fun i => ∃ j : Nat, j ≤ n ∧ i = .int .i64 j ∧ Hid (wordsB ((nums ts).take j) n = true)) (fun i => n - (intOf i).toNat)
    case atStart => exact ⟨0, by omega, rfl, rfl⟩
    case round =>
      obtain ⟨j, hj, rfl, he⟩ := hrel
      by_cases hlt : j < n
      · obtain ⟨t, b, off, hT, htm, rfl, _, hc, hr⟩ := hx.pick hlt
        have hrl := hns t htm
        go_wp2_with (go_at_call 191; refine (l09Over_any _ _ _ t.xs _ _ (hr.drewN _) hrl (by omega) (by omega)).mono ?_; rintro e w' ⟨rfl, rfl⟩)
        · go_ret
          exact ⟨ret_bool (valid_of HL.out A1.out A2.out A3.out (words_not hT.out (by assumption))), _, rfl⟩
        · exact ⟨⟨j + 1, by omega, by go_num, words_next hT.out (by assumption) he.out⟩, by simp [intOf]; omega⟩
      · go_wp2_with fail
        go_ret
        refine ⟨ret_bool (valid_of HL.out A1.out A2.out A3.out ?_), _, rfl⟩
        have := he.out
        rw [List.take_of_length_le (by rw [HL.out]; omega)] at this
        exact this

set_option maxHeartbeats 400000 in
theorem l09Ask_any (g : Nat) (d : Int) (A : Option Addr) (n c : Nat) (ts : List Sl) (B : Option Addr) (m k : Nat) (hs : List Int) (C : Option Addr) (l r : Nat) (xs : List Int) (w : World) (ht : TagAt w g d A n c B m k) (hx : SII w A n ts) (hy : SI w B m hs) (hz : SI w C l xs) (hn : n ≤ 1048576) (hm : m ≤ 1048576) (hl : l ≤ 1048576) (hns : ∀ t ∈ ts, t.xs.length ≤ 9223372036854775807) :
    Calls Try.prog 87 #[.pointer (some ⟨g, 0, none⟩), .slice C l r] w fun e w' => e = .returned (.int .i64 (tagCodeF d (nums ts) hs xs)) ∧ ∃ q, w' = w.drewN q := by
  have HL : Hid ((nums ts).length = n) := by show _ = _; have := hx.len; simpa [nums] using this
  go_enter Try.func87, Try.ntmps87
  go_wp2_with (first
    | (go_at_call 148; refine (l09Is_any _ _ _ _ _ ts _ _ _ hs _ ht hx hy hn hm hns).mono ?_; rintro e w' ⟨rfl, q, rfl⟩)
    | (go_at_call 149; refine (l09Good_any _ _ _ _ _ _ _ _ _ _ _ xs _ (ht.drewN _) (hz.drewN _) (by omega) (by omega)).mono ?_; rintro e w' ⟨rfl, rfl⟩))
  all_goals go_ret
  · exact ⟨ret_int (by unfold tagCodeF; simp [*]), _, rfl⟩
  · exact ⟨ret_int (by unfold tagCodeF; rw [HL.out]; simp_all), _, rfl⟩
  · exact ⟨ret_int (by unfold tagCodeF; rw [HL.out]; simp_all), _, rfl⟩

set_option maxHeartbeats 400000 in
theorem l09Halts_any (g : Nat) (d : Int) (A : Option Addr) (n c : Nat) (B : Option Addr) (m k : Nat) (hs : List Int) (C : Option Addr) (l r : Nat) (xs : List Int) (w : World) (ht : TagAt w g d A n c B m k) (hy : SI w B m hs) (hz : SI w C l xs) (hm : m ≤ 1048576) (hl : l ≤ 1048576) (hd : 1 ≤ d) :
    Calls Try.prog 90 #[.pointer (some ⟨g, 0, none⟩), .slice C l r] w fun e w' => e = .returned (.bool (haltsB d hs xs)) ∧ ∃ q, w' = w.drewN q := by
  obtain ⟨c0, c1, c2⟩ := ht
  have HL := Lib.hid hz.len
  by_cases hld : (l : Int) < d
  · have hdec : decide ((l : Int) < d) = true := by simpa using hld
    go_enter Try.func90, Try.ntmps90
    go_wp2_with fail
    go_quiet (fail)
    go_wp2_with fail
    go_ret
    exact ⟨ret_bool (by unfold haltsB; rw [HL.out]; simp [hld]), _, rfl⟩
  · have hl0 : 0 < l := by omega
    have hdec : decide ((l : Int) < d) = false := by simpa using hld
    have i1 : (0 : Int) < (l : Int) := by omega
    obtain ⟨b, off, rfl, _, hc⟩ := hz.at0 hl0
    go_enter Try.func90, Try.ntmps90
    go_wp2_with fail
    go_quiet ((go_at_call 150; exact quiet_left (l00Has_any _ _ _ hs _ _ (hy.drewN _) (by omega))))
    go_wp2_with fail
    go_ret
    exact ⟨ret_bool (by unfold haltsB hasB; rw [HL.out]; simp; omega), _, rfl⟩
end Go.Proofs.Ythipbeggaeogcaa

/-
  Contract of the reference's l15Cyclic.
-/
namespace Go.Proofs.Ythipbeggaeogcaa
open Go.RowKit

theorem Blk.ownE {w : World} {g lo s : Nat} {t : TypeId} (h : Blk w g t #[]) (hl : lo ≤ g) : Own w lo t s (some ⟨g, 0, none⟩) 0 0 [] :=
  ⟨by simp, .inr ⟨g, 0, #[], rfl, hl, h, Nat.le_refl _, by simp [maxLen], by simp, fun k hk => by simp at hk⟩⟩

def SpecCyc (w : World) (d : Nat) (words : List (List Int)) (N : Nat) (e : Ending) (w' : World) : Prop :=
  ((cycFitsB d words = true ∧ ∃ A c us, e = .returned (.tuple #[.agg #[.slice A N c], .bool true]) ∧ OII w' w.heap.size 25 2 A N c us ∧ nums us = cycWords d words) ∨
    (cycFitsB d words = false ∧ ∃ A m c, e = .returned (.tuple #[.agg #[.slice A m c], .bool false]))) ∧ Below w.heap.size w w'

set_option maxRecDepth 100000 in
set_option maxHeartbeats 8000000 in
theorem l15Cyclic_any (g d : Nat) (A : Option Addr) (n c : Nat) (ts : List Sl) (B : Option Addr) (m k : Nat) (hs : List Int) (w : World) (ht : TagAt w g (d : Int) A n c B m k) (hx : SII w A n ts) (hv : validTagB (d : Int) (nums ts) hs = true) :
    Calls Try.prog 88 #[.pointer (some ⟨g, 0, none⟩)] w (SpecCyc w d (nums ts) (n * d)) := by
  have hln : (nums ts).length = n := by have := hx.len; simpa [nums] using this
  obtain ⟨v1, v2, v3, v4, v5⟩ := validTag_parts hv
  rw [hln] at v3 v4 v5
  have HLN := Lib.hid hln
  have V5 := Lib.hid v5
  clear v5 hv hln
  obtain ⟨e', he'⟩ : ∃ e', d = e' + 1 := ⟨d - 1, by omega⟩
  have hnd : n * d ≤ 200 * 4 := Nat.mul_le_mul v4 (by omega)
  have hnd0 : n * d = n * e' + n := by rw [he']; exact Nat.mul_succ _ _
  obtain ⟨N, hN⟩ : ∃ N, N = n * d := ⟨_, rfl⟩
  obtain ⟨E', hE⟩ : ∃ E', E' = n * e' := ⟨_, rfl⟩
  have w1 : IntKind.i64.wrap ((n : Int) * (d : Int)) = (N : Int) := by rw [IntWalk.i64_in _ (by rw [← Int.natCast_mul, ← hN]; omega), hN]; simp
  have w3 : IntKind.i64.wrap ((d : Int) - 1) = (e' : Int) := by rw [IntWalk.i64_in _ (by omega)]; omega
  have HWB : Hid (IntKind.i64.wrap ((n : Int) * (e' : Int)) = (E' : Int)) := Lib.hid (by rw [IntWalk.i64_in _ (by rw [← Int.natCast_mul, ← hE]; omega), hE]; simp)
  have HN := Lib.hid hN
  have HE := Lib.hid hE
  have HD := Lib.hid he'
  rw [← hN, ← hE] at hnd0
  rw [← hN] at hnd ⊢
  have HND := Lib.hid hnd0
  have hnN : n ≤ N := by omega
  have hEN : E' ≤ N := by omega
  clear hN hE he' hnd0
  have HW3 := Lib.hid w3
  clear w3
  have hgl := ht.lt
  obtain ⟨Wa, hW_⟩ : ∃ W, W = w.alloc (.cells #[.slice none 0 0] 33) := ⟨_, rfl⟩
  have b1 : Blk Wa w.heap.size 33 #[.slice none 0 0] := by rw [hW_]; exact Blk.new w _ _
  have y0 : Below w.heap.size w Wa := by rw [hW_]; exact (Below.refl _ _).alloc (Nat.le_refl _) _
  have HWa := Lib.hid hW_
  clear hW_
  have ht0 := ht.below y0
  have hx0 := hx.below y0
  obtain ⟨t0, t1, t2⟩ := ht0
  go_enter Try.func88, Try.ntmps88
  go_upto_region 1 with fail
  rw [← HWa.out]
  go_upto_region 2 with fail
  clear t0 t1 t2
  obtain ⟨W2, hW_⟩ : ∃ W, W = (Wa.alloc (.cells #[] 25)).alloc (.cells #[.slice (some ⟨Wa.heap.size, 0, none⟩) 0 0] 33) := ⟨_, rfl⟩
  have s_1 : (Wa.alloc (.cells #[] 25)).heap.size = Wa.heap.size + 1 := by simp
  have b2 : Blk W2 Wa.heap.size 25 #[] := by rw [hW_]; exact (Blk.new Wa _ _).alloc _
  have b3 : Blk W2 (Wa.heap.size + 1) 33 #[.slice (some ⟨Wa.heap.size, 0, none⟩) 0 0] := by rw [hW_, ← s_1]; exact Blk.new _ _ _
  have y1 : Below Wa.heap.size Wa W2 := by rw [hW_]; exact ((Below.refl _ _).alloc (Nat.le_refl _) _).alloc (by simp) _
  have HW2 := Lib.hid hW_
  clear hW_ s_1
  have y2 := y0.trans (y1.mono y0.size)
  have b12 := b1.below' y1
  have o2 : Own W2 Wa.heap.size 25 1 (some ⟨Wa.heap.size, 0, none⟩) 0 0 [] := ⟨by simp, .inr ⟨Wa.heap.size, 0, #[], rfl, Nat.le_refl _, b2, Nat.le_refl _, by simp [maxLen], by simp, fun k hk => by simp at hk⟩⟩
  have O2 : OII W2 Wa.heap.size 25 2 (some ⟨Wa.heap.size, 0, none⟩) 0 0 [] := OII.nil o2
  have hWw : w.heap.size < Wa.heap.size := b1.lt
  have hb3l := b3.lt
  obtain ⟨t0, t1, t2⟩ := ht.below y2
  have u0 : W2.cell? ⟨w.heap.size, 0, none⟩ = some (.slice none 0 0) := b12.cell 0
  have u1 := b12.frozen 0
  have x0 : W2.cell? ⟨Wa.heap.size + 1, 0, none⟩ = some (.slice (some ⟨Wa.heap.size, 0, none⟩) 0 0) := b3.cell 0
  go_upto_region 3 with fail
  rw [← HW2.out]
  by_cases h400 : N ≤ 400
  rotate_left
  · have hgt : (400 : Int) < (N : Int) := by omega
    have HF : Hid (cycFitsB d (nums ts) = false) := Lib.hid (by unfold cycFitsB; rw [HLN.out, ← HN.out]; simp; omega)
    go_wp2_with fail
    have d1 := b12.set_ 0 (.slice (some ⟨Wa.heap.size, 0, none⟩) 0 0)
    exact bodyPost_ret (v := .tuple #[.agg #[.slice (some ⟨Wa.heap.size, 0, none⟩) 0 0], .bool false]) (by simp [results, Try.results88, go_sem, d1.cell 0]) rfl ⟨.inr ⟨HF.out, _, _, _, rfl⟩, y2.setCell (Nat.le_refl _) _⟩
  have hgt : ¬ (400 : Int) < (N : Int) := by omega
  go_wp2_with fail
  clear w1 o2 t0 t1 t2 u0 u1 x0
  go_loopw [6] (fun i wr => ∃ (j : Nat) (A1 : Option Addr) (c1 : Nat) (us : List Sl), j ≤ n ∧ i = .int .i64 (j : Int) ∧ OII wr Wa.heap.size 25 2 A1 j c1 us ∧ Hid (nums us = ((nums ts).map (codesL n)).take j) ∧ Hid (∀ v ∈ (nums ts).take j, v.length * n ≤ 1000) ∧ Blk wr (Wa.heap.size + 1) 33 #[.slice A1 j c1] ∧ Below Wa.heap.size Wa wr) (fun i _ => n - (intOf i).toNat)
  case atStart => exact ⟨0, _, 0, [], by omega, rfl, O2, by simp [nums, Hid], by simp [Hid], b3, y1⟩
  case round =>
    obtain ⟨j, A1, c1, us, hj, rfl, hO, hnu, hfit, hbx, hb⟩ := hrel
    clear O2 b2 b3 b12 hb3l
    have yb : Below w.heap.size w wr := y0.trans (hb.mono y0.size)
    have b1r := b1.below' hb
    obtain ⟨t0, t1, t2⟩ := ht.below yb
    have r0 : wr.cell? ⟨w.heap.size, 0, none⟩ = some (.slice none 0 0) := b1r.cell 0
    have f0 := b1r.frozen 0
    have x0 : wr.cell? ⟨Wa.heap.size + 1, 0, none⟩ = some (.slice A1 j c1) := hbx.cell 0
    have xf := hbx.frozen 0
    by_cases hlt : j < n
    · obtain ⟨t, b, off, hT, htm, rfl, hbl, hc, hr⟩ := (hx.below yb).pick hlt
      obtain ⟨hrl, hrlet⟩ := V5.out t.xs (List.mem_map.2 ⟨t, htm, rfl⟩)
      have hlj : j < (nums ts).length := by rw [HLN.out]; exact hlt
      have hgj : (nums ts)[j]'hlj = t.xs := by
        obtain ⟨h1, h2⟩ := List.getElem?_eq_some_iff.1 hT.out
        simp [nums, h2]
      have i1 : (0 : Int) ≤ (j : Int) := by omega
      have i2 : (j : Int) < (n : Int) := by omega
      have HC := Lib.hid (l15Codes_any t.A t.xs.length t.c t.xs n wr hr (by omega) (by omega) (fun y hy => (hrlet y hy).1))
      go_wp2_with fail
      refine HC.out.mono ?_
      rintro e w3 ⟨(⟨hM1, A2, c2, rfl, o3⟩ | ⟨hM1, rfl⟩), z3⟩
      · have hbx3 := hbx.below' z3
        have hO3 := hO.below z3
        have e30 : w3.cell? ⟨Wa.heap.size + 1, 0, none⟩ = some (.slice A1 j c1) := hbx3.cell 0
        have hb3 := hb.trans (z3.mono hb.size)
        have hs3 := hb3.size
        have hs1 := hb.size
        have hs31 := z3.size
        go_wp2_with (at_builtin; refine wpList_append_Own rfl (.tmp 46) (.tmp 48) rfl elII (lo := Wa.heap.size) rfl (hO3.1.alloc _) rfl (Rd.new1 w3 _ _) (by simp [Value.oneCell']) (by omega) (by simp only [maxLen]; omega) (by simp; omega) ?_; intro A4 c4 w4 ho4 hg4 hw4; have b4 := (hbx3.alloc _).growt (hO3.1.alloc _) hg4 (by decide); have e40 : w4.cell? ⟨Wa.heap.size + 1, 0, none⟩ = some (.slice A1 j c1) := b4.cell 0; have f40 := b4.frozen 0)
        have hO4 := OII.snoc (u := ⟨A2, c2, codesL n t.xs⟩) hO (hO3.alloc _) ho4 hg4 (o3.alloc _) (Nat.le_refl _) hs1 (by decide)
        have hO5 := hO4.set_box b4 (by decide) (by decide) (.slice A4 (j + 1) c4) (i := 0)
        have hb4 := Own.below_of (hO3.1.alloc _) (hb3.alloc hb3.size _) hg4 (by simp; omega)
        have hb5 := hb4.setCell (p := ⟨Wa.heap.size + 1, 0, none⟩) (by simp) (.slice A4 (j + 1) c4)
        have hnu5 : Hid (nums (us ++ [(⟨A2, c2, codesL n t.xs⟩ : Sl)]) = ((nums ts).map (codesL n)).take (j + 1)) := Lib.hid (by
          rw [nums_append, hnu.out, List.take_succ_eq_append_getElem (by simpa using hlj), List.getElem_map, hgj])
        have hfit5 : Hid (∀ v ∈ (nums ts).take (j + 1), v.length * n ≤ 1000) := Lib.hid (by
          rw [List.take_succ_eq_append_getElem hlj, hgj]
          intro v hv
          rcases List.mem_append.1 hv with h | h
          · exact hfit.out v h
          · rw [List.mem_singleton.1 h]; exact hM1)
        exact ⟨⟨j + 1, A4, c4, _, by omega, by go_num, hO5, hnu5, hfit5, b4.set_ 0 _, hb5⟩, by simp [intOf]; omega⟩
      · have HF : Hid (cycFitsB d (nums ts) = false) := Lib.hid (by
          unfold cycFitsB
          rw [Bool.and_eq_false_iff]
          refine .inr (List.all_eq_false.2 ⟨t.xs, List.mem_map.2 ⟨t, htm, rfl⟩, ?_⟩)
          rw [HLN.out]
          simp; omega)
        have b13 := b1r.below' z3
        have hbx3 := hbx.below' z3
        have e30 : w3.cell? ⟨Wa.heap.size + 1, 0, none⟩ = some (.slice A1 j c1) := hbx3.cell 0
        have r30 : w3.cell? ⟨w.heap.size, 0, none⟩ = some (.slice none 0 0) := b13.cell 0
        have f30 := b13.frozen 0
        go_wp2_with fail
        have d1 := b13.set_ 0 (.slice A1 j c1)
        exact bodyPost_ret (v := .tuple #[.agg #[.slice A1 j c1], .bool false]) (by simp [results, Try.results88, go_sem, d1.cell 0]) rfl ⟨.inr ⟨HF.out, _, _, _, rfl⟩, (yb.trans (z3.mono yb.size)).setCell (Nat.le_refl _) _⟩
    · have hjn : j = n := by omega
      subst hjn
      have HF : Hid (cycFitsB d (nums ts) = true) := Lib.hid (by
        unfold cycFitsB
        rw [HLN.out, ← HN.out]
        simp only [Bool.and_eq_true, decide_eq_true_eq, List.all_eq_true]
        refine ⟨h400, fun v hv => hfit.out v ?_⟩
        rw [List.take_of_length_le (by rw [HLN.out]; exact Nat.le_refl _)]; exact hv)
      have hnu0 : Hid (nums us = (nums ts).map (codesL j) ++ List.replicate 0 []) := Lib.hid (by
        have h1 := hnu.out
        rw [List.take_of_length_le (by rw [List.length_map, HLN.out]; exact Nat.le_refl _)] at h1
        simpa using h1)
      have w2 := HWB.out
      have w3 := HW3.out
      go_wp2_with fail
      clear w2 w3 t0 t1 t2 r0 f0 x0 xf
      go_loopw [9] (fun i w5 => ∃ (q : Nat) (A3 : Option Addr) (c3 : Nat) (us3 : List Sl), q ≤ E' ∧ i = .int .i64 ((E' : Int) - (q : Int)) ∧ OII w5 Wa.heap.size 25 2 A3 (j + q) c3 us3 ∧ Hid (nums us3 = (nums ts).map (codesL j) ++ List.replicate q []) ∧ Blk w5 (Wa.heap.size + 1) 33 #[.slice A3 (j + q) c3] ∧ Below Wa.heap.size Wa w5) (fun i _ => (intOf i).toNat)
      case atStart => exact ⟨0, A1, c1, us, by omega, by simp, hO, hnu0, hbx, hb⟩
      case round =>
        obtain ⟨q, A3, c3, us3, hq, rfl, hO3, hnu3, hbx3, hb3⟩ := hrel
        clear hO hnu hnu0 hfit hbx hb yb b1r
        have yb3 : Below w.heap.size w wr := y0.trans (hb3.mono y0.size)
        have b1r := b1.below' hb3
        have r0 : wr.cell? ⟨w.heap.size, 0, none⟩ = some (.slice none 0 0) := b1r.cell 0
        have f0 := b1r.frozen 0
        have x0 : wr.cell? ⟨Wa.heap.size + 1, 0, none⟩ = some (.slice A3 (j + q) c3) := hbx3.cell 0
        have xf0 := hbx3.frozen 0
        have hs3 := hb3.size
        by_cases hlq : q < E'
        · have g0 : (0 : Int) < (E' : Int) - (q : Int) := by omega
          have j0 : IntKind.i64.wrap ((E' : Int) - (q : Int) - 1) = (E' : Int) - ((q + 1 : Nat) : Int) := by rw [IntWalk.i64_in _ (by omega)]; omega
          have hRd : Rd ((wr.alloc (.cells #[] 2)).alloc (.cells #[.slice (some ⟨wr.heap.size, 0, none⟩) 0 0] 25)) 1 (some ⟨wr.heap.size + 1, 0, none⟩) 1 [.slice (some ⟨wr.heap.size, 0, none⟩) 0 0] := by
            have h1 := Rd.new1 (wr.alloc (.cells #[] 2)) (.slice (some ⟨wr.heap.size, 0, none⟩) 0 0) 25
            rwa [World.size_alloc] at h1
          have o5 : Own (wr.alloc (.cells #[] 2)) wr.heap.size 2 1 (some ⟨wr.heap.size, 0, none⟩) 0 0 [] := Blk.ownE (Blk.new wr 2 #[]) (Nat.le_refl _)
          go_wp2_with (at_builtin; refine wpList_append_Own rfl (.tmp 63) (.tmp 65) rfl elII (lo := Wa.heap.size) rfl ((hO3.1.alloc _).alloc _) rfl hRd (by simp [Value.oneCell']) (by omega) (by simp only [maxLen]; omega) (by simp; omega) ?_; intro A4 c4 w4 ho4 hg4 hw4; have b4 := ((hbx3.alloc _).alloc _).growt ((hO3.1.alloc _).alloc _) hg4 (by decide); have e40 : w4.cell? ⟨Wa.heap.size + 1, 0, none⟩ = some (.slice A3 (j + q) c3) := b4.cell 0; have f40 := b4.frozen 0)
          have hO4 := OII.snoc (u := ⟨some ⟨wr.heap.size, 0, none⟩, 0, []⟩) hO3 ((hO3.alloc _).alloc _) ho4 hg4 (o5.alloc _) (Nat.le_refl _) hs3 (by decide)
          have hO5 := hO4.set_box b4 (by decide) (by decide) (.slice A4 (j + q + 1) c4) (i := 0)
          have hb4 := Own.below_of ((hO3.1.alloc _).alloc _) ((hb3.alloc hb3.size _).alloc (by simp; omega) _) hg4 (by simp; omega)
          have hb5 := hb4.setCell (p := ⟨Wa.heap.size + 1, 0, none⟩) (by simp) (.slice A4 (j + q + 1) c4)
          have hnu5 : Hid (nums (us3 ++ [(⟨some ⟨wr.heap.size, 0, none⟩, 0, []⟩ : Sl)]) = (nums ts).map (codesL j) ++ List.replicate (q + 1) []) := Lib.hid (by
            rw [nums_append, hnu3.out, List.replicate_succ', List.append_assoc])
          exact ⟨⟨q + 1, A4, c4, _, by omega, by go_num, hO5, hnu5, b4.set_ 0 _, hb5⟩, by simp [intOf]; omega⟩
        · have hqE : q = E' := by omega
          subst hqE
          have hjq : j + q = N := by have := HND.out; omega
          rw [hjq] at hO3 hbx3 x0
          have g0 : ¬ (0 : Int) < (q : Int) - (q : Int) := by omega
          go_wp2_with fail
          have d1 := b1r.set_ 0 (.slice A3 N c3)
          have hb5 := hO3.set_box b1r (by decide) (by decide) (.slice A3 N c3) (i := 0)
          exact bodyPost_ret (v := .tuple #[.agg #[.slice A3 N c3], .bool true]) (by simp [results, Try.results88, go_sem, d1.cell 0]) rfl ⟨.inl ⟨HF.out, A3, c3, us3, rfl, hb5.mono (by omega), by
            rw [hnu3.out, HE.out]; unfold cycWords; rw [HLN.out, HD.out]; rfl⟩, yb3.setCell (Nat.le_refl _) _⟩
end Go.Proofs.Ythipbeggaeogcaa

/-
  Contracts of the reference's l09Step and StepTag.
-/
namespace Go.Proofs.Ythipbeggaeogcaa
open Go.RowKit

def SpecStep (w : World) (ys : List Int) (b : Bool) (e : Ending) (w' : World) : Prop :=
  ∃ A c, e = .returned (.tuple #[.slice A ys.length c, .bool b]) ∧ Own w' w.heap.size 2 1 A ys.length c (ints ys) ∧ Below w.heap.size w w'

set_option maxRecDepth 100000 in
set_option maxHeartbeats 2000000 in
theorem l09Step_any (g : Nat) (d : Int) (A : Option Addr) (n c : Nat) (ts : List Sl) (B : Option Addr) (m k : Nat) (C : Option Addr) (l r x0 : Nat) (xs : List Int) (t : Sl) (w : World) (ht : TagAt w g d A n c B m k) (hx : SII w A n ts) (hz : SI w C l xs)
    (hl : l ≤ 1048576) (hd : 1 ≤ d) (hdl : d ≤ l) (h0 : Hid (xs.headD 0 = (x0 : Int))) (hT : Hid (ts[x0]? = some t)) (hx0 : x0 < n) (htl : t.xs.length ≤ 1040000) (hl2 : l ≤ 1000) :
    Calls Try.prog 91 #[.pointer (some ⟨g, 0, none⟩), .slice C l r] w (SpecStep w ((xs ++ t.xs).drop d.toNat) (decide ((xs ++ t.xs).length ≤ 1000))) := by
  have hgz := ht.lt
  obtain ⟨k0, k1, k2⟩ := ht
  have hl0 : 0 < l := by omega
  obtain ⟨b, off, rfl, hbl, hc⟩ := SI.at0 (xs := xs) hz hl0
  rw [h0.out] at hc
  obtain ⟨t', b', off', hT', htm, rfl, hbl', hc', hrow⟩ := hx.pick hx0
  obtain rfl : t = t' := by have h1 := hT.out; have h2 := hT'.out; rw [h1] at h2; simpa using h2
  clear hT'
  have i1 : (0 : Int) ≤ (x0 : Int) := by omega
  have i2 : (x0 : Int) < (n : Int) := by omega
  have i3 : (0 : Int) < (l : Int) := by omega
  have HXL := Lib.hid hz.len
  go_enter Try.func91, Try.ntmps91
  go_upto_region 1 with fail
  go_cut [6] (fun s6 wx => ∃ A2 c2, s6 = .slice A2 (l + t.xs.length) c2 ∧ Own wx w.heap.size 2 1 A2 (l + t.xs.length) c2 (ints (xs ++ t.xs)) ∧ Below w.heap.size w wx)
  case first =>
    go_region_held3 (fun w' => w'.cell? ⟨g, 1, none⟩ = some (.slice (some ⟨b', off', none⟩) n c) ∧ w'.cell? ⟨b, off, none⟩ = some (.int .i64 x0) ∧ w'.cell? ⟨b', off' + x0, none⟩ = some (.slice t.A t.xs.length t.c))
      (first
        | (go_keep; done)
        | (exact ⟨(hb3.cell (p := ⟨g, 1, none⟩) hgz).trans k1, (hb3.cell (p := ⟨b, off, none⟩) hbl).trans hc, (hb3.cell (p := ⟨b', off' + x0, none⟩) hbl').trans hc'⟩)
        | (exact ⟨(hb2.cell (p := ⟨g, 1, none⟩) hgz).trans k1, (hb2.cell (p := ⟨b, off, none⟩) hbl).trans hc, (hb2.cell (p := ⟨b', off' + x0, none⟩) hbl').trans hc'⟩))
      (first
        | (go_at_call 83; refine (l00Own_any _ _ _ xs _ (hz.drewN 1) hl).mono ?_; rintro e w2 ⟨A2, c2, rfl, ho2, hb2'⟩; have hb2 : Below w.heap.size w w2 := below_undrew hb2')
        | (refine step_append_Own rfl (.tmp 8) (.tmp 17) rfl elI (lo := w.heap.size) rfl (by exact ho2) rfl (by exact hrow.below (w' := w2) hb2) (ints_one t.xs) (by have := HXL.out; omega) (by have := HXL.out; simp only [maxLen]; omega) (by exact hb2.size) ?_; intro A3 c3 w3 ho3 hg3 hw3; have hb3 : Below w.heap.size w w3 := ho2.below_of hb2 hg3 hb2.size))
    go_wp2_with fail
    go_meet
    have e1 := HXL.out
    rw [e1] at ho3
    refine ⟨A3, c3, by rw [e1], ?_, hb3⟩
    rw [← ints_append]; exact ho3
  case rest =>
    obtain ⟨A2, c2, rfl, ho3, hb3⟩ := hcut
    obtain ⟨dn, rfl⟩ := Int.eq_ofNat_of_zero_le (show 0 ≤ d by omega)
    have hdn : dn ≤ l + t.xs.length := by omega
    have hcap := ho3.le
    have m0 := (hb3.cell (p := ⟨g, 0, none⟩) hgz).trans k0
    clear k0 k1 k2 hc hc'
    have ho4 := ho3.from_ hdn
    rw [ints_drop] at ho4
    have e1 : ((xs ++ t.xs).drop dn).length = l + t.xs.length - dn := by rw [List.length_drop, List.length_append, HXL.out]
    have E1 := Lib.hid e1
    clear e1
    have hA : Hid (c2 = dn → Own wc w.heap.size 2 1 A2 (l + t.xs.length - dn) (c2 - dn) (ints ((xs ++ t.xs).drop dn))) := fun h => by rw [if_pos h] at ho4; exact ho4
    have hB : Hid (¬ c2 = dn → Own wc w.heap.size 2 1 (Option.map (fun x => x.add dn) A2) (l + t.xs.length - dn) (c2 - dn) (ints ((xs ++ t.xs).drop dn))) := fun h => by rw [if_neg h] at ho4; exact ho4
    clear ho4
    have hwz : w.heap.size ≤ wc.heap.size := hb3.size
    generalize hys : (xs ++ t.xs).drop dn = ys at *
    have HYS := Lib.hid hys
    clear hys
    go_wp2_with fail
    · refine (l00Own_any _ _ _ ys _ (show SI _ _ _ _ from (hA.out (by assumption)).rd) (by omega)).mono ?_
      rintro e w4 ⟨A4, c4, rfl, ho5, hb5⟩
      go_wp2_with fail
      go_ret2
      refine ⟨A4, c4, ?_, ?_, hb3.trans (hb5.mono hwz)⟩
      · rw [Int.toNat_natCast, HYS.out, List.length_append, HXL.out]
        have : decide ((l : Int) + (t.xs.length : Int) ≤ 1000) = decide (l + t.xs.length ≤ 1000) := by rw [decide_eq_decide]; omega
        rw [← this]; rfl
      · rw [Int.toNat_natCast, HYS.out]; exact ho5.mono hwz
    · refine (l00Own_any _ _ _ ys _ (show SI _ _ _ _ from (hB.out (by assumption)).rd) (by omega)).mono ?_
      rintro e w4 ⟨A4, c4, rfl, ho5, hb5⟩
      go_wp2_with fail
      go_ret2
      refine ⟨A4, c4, ?_, ?_, hb3.trans (hb5.mono hwz)⟩
      · rw [Int.toNat_natCast, HYS.out, List.length_append, HXL.out]
        have : decide ((l : Int) + (t.xs.length : Int) ≤ 1000) = decide (l + t.xs.length ≤ 1000) := by rw [decide_eq_decide]; omega
        rw [← this]; rfl
      · rw [Int.toNat_natCast, HYS.out]; exact ho5.mono hwz

end Go.Proofs.Ythipbeggaeogcaa

/-
  The reference's l09Halts and l09Step in the words of a system.
-/
namespace Go.Proofs.Ythipbeggaeogcaa
open Go.RowKit

/-- l09Halts and l09Step in the words of a system. -/
theorem l09Halts_g {d : Int} {A B C : Option Addr} {n c m k r g : Nat} {hs xs : List Int} {w : World} (ht : TagAt w g d A n c B m k) (hy : SI w B m hs) (hz : SI w C xs.length xs) (hm : m ≤ 1048576) (hl : xs.length ≤ 1048576) (hd : 1 ≤ d) :
    Calls Try.prog 90 #[.pointer (some ⟨g, 0, none⟩), .slice C xs.length r] w fun e w' => e = .returned (.bool (haltsB d hs xs)) ∧ ∃ q, w' = w.drewN q := l09Halts_any g d A n c B m k hs C _ r xs w ht hy hz hm hl hd
theorem l09Step_g {d : Int} {A B C : Option Addr} {n c m k r g : Nat} {ts : List Sl} {hs xs : List Int} {w : World} (ht : TagAt w g d A n c B m k) (hx : SII w A n ts) (hz : SI w C xs.length xs) (hc : tagCodeF d (nums ts) hs xs = 0) (hh : haltsB d hs xs = false) :
    Calls Try.prog 91 #[.pointer (some ⟨g, 0, none⟩), .slice C xs.length r] w (SpecStep w ((tagSys d (nums ts) hs).next xs) ((tagSys d (nums ts) hs).room xs)) := by
  obtain ⟨v1, v2, v3, v4, v5, v6, v7, v8⟩ := tagCode_parts hc
  have hdl : d ≤ xs.length := haltsB_false hh
  have hnl : (nums ts).length = n := by have := hx.len; simpa [nums] using this
  obtain ⟨x0, hx0, hx0e⟩ := head_letter (xs := xs) (n := n) (by omega) (by intro x hx'; have := v5 x hx'; rw [hnl] at this; exact this)
  have hlt : x0 < ts.length := by have := hx.len; omega
  have hT : ts[x0]? = some ts[x0] := List.getElem?_eq_getElem hlt
  have hw : tagWordOf (nums ts) xs = ts[x0].xs := by unfold tagWordOf; rw [hx0e]; simp [nums, hT]
  have htl : ts[x0].xs.length ≤ 1000 := v8 _ (List.mem_map.2 ⟨ts[x0], List.getElem_mem hlt, rfl⟩)
  have := l09Step_any g d A n c ts B m k C _ r x0 xs ts[x0] w ht hx hz (by omega) v1 hdl (Lib.hid hx0e) (Lib.hid hT) hx0 (by omega) v4
  rw [← hw] at this
  exact this
end Go.Proofs.Ythipbeggaeogcaa

/-
  Contracts of the reference's l09Bits, l09IsCyclic, l09Turn, l09AskCyclic.
-/
namespace Go.Proofs.Ythipbeggaeogcaa
open Go.RowKit

theorem l09Bits_any (A : Option Addr) (n c : Nat) (xs : List Int) (w : World) (hx : SI w A n xs) (hn : n ≤ 1048576) :
    Calls Try.prog 189 #[.slice A n c] w fun e w' => e = .returned (.bool (tagWordB xs 2)) ∧ w = w' := by
  go_enter Try.func189, Try.ntmps189
  go_wp2_with (go_at_call 191; refine (l09Over_any _ _ _ xs _ _ hx (by omega) (by omega) (by omega)).mono ?_; rintro e w' ⟨rfl, rfl⟩)
  go_ret
  exact ⟨rfl, rfl⟩

/-- A cyclic tag system, a turn behind a pointer. -/
def CyclAt (w : World) (g : Nat) (A : Option Addr) (n c : Nat) : Prop := w.cell? ⟨g, 0, none⟩ = some (.slice A n c)
def TurnAt (w : World) (g : Nat) (a : Int) (C : Option Addr) (l r : Nat) : Prop := w.cell? ⟨g, 0, none⟩ = some (.int .i64 a) ∧ w.cell? ⟨g, 1, none⟩ = some (.slice C l r)
theorem CyclAt.lt {w : World} {g : Nat} {A : Option Addr} {n c : Nat} (h : CyclAt w g A n c) : g < w.heap.size := World.block_lt_of_cell? w _ h
theorem TurnAt.lt {w : World} {g : Nat} {a : Int} {C : Option Addr} {l r : Nat} (h : TurnAt w g a C l r) : g < w.heap.size := World.block_lt_of_cell? w _ h.1
theorem CyclAt.below {w w' : World} {g : Nat} {A : Option Addr} {n c : Nat} (h : CyclAt w g A n c) (z : Below w.heap.size w w') : CyclAt w' g A n c := (z.cell (p := ⟨g, 0, none⟩) h.lt).trans h
theorem TurnAt.below {w w' : World} {g : Nat} {a : Int} {C : Option Addr} {l r : Nat} (h : TurnAt w g a C l r) (z : Below w.heap.size w w') : TurnAt w' g a C l r := ⟨(z.cell (p := ⟨g, 0, none⟩) h.lt).trans h.1, (z.cell (p := ⟨g, 1, none⟩) h.lt).trans h.2⟩

set_option maxHeartbeats 1000000 in
theorem l09IsCyclic_any (g : Nat) (A : Option Addr) (n c : Nat) (ts : List Sl) (w : World) (ht : CyclAt w g A n c) (hx : SII w A n ts) (hn : n ≤ 1048576) (hns : ∀ t ∈ ts, t.xs.length ≤ 1048576) :
    Calls Try.prog 144 #[.pointer (some ⟨g, 0, none⟩)] w fun e w' => e = .returned (.bool (validCyclB (nums ts))) ∧ w = w' := by
  have c0 : w.cell? ⟨g, 0, none⟩ = some (.slice A n c) := ht
  have HL : Hid ((nums ts).length = n) := by show _ = _; have := hx.len; simpa [nums] using this
  go_enter Try.func144, Try.ntmps144
  go_wp2_with fail
  go_loop [3] (fun i => ∃ j : Nat, j ≤ n ∧ i = .int .i64 j ∧ Hid (wordsB ((nums ts).take j) 2 = true)) (fun i => n - (intOf i).toNat)
  case atStart => exact ⟨0, by omega, rfl, rfl⟩
  case round =>
    obtain ⟨j, hj, rfl, he⟩ := hrel
    by_cases hlt : j < n
    · obtain ⟨t, b, off, hT, htm, rfl, _, hc, hr⟩ := hx.pick hlt
      have hrl := hns t htm
      cases hw : tagWordB t.xs 2 with
      | false =>
        have HW := Lib.hid hw
        have HV := Lib.hid (words_not (letters := 2) hT.out (by rw [hw]; rfl))
        clear hw
        go_wp2_with (go_at_call 189; refine (l09Bits_any _ _ _ t.xs _ hr hrl).mono ?_; rw [HW.out]; rintro e w' ⟨rfl, rfl⟩)
        go_ret
        exact ⟨ret_bool (by unfold validCyclB; rw [HV.out]; simp), rfl⟩
      | true =>
        have HW := Lib.hid hw
        have HV := Lib.hid (words_next (letters := 2) hT.out (by rw [hw]; rfl) he.out)
        clear hw
        go_wp2_with (go_at_call 189; refine (l09Bits_any _ _ _ t.xs _ hr hrl).mono ?_; rw [HW.out]; rintro e w' ⟨rfl, rfl⟩)
        exact ⟨⟨j + 1, by omega, by go_num, HV.out⟩, by simp [intOf]; omega⟩
    · have HV : Hid (wordsB (nums ts) 2 = true) := Lib.hid (by have := he.out; rwa [List.take_of_length_le (by rw [HL.out]; omega)] at this)
      by_cases h0 : 0 < n
      · have i0 : decide ((0 : Int) < (n : Int)) = true := by simp; omega
        go_wp2_with fail
        go_ret
        exact ⟨ret_bool (by unfold validCyclB inB; rw [HL.out, HV.out]; simp; omega), rfl⟩
      · have i0 : decide ((0 : Int) < (n : Int)) = false := by simp; omega
        go_wp2_with fail
        go_ret
        exact ⟨ret_bool (by unfold validCyclB inB; rw [HL.out, HV.out]; simp; omega), rfl⟩

set_option maxRecDepth 100000 in
set_option maxHeartbeats 1000000 in
theorem l09Turn_any (g f : Nat) (A : Option Addr) (n c : Nat) (a : Int) (C : Option Addr) (l r : Nat) (xs : List Int) (w : World) (ht : CyclAt w g A n c) (hf : TurnAt w f a C l r) (hz : SI w C l xs) (hn : n ≤ 1048576) (hl : l ≤ 1048576) :
    Calls Try.prog 145 #[.pointer (some ⟨g, 0, none⟩), .pointer (some ⟨f, 0, none⟩)] w fun e w' => e = .returned (.bool (inB a 0 ((n : Int) - 1) && tagWordB xs 2)) ∧ ∃ q, w' = w.drewN q := by
  have c0 : w.cell? ⟨g, 0, none⟩ = some (.slice A n c) := ht
  obtain ⟨c1, c2⟩ := hf
  cases a1 : inB a 0 ((n : Int) - 1) with
  | false =>
    have A1 := Lib.hid a1
    clear a1
    go_enter Try.func145, Try.ntmps145
    go_wp2_with fail
    go_quiet ((go_at_call 82; exact quiet_left (l00In_is A1.out _)))
    go_wp2_with fail
    go_ret
    exact ⟨rfl, _, rfl⟩
  | true =>
    have A1 := Lib.hid a1
    clear a1
    go_enter Try.func145, Try.ntmps145
    go_wp2_with fail
    go_quiet ((first
      | (go_at_call 82; exact quiet_left (l00In_is A1.out _))
      | (go_at_call 189; exact quiet_left (l09Bits_any _ _ _ xs _ (hz.drewN _) hl))))
    go_wp2_with fail
    go_ret
    exact ⟨rfl, _, rfl⟩

set_option maxHeartbeats 1000000 in
theorem l09AskCyclic_any (g f : Nat) (A : Option Addr) (n c : Nat) (ts : List Sl) (a : Int) (C : Option Addr) (l r : Nat) (xs : List Int) (w : World) (ht : CyclAt w g A n c) (hf : TurnAt w f a C l r) (hx : SII w A n ts) (hz : SI w C l xs) (hn : n ≤ 1048576) (hl : l ≤ 1048576) (hns : ∀ t ∈ ts, t.xs.length ≤ 1048576) :
    Calls Try.prog 72 #[.pointer (some ⟨g, 0, none⟩), .pointer (some ⟨f, 0, none⟩)] w fun e w' => e = .returned (.int .i64 (if validTurnB (nums ts) ⟨a, xs⟩ = true then 0 else 1)) ∧ ∃ q, w' = w.drewN q := by
  have HL : Hid (((nums ts).length : Int) = n) := by show _ = _; have := hx.len; simp [nums]; omega
  have e0 : validTurnB (nums ts) ⟨a, xs⟩ = (validCyclB (nums ts) && (inB a 0 ((n : Int) - 1) && tagWordB xs 2)) := by unfold validTurnB; rw [HL.out, Bool.and_assoc]
  rw [e0]
  clear e0
  cases h1 : validCyclB (nums ts) with
  | false =>
    have H1 := Lib.hid h1
    clear h1
    go_enter Try.func72, Try.ntmps72
    go_wp2_with (go_at_call 144; refine (l09IsCyclic_any _ _ _ _ ts _ ht hx hn hns).mono ?_; rw [H1.out]; rintro e w' ⟨rfl, rfl⟩)
    go_ret
    exact ⟨by simp, 0, rfl⟩
  | true =>
    have H1 := Lib.hid h1
    clear h1
    generalize hv : (inB a 0 ((n : Int) - 1) && tagWordB xs 2) = v
    have HV := Lib.hid hv
    clear hv
    cases v
    all_goals
      go_enter Try.func72, Try.ntmps72
      go_wp2_with (first
        | (go_at_call 144; refine (l09IsCyclic_any _ _ _ _ ts _ ht hx hn hns).mono ?_; rw [H1.out]; rintro e w' ⟨rfl, rfl⟩)
        | (go_at_call 145; refine (l09Turn_any _ _ _ _ _ _ _ _ _ xs _ ht hf hz hn hl).mono ?_; rw [HV.out]; rintro e w' ⟨rfl, q, rfl⟩))
      go_ret
      exact ⟨by simp, _, rfl⟩
end Go.Proofs.Ythipbeggaeogcaa
