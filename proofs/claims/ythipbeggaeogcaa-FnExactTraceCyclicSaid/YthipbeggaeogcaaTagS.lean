/-
  Contracts of the reference's tag systems: l09Over, l09Is, l09Good, l09Ask, l09Halts.
-/
import Derived.Test.YthipbeggaeogcaaL00
namespace Go.Proofs.Ythipbeggaeogcaa
open Go.RowKit

/-- A tag system behind a pointer. -/
def TagAt (w : World) (g : Nat) (d : Int) (A : Option Addr) (n c : Nat) (B : Option Addr) (m k : Nat) : Prop :=
  w.cell? ⟨g, 0, none⟩ = some (.int .i64 d) ∧ w.cell? ⟨g, 1, none⟩ = some (.slice A n c) ∧ w.cell? ⟨g, 2, none⟩ = some (.slice B m k)
theorem TagAt.lt {w : World} {g : Nat} {d : Int} {A : Option Addr} {n c : Nat} {B : Option Addr} {m k : Nat} (h : TagAt w g d A n c B m k) : g < w.heap.size := World.block_lt_of_cell? w _ h.1
theorem TagAt.below {w w' : World} {g : Nat} {d : Int} {A : Option Addr} {n c : Nat} {B : Option Addr} {m k : Nat} (h : TagAt w g d A n c B m k) (hb : Below w.heap.size w w') : TagAt w' g d A n c B m k :=
  ⟨(hb.cell (p := ⟨g, 0, none⟩) h.lt).trans h.1, (hb.cell (p := ⟨g, 1, none⟩) h.lt).trans h.2.1, (hb.cell (p := ⟨g, 2, none⟩) h.lt).trans h.2.2⟩
theorem TagAt.drewN {w : World} {g : Nat} {d : Int} {A : Option Addr} {n c : Nat} {B : Option Addr} {m k : Nat} (h : TagAt w g d A n c B m k) (q : Nat) : TagAt (w.drewN q) g d A n c B m k := h

theorem over_at {xs : List Int} {letters : Int} {k n : Nat} (hk : k < n) (hl : xs.length = n) (h : (!inB (xs[k]'(by omega)) 0 (letters - 1)) = true) : false = tagWordB xs letters := by
  have := allIn_at hk hl h
  unfold tagWordB; rw [← this]; simp
theorem over_end {xs : List Int} {letters : Int} {k n : Nat} (hk : n ≤ k) (hl : xs.length = n) (he : allIn (xs.take k) 0 (letters - 1) = true) : decide ((n : Int) ≤ 1000) = tagWordB xs letters := by
  have := allIn_end hk hl he
  unfold tagWordB; rw [← this, hl]; simp; omega

set_option maxHeartbeats 400000 in
theorem l09Over_any (A : Option Addr) (n c : Nat) (xs : List Int) (letters : Int) (w : World) (hx : SI w A n xs) (hn : n ≤ 9223372036854775807) (h1 : 0 ≤ letters) (h2 : letters ≤ 9223372036854775807) :
    Calls Try.prog 191 #[.slice A n c, .int .i64 letters] w fun e w' => e = .returned (.bool (tagWordB xs letters)) ∧ w = w' := by
  go_enter Try.func191, Try.ntmps191
  go_wp2
  go_loop [5] (fun i => ∃ k : Nat, k ≤ n ∧ i = .int .i64 k ∧ Hid (allIn (xs.take k) 0 (letters - 1) = true)) (fun i => n - (intOf i).toNat)
  case atStart => exact ⟨0, by omega, rfl, rfl⟩
  case round =>
    obtain ⟨k, hk, rfl, he⟩ := hrel
    by_cases hlt : k < n
    · obtain ⟨b, off, rfl, _, hc⟩ := hx.at_ hlt
      go_wp2_with (go_at_call 82; refine (l00In_any _ _ _ _).mono ?_; rintro e w' ⟨rfl, rfl⟩)
      · go_ret
        exact ⟨ret_bool (over_at hlt hx.len (by assumption)), rfl⟩
      · exact ⟨⟨k + 1, by omega, by go_num, allIn_next hlt hx.len (by assumption) he.out⟩, by simp [intOf]; omega⟩
    · go_wp2
      go_ret
      exact ⟨ret_bool (over_end (by omega) hx.len he.out), rfl⟩

theorem l09Good_any (g : Nat) (d : Int) (A : Option Addr) (n c : Nat) (B : Option Addr) (m k : Nat) (C : Option Addr) (l r : Nat) (xs : List Int) (w : World) (ht : TagAt w g d A n c B m k) (hx : SI w C l xs) (hl : l ≤ 9223372036854775807) (hn : n ≤ 9223372036854775807) :
    Calls Try.prog 149 #[.pointer (some ⟨g, 0, none⟩), .slice C l r] w fun e w' => e = .returned (.bool (tagWordB xs n)) ∧ w = w' := by
  obtain ⟨c0, c1, c2⟩ := ht
  go_enter Try.func149, Try.ntmps149
  go_wp2_with (go_at_call 191; refine (l09Over_any _ _ _ xs _ _ hx hl (by omega) (by omega)).mono ?_; rintro e w' ⟨rfl, rfl⟩)
  go_ret
  exact ⟨rfl, rfl⟩

theorem words_not {ts : List Sl} {t : Sl} {k : Nat} {letters : Int} (hT : ts[k]? = some t) (h : (!tagWordB t.xs letters) = true) : wordsB (nums ts) letters = false := by
  unfold wordsB; rw [List.all_eq_false]
  exact ⟨t.xs, by simp only [nums, List.mem_map]; exact ⟨t, List.mem_of_getElem? hT, rfl⟩, by simpa using h⟩
theorem words_next {ts : List Sl} {t : Sl} {k : Nat} {letters : Int} (hT : ts[k]? = some t) (h : (!tagWordB t.xs letters) = false) (he : wordsB ((nums ts).take k) letters = true) : wordsB ((nums ts).take (k + 1)) letters = true := by
  obtain ⟨hk, rfl⟩ := List.getElem?_eq_some_iff.1 hT
  unfold wordsB at he ⊢
  rw [List.take_succ_eq_append_getElem (by simpa [nums] using hk), List.all_append, he]
  simpa [nums] using h
theorem valid_of {b : Bool} {d : Int} {words : List (List Int)} {hs : List Int} {n : Nat} (hn : words.length = n) (h1 : inB d 1 4 = true) (h2 : inB n 1 200 = true) (h3 : risesInB hs 0 ((n : Int) - 1) = true) (h4 : wordsB words n = b) : b = validTagB d words hs := by
  unfold risesInB at h3
  simp only [Bool.and_eq_true] at h3
  unfold validTagB
  rw [hn, h1, h2, h4, h3.1, h3.2]; simp

set_option maxHeartbeats 1000000 in
theorem l09Is_any (g : Nat) (d : Int) (A : Option Addr) (n c : Nat) (ts : List Sl) (B : Option Addr) (m k : Nat) (hs : List Int) (w : World) (ht : TagAt w g d A n c B m k) (hx : SII w A n ts) (hy : SI w B m hs) (hn : n ≤ 1048576) (hm : m ≤ 1048576) (hns : ∀ t ∈ ts, t.xs.length ≤ 9223372036854775807) :
    Calls Try.prog 148 #[.pointer (some ⟨g, 0, none⟩)] w fun e w' => e = .returned (.bool (validTagB d (nums ts) hs)) ∧ ∃ q, w' = w.drewN q := by
  obtain ⟨c0, c1, c2⟩ := ht
  have HL : Hid ((nums ts).length = n) := by show _ = _; have := hx.len; simpa [nums] using this
  cases hq : risesInB hs 0 ((n : Int) - 1)
  · have HQ := Lib.hid hq
    clear hq
    go_enter Try.func148, Try.ntmps148
    go_wp2_with (first
      | (go_at_call 82; refine (l00In_any _ _ _ _).mono ?_; rintro e w' ⟨rfl, rfl⟩)
      | (go_at_call 190; refine (l00Rises_is HQ.out _ _ _ _ hy (by omega)).mono ?_; rintro e w' ⟨rfl, q, rfl⟩))
    all_goals go_ret
    · exact ⟨ret_bool (by unfold validTagB; simp [*]), 0, rfl⟩
    · exact ⟨ret_bool (by unfold validTagB; rw [HL.out]; simp [*]), 0, rfl⟩
    · refine ⟨ret_bool ?_, _, rfl⟩
      have a3 := HQ.out
      unfold risesInB at a3
      unfold validTagB; rw [HL.out]
      simp only [Bool.and_eq_false_iff] at a3
      rcases a3 with a3 | a3 <;> simp [a3]
  have HQ := Lib.hid hq
  clear hq
  go_enter Try.func148, Try.ntmps148
  go_wp2_with (first
    | (go_at_call 82; refine (l00In_any _ _ _ _).mono ?_; rintro e w' ⟨rfl, rfl⟩)
    | (go_at_call 190; refine (l00Rises_is HQ.out _ _ _ _ hy (by omega)).mono ?_; rintro e w' ⟨rfl, q, rfl⟩))
  · go_ret
    exact ⟨ret_bool (by unfold validTagB; simp [*]), 0, rfl⟩
  · go_ret
    exact ⟨ret_bool (by unfold validTagB; rw [HL.out]; simp [*]), 0, rfl⟩
  · have a1 : inB d 1 4 = true := by assumption
    have a2 : inB n 1 200 = true := by assumption
    have A1 := Lib.hid a1
    have A2 := Lib.hid a2
    have A3 := HQ
    clear a1 a2
    go_loop [4] (fun i => ∃ j : Nat, j ≤ n ∧ i = .int .i64 j ∧ Hid (wordsB ((nums ts).take j) n = true)) (fun i => n - (intOf i).toNat)
    case atStart => exact ⟨0, by omega, rfl, rfl⟩
    case round =>
      obtain ⟨j, hj, rfl, he⟩ := hrel
      by_cases hlt : j < n
      · obtain ⟨t, b, off, hT, htm, rfl, _, hc, hr⟩ := hx.pick hlt
        have hrl := hns t htm
        go_wp2_with (go_at_call 191; refine (l09Over_any _ _ _ t.xs _ _ (hr.drewN _) hrl (by omega) (by omega)).mono ?_; rintro e w' ⟨rfl, rfl⟩)
        · go_ret
          exact ⟨ret_bool (valid_of HL.out A1.out A2.out A3.out (words_not hT.out (by assumption))), _, rfl⟩
        · exact ⟨⟨j + 1, by omega, by go_num, words_next hT.out (by assumption) he.out⟩, by simp [intOf]; omega⟩
      · go_wp2_with fail
        go_ret
        refine ⟨ret_bool (valid_of HL.out A1.out A2.out A3.out ?_), _, rfl⟩
        have := he.out
        rw [List.take_of_length_le (by rw [HL.out]; omega)] at this
        exact this

set_option maxHeartbeats 400000 in
theorem l09Ask_any (g : Nat) (d : Int) (A : Option Addr) (n c : Nat) (ts : List Sl) (B : Option Addr) (m k : Nat) (hs : List Int) (C : Option Addr) (l r : Nat) (xs : List Int) (w : World) (ht : TagAt w g d A n c B m k) (hx : SII w A n ts) (hy : SI w B m hs) (hz : SI w C l xs) (hn : n ≤ 1048576) (hm : m ≤ 1048576) (hl : l ≤ 1048576) (hns : ∀ t ∈ ts, t.xs.length ≤ 9223372036854775807) :
    Calls Try.prog 87 #[.pointer (some ⟨g, 0, none⟩), .slice C l r] w fun e w' => e = .returned (.int .i64 (tagCodeF d (nums ts) hs xs)) ∧ ∃ q, w' = w.drewN q := by
  have HL : Hid ((nums ts).length = n) := by show _ = _; have := hx.len; simpa [nums] using this
  go_enter Try.func87, Try.ntmps87
  go_wp2_with (first
    | (go_at_call 148; refine (l09Is_any _ _ _ _ _ ts _ _ _ hs _ ht hx hy hn hm hns).mono ?_; rintro e w' ⟨rfl, q, rfl⟩)
    | (go_at_call 149; refine (l09Good_any _ _ _ _ _ _ _ _ _ _ _ xs _ (ht.drewN _) (hz.drewN _) (by omega) (by omega)).mono ?_; rintro e w' ⟨rfl, rfl⟩))
  all_goals go_ret
  · exact ⟨ret_int (by unfold tagCodeF; simp [*]), _, rfl⟩
  · exact ⟨ret_int (by unfold tagCodeF; rw [HL.out]; simp_all), _, rfl⟩
  · exact ⟨ret_int (by unfold tagCodeF; rw [HL.out]; simp_all), _, rfl⟩

set_option maxHeartbeats 400000 in
theorem l09Halts_any (g : Nat) (d : Int) (A : Option Addr) (n c : Nat) (B : Option Addr) (m k : Nat) (hs : List Int) (C : Option Addr) (l r : Nat) (xs : List Int) (w : World) (ht : TagAt w g d A n c B m k) (hy : SI w B m hs) (hz : SI w C l xs) (hm : m ≤ 1048576) (hl : l ≤ 1048576) (hd : 1 ≤ d) :
    Calls Try.prog 90 #[.pointer (some ⟨g, 0, none⟩), .slice C l r] w fun e w' => e = .returned (.bool (haltsB d hs xs)) ∧ ∃ q, w' = w.drewN q := by
  obtain ⟨c0, c1, c2⟩ := ht
  have HL := Lib.hid hz.len
  by_cases hld : (l : Int) < d
  · have hdec : decide ((l : Int) < d) = true := by simpa using hld
    go_enter Try.func90, Try.ntmps90
    go_wp2_with fail
    go_quiet (fail)
    go_wp2_with fail
    go_ret
    exact ⟨ret_bool (by unfold haltsB; rw [HL.out]; simp [hld]), _, rfl⟩
  · have hl0 : 0 < l := by omega
    have hdec : decide ((l : Int) < d) = false := by simpa using hld
    have i1 : (0 : Int) < (l : Int) := by omega
    obtain ⟨b, off, rfl, _, hc⟩ := hz.at0 hl0
    go_enter Try.func90, Try.ntmps90
    go_wp2_with fail
    go_quiet ((go_at_call 150; exact quiet_left (l00Has_any _ _ _ hs _ _ (hy.drewN _) (by omega))))
    go_wp2_with fail
    go_ret
    exact ⟨ret_bool (by unfold haltsB hasB; rw [HL.out]; simp; omega), _, rfl⟩
end Go.Proofs.Ythipbeggaeogcaa
