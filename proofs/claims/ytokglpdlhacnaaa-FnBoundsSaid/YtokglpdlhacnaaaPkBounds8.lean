/-
  Contracts of slices.Grow (from nil), slices.Concat, impl.joined; slices.Index, Contains, Max over []int64.
-/
import Derived.Test.YtokglpdlhacnaaaPkBounds1
import Derived.Test.YtokglpdlhacnaaaPkBounds7
import Derived.Lib.AppendZeros
import Derived.Lib.MinMax
namespace Go.Proofs.Ytokglpdlhacnaaa
open Go.RowKit

/-- An empty slice with room, in new memory. -/
def Room (w : World) (e : Ending) (w' : World) : Prop := ∃ A c, e = .returned (.slice A 0 c) ∧ Own w' w.heap.size 2 1 A 0 c [] ∧ Below w.heap.size w w'

theorem zeroCells_size (z : Array Value) (n : Nat) : (Builtin.zeroCells z n).size = n * z.size := by simp [Builtin.zeroCells]

set_option maxRecDepth 100000 in
set_option maxHeartbeats 1000000 in
theorem growI_any (n : Nat) (w : World) (hn : n ≤ 1048576) : Calls Try.prog 149 #[.slice none 0 0, .int .i64 (n : Int)] w (Room w) := by
  rcases Nat.eq_zero_or_pos n with h | h
  · subst h
    go_enter Try.func149, Try.ntmps149
    go_wp2_with fail
    go_ret
    exact ⟨none, 0, rfl, Own.nil, Below.refl _ _⟩
  · obtain ⟨i, hi, hz, hs, hb⟩ := info_parts elI.info
    have hlaw := Lib.run_append_nil_zeros (P := Try.prog) w 27 3 27 2 i _ .i64 .i64 Try.underlying27 Try.underlying3 hi hz n h (by omega) (by omega) (by rw [hb]; omega)
    have hc1 := grownCap_ge w n 0 2
    have hc2 := grownCap_le_maxLen w n 0 2 (by simp only [maxLen]; omega)
    generalize grownCap w n 0 2 = c at *
    have o1 : Own (w.drew.alloc (.cells (Builtin.zeroCells (Value.int .i64 0).cells n ++ Builtin.zeroCells (Value.int .i64 0).cells (c - n)) 2)) w.heap.size 2 1 (some ⟨w.heap.size, 0, none⟩) 0 c [] := by
      refine ⟨rfl, .inr ⟨w.heap.size, 0, _, rfl, Nat.le_refl _, heap_alloc_new w.drew _, Nat.zero_le _, hc2, ?_, fun k hk => by simp at hk⟩⟩
      simp only [Array.size_append, zeroCells_size]
      have : (Value.int .i64 0).cells.size = 1 := rfl
      rw [this]; omega
    have z1 : Below w.heap.size w (w.drew.alloc (.cells (Builtin.zeroCells (Value.int .i64 0).cells n ++ Builtin.zeroCells (Value.int .i64 0).cells (c - n)) 2)) := (below_drewN (Below.refl _ _) 1).alloc (Nat.le_refl _) _
    generalize w.drew.alloc (.cells (Builtin.zeroCells (Value.int .i64 0).cells n ++ Builtin.zeroCells (Value.int .i64 0).cells (c - n)) 2) = W at *
    have HLAW := Lib.hid hlaw
    clear hlaw hi hz hs hb
    go_enter Try.func149, Try.ntmps149
    go_wp2_with (at_builtin; go_loud (refine Lib.wpList_append_run _ rfl (.tmp 20) (.tmp 21) _ _ rfl _ _ rfl rfl _ _ HLAW.out ?_))
    go_ret
    exact ⟨_, c, rfl, o1, z1⟩

/-- The first k rows, one behind the other. -/
def catTo (ts : List Sl) (k : Nat) : List Int := (ts.take k).flatMap Sl.xs
theorem catTo_zero (ts : List Sl) : catTo ts 0 = [] := by simp [catTo]
theorem catTo_next {ts : List Sl} {t : Sl} {k : Nat} (h : ts[k]? = some t) : catTo ts (k + 1) = catTo ts k ++ t.xs := by
  obtain ⟨hk, rfl⟩ := List.getElem?_eq_some_iff.1 h
  unfold catTo
  rw [List.take_succ_eq_append_getElem hk, List.flatMap_append]
  simp
theorem catTo_end {ts : List Sl} {k : Nat} (h : ts.length ≤ k) : catTo ts k = ts.flatMap Sl.xs := by unfold catTo; rw [List.take_of_length_le h]
theorem catTo_le (ts : List Sl) (k : Nat) : (catTo ts k).length ≤ (ts.flatMap Sl.xs).length := by
  have : ts.flatMap Sl.xs = catTo ts k ++ (ts.drop k).flatMap Sl.xs := by
    unfold catTo
    rw [← List.flatMap_append, List.take_append_drop]
  rw [this, List.length_append]; omega

set_option maxHeartbeats 4000000 in
theorem concatI_any (B : Option Addr) (m c : Nat) (ts : List Sl) (w : World) (hx : SII w B m ts) (hm : m ≤ 1048576) (ht : (ts.flatMap Sl.xs).length ≤ 1048576) :
    Calls Try.prog 133 #[.slice B m c] w (NewI w (ts.flatMap Sl.xs)) := by
  have HLE := Lib.hid (fun k => Nat.le_trans (catTo_le ts k) ht)
  have HEND : Hid (ts.flatMap Sl.xs = catTo ts m) := Lib.hid (catTo_end (by rw [hx.len]; exact Nat.le_refl _)).symm
  clear ht
  go_enter Try.func133, Try.ntmps133
  go_wp2_with fail
  go_loop [3, 11] (fun s i => ∃ k : Nat, k ≤ m ∧ i = .int .i64 (k : Int) ∧ s = .int .i64 ((catTo ts k).length : Int)) (fun _ i => m - (intOf i).toNat)
  case atStart => exact ⟨0, Nat.zero_le _, rfl, by simp [catTo_zero]⟩
  case round =>
    obtain ⟨k, hk, rfl, rfl⟩ := hrel
    by_cases hlt : k < m
    · obtain ⟨t, bb, off, HT, htm, rfl, hbl, e0, hrow⟩ := hx.pick hlt
      have HN : Hid ((catTo ts (k + 1)).length = (catTo ts k).length + t.xs.length) := Lib.hid (by rw [catTo_next HT.out]; simp)
      have hle := HLE.out (k + 1)
      rw [HN.out] at hle
      have i1 : (0 : Int) ≤ (k : Int) := by omega
      have i2 : (k : Int) < (m : Int) := by omega
      have i3 : ¬ (((catTo ts k).length : Int) + (t.xs.length : Int) < 0) := by omega
      clear hrow htm
      go_wp2_with fail
      go_round
      case rel => exact ⟨k + 1, by omega, by go_num, by rw [HN.out]; go_num⟩
      case measure => simp [intOf]; omega
    · obtain rfl : k = m := by omega
      have hle := HLE.out k
      have HEND' : Hid ((catTo ts k).length = (ts.flatMap Sl.xs).length) := Lib.hid (by rw [HEND.out])
      go_wp2_with fail
      refine (growI_any (catTo ts k).length w hle).mono ?_
      rintro e W1 ⟨A1, c1, rfl, o1, z1⟩
      go_wp2_with fail
      go_loopw [6, 27] (fun v i wr => ∃ (j : Nat) (D : Option Addr) (cd : Nat), j ≤ k ∧ i = .int .i64 (j : Int) ∧ v = .slice D (catTo ts j).length cd ∧ Own wr w.heap.size 2 1 D (catTo ts j).length cd (ints (catTo ts j)) ∧ Below w.heap.size w wr) (fun _ i _ => k - (intOf i).toNat)
      case atStart => exact ⟨0, A1, c1, Nat.zero_le _, rfl, by simp [catTo_zero], by rw [catTo_zero]; exact o1, z1⟩
      case round =>
        obtain ⟨j, D, cd, hj, rfl, rfl, ho, hz⟩ := hrel
        clear o1 z1
        by_cases hjl : j < k
        · obtain ⟨t, bb, off, HT, htm, rfl, hbl, e0, hrow⟩ := (hx.below hz).pick hjl
          have HN := Lib.hid (catTo_next HT.out)
          have hle2 : (catTo ts j).length + t.xs.length ≤ 1048576 := by have := HLE.out (j + 1); rw [HN.out, List.length_append] at this; exact this
          have i1 : (0 : Int) ≤ (j : Int) := by omega
          have i2 : (j : Int) < (k : Int) := by omega
          go_wp2_with (at_builtin; refine wpList_append_Own rfl (.tmp 31) (.tmp 32) rfl elI (lo := w.heap.size) rfl ho rfl hrow (ints_one t.xs) (by omega) (by simp only [maxLen]; omega) hz.size ?_; intro A2 c2 w2 ho2 hg2 _)
          have hz2 := ho.below_of hz hg2 hz.size
          have ho3 : Own w2 w.heap.size 2 1 A2 (catTo ts (j + 1)).length c2 (ints (catTo ts (j + 1))) := by
            rw [HN.out, List.length_append]
            have e : ints (catTo ts j ++ t.xs) = ints (catTo ts j) ++ ints t.xs := by simp [ints]
            rw [e]; exact ho2
          have HL : Hid ((catTo ts j).length + t.xs.length = (catTo ts (j + 1)).length) := Lib.hid (by rw [HN.out, List.length_append])
          clear ho2
          go_wp2_with fail
          go_roundw
          case rel => exact ⟨j + 1, A2, c2, by omega, by go_num, by rw [← HL.out], ho3, hz2⟩
          case measure => simp [intOf]; omega
        · obtain rfl : j = k := by omega
          go_wp2_with fail
          go_ret
          rw [HEND.out]
          exact ⟨D, cd, rfl, ho, hz⟩

theorem joinedI_any (B : Option Addr) (m c : Nat) (ts : List Sl) (w : World) (hx : SII w B m ts) (hm : m ≤ 1048576) (ht : (ts.flatMap Sl.xs).length ≤ 1048576) :
    Calls Try.prog 96 #[.slice B m c] w (NewI w (ts.flatMap Sl.xs)) := by
  have HC := Lib.hid (concatI_any B m c ts w hx hm ht)
  clear hx ht
  generalize ts.flatMap Sl.xs = ys at *
  go_enter Try.func96, Try.ntmps96
  go_wp2_with fail
  refine HC.out.mono ?_
  rintro e W1 ⟨A1, c1, rfl, o1, z1⟩
  go_wp2_with fail
  go_ret
  exact ⟨A1, c1, rfl, o1, z1⟩

/-- Where a number stands first, or -1. -/
def idxI (xs : List Int) (v : Int) : Int := if v ∈ xs then ((xs.idxOf v : Nat) : Int) else -1
theorem idxI_at {xs : List Int} {v : Int} {k : Nat} (hk : xs[k]? = some v) (h : v ∉ xs.take k) : idxI xs v = (k : Int) := by
  obtain ⟨hl, he⟩ := List.getElem?_eq_some_iff.1 hk
  have hm : v ∈ xs := List.mem_of_getElem? hk
  unfold idxI
  rw [if_pos hm]
  have e : xs = xs.take k ++ v :: xs.drop (k + 1) := by rw [← he, ← List.drop_eq_getElem_cons hl, List.take_append_drop]
  have h2 : xs.idxOf v = k := by
    rw [e, List.idxOf_append, if_neg h]
    simp
    omega
  rw [h2]
theorem idxI_no {xs : List Int} {v : Int} (h : v ∉ xs) : idxI xs v = -1 := by unfold idxI; rw [if_neg h]
theorem idxI_ge {xs : List Int} {v : Int} : decide (0 ≤ idxI xs v) = decide (v ∈ xs) := by
  unfold idxI
  by_cases h : v ∈ xs
  · rw [if_pos h]; simp [h]
  · rw [if_neg h]; simp [h]

set_option maxHeartbeats 1000000 in
theorem indexI_any (A : Option Addr) (n c : Nat) (xs : List Int) (v : Int) (w : World) (hx : SI w A n xs) (hn : n ≤ 1048576) :
    Calls Try.prog 97 #[.slice A n c, .int .i64 v] w fun e w' => e = .returned (.int .i64 (idxI xs v)) ∧ w = w' := by
  have HL := Lib.hid hx.len
  go_enter Try.func97, Try.ntmps97
  go_wp2_with fail
  go_loop [8] (fun i => ∃ k : Nat, k ≤ n ∧ i = .int .i64 (k : Int) ∧ Hid (v ∉ xs.take k)) (fun i => n - (intOf i).toNat)
  case atStart => exact ⟨0, Nat.zero_le _, rfl, Lib.hid (by simp)⟩
  case round =>
    obtain ⟨k, hk, rfl, hno⟩ := hrel
    by_cases hlt : k < n
    · obtain ⟨b, off, rfl, _, hc⟩ := hx.at_ hlt
      have HX : Hid (xs[k]? = some (xs[k]'(by rw [HL.out]; exact hlt))) := Lib.hid (List.getElem?_eq_getElem _)
      generalize xs[k]'(by rw [HL.out]; exact hlt) = x at *
      have i1 : (0 : Int) ≤ (k : Int) := by omega
      have i2 : (k : Int) < (n : Int) := by omega
      by_cases hv : v = x
      · subst hv
        have HI := Lib.hid (idxI_at HX.out hno.out)
        go_wp2_with fail
        go_ret
        exact ⟨ret_int HI.out.symm, rfl⟩
      · have HNO : Hid (v ∉ xs.take (k + 1)) := Lib.hid (by
          obtain ⟨hl, he⟩ := List.getElem?_eq_some_iff.1 HX.out
          rw [List.take_succ_eq_append_getElem hl, he]
          intro h
          rcases List.mem_append.1 h with h | h
          · exact hno.out h
          · simp at h; exact hv h)
        go_wp2_with fail
        go_round
        case rel => exact ⟨k + 1, by omega, by go_num, HNO⟩
        case measure => simp [intOf]; omega
    · have HI := Lib.hid (idxI_no (xs := xs) (v := v) (by have := hno.out; rwa [List.take_of_length_le (by rw [HL.out]; omega)] at this))
      go_wp2_with fail
      go_ret
      exact ⟨ret_int HI.out.symm, rfl⟩

theorem containsI_any (A : Option Addr) (n c : Nat) (xs : List Int) (v : Int) (w : World) (hx : SI w A n xs) (hn : n ≤ 1048576) :
    Calls Try.prog 45 #[.slice A n c, .int .i64 v] w fun e w' => e = .returned (.bool (decide (v ∈ xs))) ∧ w = w' := by
  have HG := Lib.hid (idxI_ge (xs := xs) (v := v))
  go_enter Try.func45, Try.ntmps45
  go_wp2_with (go_at_call 97; refine (indexI_any _ _ _ _ _ _ hx hn).mono ?_; rintro e w' ⟨rfl, rfl⟩)
  go_ret
  exact ⟨ret_bool (by rw [← HG.out]), rfl⟩

/-- What slices.Max says. -/
def maxI : List Int → Int
  | [] => 0
  | x :: r => r.foldl max x
theorem maxI_take {xs : List Int} {x : Int} {k : Nat} (h0 : 0 < k) (h : xs[k]? = some x) : maxI (xs.take (k + 1)) = max (maxI (xs.take k)) x := by
  obtain ⟨hl, he⟩ := List.getElem?_eq_some_iff.1 h
  rw [List.take_succ_eq_append_getElem hl, he]
  cases hx : xs.take k with
  | nil =>
    have h2 : (xs.take k).length = 0 := by rw [hx]; rfl
    rw [List.length_take] at h2
    omega
  | cons y r => simp [maxI]

set_option maxHeartbeats 1000000 in
theorem maxI_any (A : Option Addr) (n c : Nat) (xs : List Int) (w : World) (hx : SI w A n xs) (hn : n ≤ 1048576) (h0 : 0 < n) :
    Calls Try.prog 46 #[.slice A n c] w fun e w' => e = .returned (.int .i64 (maxI xs)) ∧ w = w' := by
  have HL := Lib.hid hx.len
  obtain ⟨b, off, rfl, _, hc0⟩ := hx.at_ h0
  have HX0 : Hid (xs[0]'(by rw [HL.out]; exact h0) = maxI (xs.take 1)) := Lib.hid (by
    have := HL.out
    cases xs with
    | nil => simp at this; omega
    | cons y r => simp [maxI])
  rw [HX0.out, Nat.add_zero] at hc0
  have i1 : ¬ ((n : Int) < 1) := by omega
  have i2 : (0 : Int) < (n : Int) := by omega
  go_enter Try.func46, Try.ntmps46
  go_wp2_with fail
  clear hc0
  go_loop [3, 4] (fun s i => ∃ k : Nat, 1 ≤ k ∧ k ≤ n ∧ i = .int .i64 (k : Int) ∧ s = .int .i64 (maxI (xs.take k))) (fun _ i => n - (intOf i).toNat)
  case atStart => exact ⟨1, Nat.le_refl _, h0, rfl, rfl⟩
  case round =>
    obtain ⟨k, hk1, hk, rfl, rfl⟩ := hrel
    by_cases hlt : k < n
    · obtain ⟨b, off, he, _, hc⟩ := hx.at_ hlt
      cases he
      have HX : Hid (xs[k]? = some (xs[k]'(by rw [HL.out]; exact hlt))) := Lib.hid (List.getElem?_eq_getElem _)
      generalize xs[k]'(by rw [HL.out]; exact hlt) = x at *
      have HM := Lib.hid (maxI_take (by omega) HX.out)
      have i3 : (0 : Int) ≤ (k : Int) := by omega
      have i4 : (k : Int) < (n : Int) := by omega
      go_wp2_with fail
      go_round
      case rel => exact ⟨k + 1, by omega, by omega, by go_num, by rw [HM.out]⟩
      case measure => simp [intOf]; omega
    · have HE : Hid (xs.take k = xs) := Lib.hid (List.take_of_length_le (by rw [HL.out]; omega))
      go_wp2_with fail
      go_ret
      exact ⟨ret_int (by rw [HE.out]), rfl⟩
end Go.Proofs.Ytokglpdlhacnaaa

/-
  Contracts of impl.PowerOf (small numbers) and impl.wordsOver.
-/
namespace Go.Proofs.Ytokglpdlhacnaaa
open Go.RowKit

theorem pow_le5 {L n : Nat} (hL : L ≤ 5) (hn : n ≤ 8) : L ^ n ≤ 390625 :=
  Nat.le_trans (Nat.pow_le_pow_left hL n) (Nat.le_trans (Nat.pow_le_pow_right (by omega) hn) (by decide))

def pwr (L n : Nat) : Nat := L ^ n
set_option maxHeartbeats 2000000 in
theorem powerOf_any (L n : Nat) (w : World) (h1 : 1 ≤ L) (h5 : L ≤ 5) (hn : n ≤ 8) :
    Calls Try.prog 43 #[.int .i64 (L : Int), .int .i64 (n : Int)] w fun e w' => e = .returned (.tuple #[.int .i64 (pwr L n : Int), .int .i64 0]) ∧ w = w' := by
  have a1 : inB (L : Int) 0 1000000000000 = true := (inB_iff _ _ _).2 (by omega)
  have a2 : inB (n : Int) 0 64 = true := (inB_iff _ _ _).2 (by omega)
  have HP : Hid (∀ j, j ≤ n → pwr L j ≤ 390625) := Lib.hid (fun j hj => pow_le5 (L := L) (n := j) h5 (by omega))
  have HS : Hid (∀ j, pwr L (j + 1) = pwr L j * L) := Lib.hid (fun j => Nat.pow_succ (n := L) (m := j))
  have A1 := Lib.hid a1
  have A2 := Lib.hid a2
  clear a1 a2
  go_enter Try.func43, Try.ntmps43
  go_wp2_with (first
    | (go_at_call_of 42 (Value.int .i64 (L : Int)); refine (within_is A1.out _).mono ?_; rintro e w' ⟨rfl, rfl⟩)
    | (go_at_call_of 42 (Value.int .i64 (n : Int)); refine (within_is A2.out _).mono ?_; rintro e w' ⟨rfl, rfl⟩))
  go_loop [1, 6] (fun q s => ∃ j : Nat, j ≤ n ∧ q = .int .i64 ((n : Int) - (j : Int)) ∧ s = .int .i64 (pwr L j : Int)) (fun q _ => (intOf q).toNat)
  case atStart => exact ⟨0, Nat.zero_le _, by simp, by simp [pwr]⟩
  case round =>
    obtain ⟨j, hj, rfl, rfl⟩ := hrel
    have hp := HP.out j hj
    by_cases hlt : j < n
    · have hs := HS.out j
      have hp2 := HP.out (j + 1) hlt
      have i1 : decide ((0 : Int) < (n : Int) - (j : Int)) = true := by simp; omega
      have HN : Hid ((pwr L (j + 1) : Int) = (pwr L j : Int) * (L : Int)) := Lib.hid (by rw [hs]; simp)
      have hmul : (pwr L j : Int) * (L : Int) ≤ 390625 := by rw [← HN.out]; omega
      have hmul0 : 0 ≤ (pwr L j : Int) * (L : Int) := by rw [← HN.out]; omega
      clear hs hp2
      generalize pwr L j = p at *
      have hl : L = 1 ∨ L = 2 ∨ L = 3 ∨ L = 4 ∨ L = 5 := by omega
      rcases hl with rfl | rfl | rfl | rfl | rfl
      all_goals
        go_wp2_with fail
        go_round
        case rel => exact ⟨j + 1, by omega, by go_num, by rw [HN.out]; go_num⟩
        case measure => simp [intOf]; omega
    · obtain rfl : j = n := by omega
      have i1 : decide ((0 : Int) < (j : Int) - (j : Int)) = false := by simp
      go_wp2_with fail
      exact bodyPost_ret (v := .tuple #[.int .i64 (pwr L j : Int), .int .i64 0]) (by simp [results, Try.results43, go_sem]) rfl ⟨rfl, rfl⟩

/-- A new slice of slices of numbers. -/
def NewW (w : World) (M : List (List Int)) (e : Ending) (w' : World) : Prop :=
  ∃ A c us, e = .returned (.slice A us.length c) ∧ OII w' w.heap.size 27 2 A us.length c us ∧ nums us = M ∧ Below w.heap.size w w'

/-- The words of the next length, up to a place in the two loops. -/
def nextTo (L : Nat) (ws : List (List Int)) (t q : Nat) (x : List Int) : List (List Int) := (ws.take t).flatMap (fun w => (List.range L).map (fun l : Nat => w ++ [(l : Int)])) ++ (List.range q).map (fun l : Nat => x ++ [(l : Int)])
theorem nextTo_zero (L : Nat) (ws : List (List Int)) (x : List Int) : nextTo L ws 0 0 x = [] := by simp [nextTo]
theorem nextTo_any (L : Nat) (ws : List (List Int)) (t : Nat) (x x' : List Int) : nextTo L ws t 0 x = nextTo L ws t 0 x' := by simp [nextTo]
theorem nextTo_step (L : Nat) (ws : List (List Int)) (t q : Nat) (x : List Int) : nextTo L ws t (q + 1) x = nextTo L ws t q x ++ [x ++ [(q : Int)]] := by simp [nextTo, List.range_succ]
theorem nextTo_row {L : Nat} {ws : List (List Int)} {t : Nat} {x : List Int} (h : ws[t]? = some x) : nextTo L ws t L x = nextTo L ws (t + 1) 0 [] := by
  obtain ⟨hl, rfl⟩ := List.getElem?_eq_some_iff.1 h
  unfold nextTo
  rw [List.take_succ_eq_append_getElem hl, List.flatMap_append]
  simp
theorem nextTo_end {L n : Nat} {t : Nat} (h : (wordsL L n).length ≤ t) : nextTo L (wordsL L n) t 0 [] = wordsL L (n + 1) := by
  unfold nextTo
  rw [List.take_of_length_le h]
  simp [wordsL]
theorem nextTo_len {L n t q : Nat} {x : List Int} (ht : t < (wordsL L n).length) (hq : q ≤ L) (h : L ^ (n + 1) ≤ 256) : (nextTo L (wordsL L n) t q x).length ≤ 256 := by
  have key : ∀ l : List (List Int), (l.flatMap (fun w => (List.range L).map (fun l : Nat => w ++ [(l : Int)]))).length = l.length * L := by
    intro l
    induction l with
    | nil => simp
    | cons x r ih => rw [List.flatMap_cons, List.length_append, ih, List.length_cons, Nat.succ_mul]; simp; omega
  unfold nextTo
  rw [List.length_append, key, List.length_take]
  rw [wordsL_len] at ht ⊢
  have h1 : (t + 1) * L ≤ L ^ n * L := Nat.mul_le_mul_right _ ht
  have e : L ^ n * L = L ^ (n + 1) := (Nat.pow_succ L n).symm
  rw [e, Nat.succ_mul] at h1
  have h2 : min t (L ^ n) = t := by omega
  rw [h2, List.length_map, List.length_range]
  omega
theorem Blk.own {w : World} {g : Nat} {t : TypeId} {cs : Array Value} {n s lo : Nat} (h : Blk w g t cs) (hs : cs.size = n * s) (hn : n ≤ maxLen) (hlo : lo ≤ g) : Own w lo t s (some ⟨g, 0, none⟩) n n cs.toList := by
  refine ⟨by simpa using hs, .inr ⟨g, 0, cs, rfl, hlo, h, Nat.le_refl _, hn, by omega, fun k hk => ?_⟩⟩
  simp at hk
  simp [hk]
theorem wordsL_row {L n k : Nat} {x : List Int} (h : (wordsL L n)[k]? = some x) : x.length = n := (mem_wordsL.1 (List.mem_of_getElem? h)).1

set_option maxRecDepth 100000 in
set_option maxHeartbeats 8000000 in
theorem wordsOver_any (L n : Nat) (w : World) (h1 : 1 ≤ L) (h5 : L ≤ 5) (hn : n ≤ 8) (hp : L ^ n ≤ 256) :
    Calls Try.prog 44 #[.int .i64 (L : Int), .int .i64 (n : Int)] w (NewW w (wordsL L n)) := by
  have HPJ : Hid (∀ j, j ≤ n → L ^ j ≤ 256) := Lib.hid (fun j hj => Nat.le_trans (Nat.pow_le_pow_right (n := L) h1 hj) hp)
  clear hp
  obtain ⟨W, hW_⟩ : ∃ W, W = (w.alloc (.cells #[] 2)).alloc (.cells #[.slice (some ⟨w.heap.size, 0, none⟩) 0 0] 27) := ⟨_, rfl⟩
  have s_1 : (w.alloc (.cells #[] 2)).heap.size = w.heap.size + 1 := by simp
  have b0 : Blk W w.heap.size 2 #[] := by rw [hW_]; exact (Blk.new w _ _).alloc _
  have b1 : Blk W (w.heap.size + 1) 27 #[.slice (some ⟨w.heap.size, 0, none⟩) 0 0] := by rw [hW_, ← s_1]; exact Blk.new _ _ _
  have y0 : Below w.heap.size w W := by rw [hW_]; exact ((Below.refl _ _).alloc (Nat.le_refl _) _).alloc (by simp) _
  have HW := Lib.hid hW_
  clear hW_ s_1
  have o0 : OII W w.heap.size 27 2 (some ⟨w.heap.size + 1, 0, none⟩) 1 1 [⟨some ⟨w.heap.size, 0, none⟩, 0, []⟩] :=
    OII.one (Blk.own (n := 1) (s := 1) b1 rfl (by simp [maxLen]) (by omega)) (Blk.own (n := 0) (s := 1) b0 rfl (by simp [maxLen]) (by omega))
  go_enter Try.func44, Try.ntmps44
  go_upto_region 2 with fail
  rw [← HW.out]
  clear HW b0 b1
  go_wp2_with fail
  go_loopw [5, 13] (fun v i wr => ∃ (j : Nat) (D : Option Addr) (c : Nat) (us : List Sl), j ≤ n ∧ i = .int .i64 (j : Int) ∧ v = .slice D us.length c ∧ OII wr w.heap.size 27 2 D us.length c us ∧ Hid (nums us = wordsL L j) ∧ Below w.heap.size w wr) (fun _ i _ => n - (intOf i).toNat)
  case atStart => exact ⟨0, _, 1, _, Nat.zero_le _, rfl, rfl, o0, rfl, y0⟩
  case round =>
    obtain ⟨j, D, c, us, hj, rfl, rfl, hU, hnu, hy⟩ := hrel
    rename World => W0
    clear o0 y0
    have hul : us.length = (wordsL L j).length := by rw [← hnu.out]; simp [nums]
    have HUL := Lib.hid hul
    have hu256 : us.length ≤ 256 := by rw [hul, wordsL_len]; exact HPJ.out j hj
    clear hul
    by_cases hlt : j < n
    · have HP1 := Lib.hid (HPJ.out (j + 1) hlt)
      obtain ⟨W1, hW_⟩ : ∃ W_, W_ = W0.alloc (.cells #[] 27) := ⟨_, rfl⟩
      have b1 : Blk W1 W0.heap.size 27 #[] := by rw [hW_]; exact Blk.new W0 _ _
      have z1 : Below W0.heap.size W0 W1 := by rw [hW_]; exact (Below.refl _ _).alloc (Nat.le_refl _) _
      have HW1 := Lib.hid hW_
      clear hW_
      have o1 : OII W1 W0.heap.size 27 2 (some ⟨W0.heap.size, 0, none⟩) 0 0 [] := OII.nil (Blk.own (n := 0) (s := 1) b1 rfl (by simp [maxLen]) (Nat.le_refl _))
      go_upto_region 5 with fail
      rw [← HW1.out]
      clear HW1 b1
      go_wp2_with fail
      go_loopw [6, 18] (fun v i wr => ∃ (t : Nat) (E : Option Addr) (d : Nat) (vs : List Sl), t ≤ us.length ∧ i = .int .i64 (t : Int) ∧ v = .slice E vs.length d ∧ OII wr W0.heap.size 27 2 E vs.length d vs ∧ Hid (nums vs = nextTo L (wordsL L j) t 0 []) ∧ Below W0.heap.size W0 wr) (fun _ i _ => us.length - (intOf i).toNat)
      case atStart => exact ⟨0, _, 0, [], Nat.zero_le _, rfl, rfl, o1, Lib.hid (by rw [nextTo_zero]; rfl), z1⟩
      case round =>
        obtain ⟨t, E, d, vs, ht, rfl, rfl, hV, hnv, hz⟩ := hrel
        clear o1 z1
        by_cases htl : t < us.length
        · obtain ⟨u, bb, off, HT, htm, rfl, hbl, e0, _⟩ := (hU.sii.below hz).pick htl
          have HX : Hid ((wordsL L j)[t]? = some u.xs) := Lib.hid (by rw [← hnu.out]; simp [nums, HT.out])
          have hux : u.xs.length = j := wordsL_row HX.out
          have HROW : Hid (SI W0 u.A u.xs.length u.xs) := Lib.hid (hU.sii.2 u htm)
          have HUX := Lib.hid hux
          have i1 : (0 : Int) ≤ (t : Int) := by omega
          have i2 : (t : Int) < (us.length : Int) := by omega
          clear htm hux
          go_wp2_with fail
          clear e0
          go_loopw [6, 23] (fun v i wr => ∃ (q : Nat) (F : Option Addr) (e : Nat) (vs : List Sl), q ≤ L ∧ i = .int .i64 (q : Int) ∧ v = .slice F vs.length e ∧ OII wr W0.heap.size 27 2 F vs.length e vs ∧ Hid (nums vs = nextTo L (wordsL L j) t q u.xs) ∧ Below W0.heap.size W0 wr) (fun _ i _ => L - (intOf i).toNat)
          case atStart => exact ⟨0, E, d, vs, Nat.zero_le _, rfl, rfl, hV, Lib.hid (by rw [hnv.out, nextTo_any]), hz⟩
          case round =>
            clear hV hnv hz
            obtain ⟨q, F, e, vs, hq, rfl, rfl, hV, hnv, hz⟩ := hrel
            by_cases hql : q < L
            · have hvl : vs.length ≤ 256 := by
                have e1 : vs.length = (nums vs).length := by simp [nums]
                rw [e1, hnv.out]
                exact nextTo_len (by rw [← HUL.out]; exact htl) hq HP1.out
              obtain ⟨y, hyy⟩ : ∃ y, y = u.xs ++ [(q : Int)] := ⟨_, rfl⟩
              have HST : Hid (nextTo L (wordsL L j) t (q + 1) u.xs = nextTo L (wordsL L j) t q u.xs ++ [y]) := Lib.hid (by rw [nextTo_step, hyy])
              have hyl : y.length = j + 1 := by rw [hyy, List.length_append, HUX.out]; rfl
              have HYL := Lib.hid hyl
              obtain ⟨W3, hW_⟩ : ∃ W, W = (wr.alloc (.cells #[.int .i64 (q : Int)] 2)).alloc (.cells #[.slice u.A u.xs.length u.c, .slice (some ⟨wr.heap.size, 0, none⟩) 1 1] 27) := ⟨_, rfl⟩
              have s_1 : (wr.alloc (.cells #[.int .i64 (q : Int)] 2)).heap.size = wr.heap.size + 1 := by simp
              have e0 : Blk W3 wr.heap.size 2 #[.int .i64 (q : Int)] := by rw [hW_]; exact (Blk.new wr _ _).alloc _
              have e1 : Blk W3 (wr.heap.size + 1) 27 #[.slice u.A u.xs.length u.c, .slice (some ⟨wr.heap.size, 0, none⟩) 1 1] := by rw [hW_, ← s_1]; exact Blk.new _ _ _
              have y3 : Below wr.heap.size wr W3 := by rw [hW_]; exact ((Below.refl _ _).alloc (Nat.le_refl _) _).alloc (by simp) _
              have HW3 := Lib.hid hW_
              clear hW_ s_1
              have hz3 := hz.trans (y3.mono hz.size)
              have hV3 := hV.below y3
              have hS : SII W3 (some ⟨wr.heap.size + 1, 0, none⟩) 2 [u, ⟨some ⟨wr.heap.size, 0, none⟩, 1, [(q : Int)]⟩] := by
                refine ⟨(Blk.own (n := 2) (s := 1) (lo := 0) e1 rfl (by simp [maxLen]) (by omega)).rd, fun x hx => ?_⟩
                simp only [List.mem_cons, List.not_mem_nil, or_false] at hx
                rcases hx with rfl | rfl
                · exact HROW.out.below hz3
                · exact (Blk.own (n := 1) (s := 1) (lo := 0) e0 rfl (by simp [maxLen]) (by omega)).rd
              have HF : Hid ([u, ⟨some ⟨wr.heap.size, 0, none⟩, 1, [(q : Int)]⟩].flatMap Sl.xs = y) := Lib.hid (by rw [hyy]; simp)
              have hfl : ([u, ⟨some ⟨wr.heap.size, 0, none⟩, 1, [(q : Int)]⟩].flatMap Sl.xs).length ≤ 1048576 := by rw [HF.out, hyl]; omega
              have HFL := Lib.hid hfl
              clear hyy hyl hfl
              go_wp2_with fail
              rw [← HW3.out]
              refine (joinedI_any _ _ _ _ _ hS (by omega) HFL.out).mono ?_
              rw [HF.out]
              rintro e' W4 ⟨A4, c4, rfl, o4, z4⟩
              have hz4 := hz3.trans (z4.mono hz3.size)
              have hV4 := hV3.below z4
              clear HW3 HFL HF hS e0 e1
              go_wp2_with (at_builtin; refine wpList_append_Own rfl (.tmp 26) (.tmp 32) rfl elII (lo := W0.heap.size) rfl (hV4.alloc _).1 rfl (Rd.new1 W4 (.slice A4 y.length c4) _) (by simp [Value.oneCell']) (by omega) (by simp only [maxLen]; omega) (by have := hz4.size; simp; omega) ?_; intro A5 c5 W5 o5 hg5 hw5)
              have hV5 : OII W5 W0.heap.size 27 2 A5 (vs ++ ([⟨A4, c4, y⟩] : List Sl)).length c5 (vs ++ ([⟨A4, c4, y⟩] : List Sl)) := by
                rw [List.length_append]
                exact OII.snoc (wa := W3) hV3 (hV4.alloc _) o5 hg5 (o4.alloc _) (Nat.le_refl _) hz3.size (by decide)
              have hz5 : Below W0.heap.size W0 W5 := Own.below_of (hV4.alloc _).1 (hz4.alloc hz4.size _) hg5 (by have := hz4.size; simp; omega)
              have HNV : Hid (nums (vs ++ ([⟨A4, c4, y⟩] : List Sl)) = nextTo L (wordsL L j) t (q + 1) u.xs) := Lib.hid (by rw [HST.out, nums_append, hnv.out])
              have HLL : Hid (vs.length + 1 = (vs ++ ([⟨A4, c4, y⟩] : List Sl)).length) := Lib.hid (by rw [List.length_append]; rfl)
              go_wp2_with fail
              go_roundw
              case rel => exact ⟨q + 1, A5, c5, vs ++ ([⟨A4, c4, y⟩] : List Sl), by omega, by go_num, by rw [← HLL.out], hV5, HNV, hz5⟩
              case measure => simp [intOf]; omega
            · obtain rfl : q = L := by omega
              have HR : Hid (nums vs = nextTo q (wordsL q j) (t + 1) 0 []) := Lib.hid (by rw [hnv.out, nextTo_row HX.out])
              go_wp2_with fail
              go_roundw
              case rel => exact ⟨t + 1, F, e, vs, by omega, by go_num, rfl, hV, HR, hz⟩
              case measure => simp [intOf]; omega
        · have HE : Hid (nums vs = wordsL L (j + 1)) := Lib.hid (by rw [hnv.out, nextTo_end (by rw [← HUL.out]; omega)])
          have hy2 := hy.trans (hz.mono hy.size)
          go_wp2_with fail
          go_roundw
          case rel => exact ⟨j + 1, E, d, vs, by omega, by go_num, rfl, hV.mono hy.size, HE, hy2⟩
          case measure => simp [intOf]; omega
    · obtain rfl : j = n := by omega
      go_wp2_with fail
      go_ret
      exact ⟨D, c, us, rfl, hU, hnu.out, hy⟩
end Go.Proofs.Ytokglpdlhacnaaa

/-
  Contract of impl.WorstTimes.
-/
namespace Go.Proofs.Ytokglpdlhacnaaa
open Go.RowKit

theorem OII.setRow {w w' : World} {lo n c k : Nat} {e2 e1 : TypeId} {A : Option Addr} {ts : List Sl} {t : Sl} (xs : List Int) (h : OII w lo e2 e1 A n c ts) (hT : ts[k]? = some t) (hl : xs.length = t.xs.length) (ho : Own w' lo e1 1 t.A t.xs.length t.c (ints xs)) (hf : ∀ b, blk t.A ≠ some b → w'.heap[b]? = w.heap[b]?) (hne : e1 ≠ e2) : OII w' lo e2 e1 A n c (ts.set k ⟨t.A, t.c, xs⟩) := by
  obtain ⟨hk, he⟩ := List.getElem?_eq_some_iff.1 hT
  have hm : t ∈ ts := List.mem_of_getElem? hT
  refine ⟨?_, fun u hu => ?_, ?_⟩
  · have e : (ts.set k ⟨t.A, t.c, xs⟩).map Sl.val = ts.map Sl.val := by
      apply List.ext_getElem?
      intro i
      rw [List.getElem?_map, List.getElem?_map]
      by_cases hi : i = k
      · subst hi
        rw [List.getElem?_set_self hk, hT]
        simp [Sl.val, hl]
      · rw [List.getElem?_set_ne (by omega)]
    rw [e]
    exact h.1.kept (fun b hb _ _ => hf b (fun hb' => Own.blk_ne h.1 (h.2.1 t hm) (fun e => hne e.symm) b hb hb'))
  · obtain ⟨i, hi⟩ := List.getElem?_of_mem hu
    by_cases hik : i = k
    · subst hik
      rw [List.getElem?_set_self hk] at hi
      cases hi
      show Own w' lo e1 1 t.A xs.length t.c (ints xs)
      rw [hl]; exact ho
    · rw [List.getElem?_set_ne (by omega)] at hi
      have hu' : u ∈ ts := List.mem_of_getElem? hi
      exact Own.kept (h.2.1 u hu') (fun b hb _ _ => hf b (fun hb' => apt_of h.2.2 hi hT hik b hb hb'))
  · rw [List.pairwise_iff_getElem]
    intro i j hi hj hij
    rw [List.length_set] at hi hj
    have hp := List.pairwise_iff_getElem.1 h.2.2 i j hi hj hij
    have key : ∀ (i : Nat) (hi : i < ts.length), ((ts.set k ⟨t.A, t.c, xs⟩)[i]'(by rw [List.length_set]; exact hi)).A = ts[i].A := by
      intro i hi
      by_cases hik : i = k
      · subst hik; rw [List.getElem_set_self, ← he]
      · rw [List.getElem_set_ne (by omega)]
    intro b hb hb'
    rw [key i hi] at hb
    rw [key j hj] at hb'
    exact hp b hb hb'

theorem set_same {α : Type} {l : List α} {t : Nat} {x : α} (h : l[t]? = some x) : l.set t x = l := by
  obtain ⟨hl, rfl⟩ := List.getElem?_eq_some_iff.1 h
  exact List.set_getElem_self _
theorem nums_set (vs : List Sl) (t : Nat) (s : Sl) : nums (vs.set t s) = (nums vs).set t s.xs := by
  unfold nums
  exact List.map_set
theorem intsAt {l : List Int} {p : Nat} {v : Int} (h : l[p]? = some v) : (ints l)[p]? = some (.int .i64 v) := by simp [ints, h]
theorem intsSet (l : List Int) (p : Nat) (v : Int) : (ints l).set p (.int .i64 v) = ints (l.set p v) := by
  unfold ints
  exact List.map_set.symm
theorem maxI_worst {l : List Int} (hne : l ≠ []) (h : l.any (fun x => decide (x < 0)) = false) : maxI l = worstL l := by
  rw [← maxL_worst hne h]
  cases l <;> rfl
theorem wordsL_up {L n : Nat} {x : List Int} (h : x ∈ (wordsL L n).map upW) : x.length = n ∧ ∀ y ∈ x, 1 ≤ y ∧ y ≤ (L : Int) := mem_up.1 h

set_option maxRecDepth 100000 in
set_option maxHeartbeats 16000000 in
theorem worstI_any (sy st : Int) (A : Option Addr) (n k : Nat) (rs : List R3) (l m b : Int) (w : World) (hr : S3 w A n rs) (hn : n ≤ 1048576) :
    Calls Try.prog 10 #[.agg #[.int .i64 sy, .int .i64 st, .slice A n k], .int .i64 l, .int .i64 m, .int .i64 b] w (NewI2 w (worstF sy st rs l m b)) := by
  obtain ⟨W, hW_⟩ : ∃ W, W = w.alloc (.cells #[.int .i64 sy, .int .i64 st, .slice A n k] 26) := ⟨_, rfl⟩
  have b0 : Blk W w.heap.size 26 #[.int .i64 sy, .int .i64 st, .slice A n k] := by rw [hW_]; exact Blk.new w _ _
  have y0 : Below w.heap.size w W := by rw [hW_]; exact (Below.refl _ _).alloc (Nat.le_refl _) _
  have HW := Lib.hid hW_
  clear hW_
  have q0 : W.cell? ⟨w.heap.size, 0, none⟩ = some (.int .i64 sy) := b0.cell 0
  have q1 : W.cell? ⟨w.heap.size, 1, none⟩ = some (.int .i64 st) := b0.cell 1
  have q2 : W.cell? ⟨w.heap.size, 2, none⟩ = some (.slice A n k) := b0.cell 2
  go_enter Try.func10, Try.ntmps10
  go_wp2_with fail
  rw [← HW.out]
  refine (validMachine_any _ _ _ _ _ rs _ (hr.below y0) hn).mono ?_
  rintro e W1 ⟨rfl, z1⟩
  have y1 := y0.trans (z1.mono y0.size)
  have c0 := b0.below' z1
  clear q0 q1 q2
  have q0 : W1.cell? ⟨w.heap.size, 0, none⟩ = some (.int .i64 sy) := c0.cell 0
  have q1 : W1.cell? ⟨w.heap.size, 1, none⟩ = some (.int .i64 st) := c0.cell 1
  have q2 : W1.cell? ⟨w.heap.size, 2, none⟩ = some (.slice A n k) := c0.cell 2
  cases a0 : machB sy st rs
  · have HF : Hid (worstF sy st rs l m b = ([], 1)) := Lib.hid (by unfold worstF; rw [a0]; rfl)
    clear a0
    go_wp2_with fail
    exact bodyPost_ret (v := .tuple #[.slice none 0 0, .int .i64 1]) (by simp [results, Try.results10, go_sem]) rfl (newI2_nil HF.out y1)
  have A0 := Lib.hid a0
  obtain ⟨k1, k2, k3, k4, _, _⟩ := machB_parts a0
  clear a0
  have hwr : IntKind.i64.wrap (sy - 1) = sy - 1 := IntWalk.i64_in _ (by omega)
  cases a1 : inB b 1 20000
  · have HF : Hid (worstF sy st rs l m b = ([], 2)) := Lib.hid (by unfold worstF; rw [A0.out, a1]; rfl)
    have A1 := Lib.hid a1
    clear a1
    go_wp2_with (go_at_call 41; refine (budgetOk_is A1.out _).mono ?_; rintro e w' ⟨rfl, rfl⟩)
    exact bodyPost_ret (v := .tuple #[.slice none 0 0, .int .i64 2]) (by simp [results, Try.results10, go_sem]) rfl (newI2_nil HF.out y1)
  have A1 := Lib.hid a1
  have hb := (inB_iff _ _ _).1 a1
  clear a1
  cases a2 : inB l 1 (sy - 1)
  · have HF : Hid (worstF sy st rs l m b = ([], 2)) := Lib.hid (by unfold worstF; rw [A0.out, A1.out, a2]; rfl)
    have A2 := Lib.hid a2
    clear a2
    go_wp2_with (first | (go_at_call 41; refine (budgetOk_is A1.out _).mono ?_; rintro e w' ⟨rfl, rfl⟩) | (go_at_call 42; refine (within_is A2.out _).mono ?_; rintro e w' ⟨rfl, rfl⟩))
    exact bodyPost_ret (v := .tuple #[.slice none 0 0, .int .i64 2]) (by simp [results, Try.results10, go_sem]) rfl (newI2_nil HF.out y1)
  have A2 := Lib.hid a2
  have hl := (inB_iff _ _ _).1 a2
  clear a2
  cases a3 : inB m 0 8
  · have HF : Hid (worstF sy st rs l m b = ([], 2)) := Lib.hid (by unfold worstF; rw [A0.out, A1.out, A2.out, a3]; rfl)
    have A3 := Lib.hid a3
    clear a3
    go_wp2_with (first | (go_at_call 41; refine (budgetOk_is A1.out _).mono ?_; rintro e w' ⟨rfl, rfl⟩) | (go_at_call_of 42 (Value.int .i64 l); refine (within_is A2.out _).mono ?_; rintro e w' ⟨rfl, rfl⟩) | (go_at_call_of 42 (Value.int .i64 m); refine (within_is A3.out _).mono ?_; rintro e w' ⟨rfl, rfl⟩))
    exact bodyPost_ret (v := .tuple #[.slice none 0 0, .int .i64 2]) (by simp [results, Try.results10, go_sem]) rfl (newI2_nil HF.out y1)
  have A3 := Lib.hid a3
  have hm8 := (inB_iff _ _ _).1 a3
  clear a3
  obtain ⟨L, rfl⟩ : ∃ L : Nat, l = (L : Int) := ⟨l.toNat, by omega⟩
  obtain ⟨M, rfl⟩ : ∃ M : Nat, m = (M : Int) := ⟨m.toNat, by omega⟩
  obtain ⟨N, rfl⟩ : ∃ N : Nat, b = (N : Int) := ⟨b.toNat, by omega⟩
  have HPW := Lib.hid (powerOf_any L M W1 (by omega) (by omega) (by omega))
  by_cases h256 : pwr L M ≤ 256
  rotate_left
  · have HF : Hid (worstF sy st rs (L : Int) (M : Int) (N : Int) = ([], 2)) := Lib.hid (by
      unfold worstF
      rw [A0.out, A1.out, A2.out, A3.out, Int.toNat_natCast, Int.toNat_natCast]
      have h : ¬ L ^ M ≤ 256 := h256
      simp [h])
    have i1 : (256 : Int) < (pwr L M : Int) := by omega
    go_wp2_with (first | (go_at_call 41; refine (budgetOk_is A1.out _).mono ?_; rintro e w' ⟨rfl, rfl⟩) | (go_at_call_of 42 (Value.int .i64 (L : Int)); refine (within_is A2.out _).mono ?_; rintro e w' ⟨rfl, rfl⟩) | (go_at_call_of 42 (Value.int .i64 (M : Int)); refine (within_is A3.out _).mono ?_; rintro e w' ⟨rfl, rfl⟩) | (go_at_call 43; refine HPW.out.mono ?_; rintro e w' ⟨rfl, rfl⟩))
    exact bodyPost_ret (v := .tuple #[.slice none 0 0, .int .i64 2]) (by simp [results, Try.results10, go_sem]) rfl (newI2_nil HF.out y1)
  have HF : Hid (worstF sy st rs (L : Int) (M : Int) (N : Int) = if okTo2 (timeF sy st rs N) L (M + 1) then (worstTo (timeF sy st rs N) L (M + 1), 0) else ([], 5)) := Lib.hid (by
    unfold worstF
    rw [A0.out, A1.out, A2.out, A3.out, Int.toNat_natCast, Int.toNat_natCast, Int.toNat_natCast]
    have h : L ^ M ≤ 256 := h256
    simp [h])
  have i1 : ¬ ((256 : Int) < (pwr L M : Int)) := by omega
  obtain ⟨W2, hW_⟩ : ∃ W_, W_ = W1.alloc (.cells #[] 2) := ⟨_, rfl⟩
  have b2 : Blk W2 W1.heap.size 2 #[] := by rw [hW_]; exact Blk.new W1 _ _
  have z2 : Below W1.heap.size W1 W2 := by rw [hW_]; exact (Below.refl _ _).alloc (Nat.le_refl _) _
  have HW2 := Lib.hid hW_
  clear hW_
  have y2 := y1.trans (z2.mono y1.size)
  have c2 := c0.below' z2
  have o2 : Own W2 w.heap.size 2 1 (some ⟨W1.heap.size, 0, none⟩) 0 0 (ints (worstTo (timeF sy st rs N) L 0)) := Blk.own (n := 0) (s := 1) b2 rfl (by simp [maxLen]) y1.size
  go_upto_region 9 with (first | (go_at_call 41; refine (budgetOk_is A1.out _).mono ?_; rintro e w' ⟨rfl, rfl⟩) | (go_at_call_of 42 (Value.int .i64 (L : Int)); refine (within_is A2.out _).mono ?_; rintro e w' ⟨rfl, rfl⟩) | (go_at_call_of 42 (Value.int .i64 (M : Int)); refine (within_is A3.out _).mono ?_; rintro e w' ⟨rfl, rfl⟩) | (go_at_call 43; refine HPW.out.mono ?_; rintro e w' ⟨rfl, rfl⟩))
  rw [← HW2.out]
  clear HW2 b2 q0 q1 q2 HPW
  have HPJ : Hid (∀ j, j ≤ M → L ^ j ≤ 256) := Lib.hid (fun j hj => Nat.le_trans (Nat.pow_le_pow_right (n := L) (by omega) hj) h256)
  have HC5 : Hid (∀ j, j ≤ M → ∀ x ∈ (wordsL L j).map upW, (timeF sy st rs N x).2 = 0 ∨ (timeF sy st rs N x).2 = 5) := Lib.hid (fun j hj x hx => by
    obtain ⟨e1, e2⟩ := wordsL_up hx
    by_cases h0 : (timeF sy st rs N x).2 = 0
    · exact .inl h0
    · exact .inr (timeF_codes (startF_word A0.out (by omega) e1 (by omega) e2) h0))
  clear i1 h256 hwr
  have hL1 : 1 ≤ L := by omega
  have hL5 : L ≤ 5 := by omega
  have hM8 : M ≤ 8 := by omega
  go_wp2_with fail
  go_loopw [12, 56] (fun v i wr => ∃ (j : Nat) (D : Option Addr) (cd : Nat), j ≤ M + 1 ∧ i = .int .i64 (j : Int) ∧ v = .slice D j cd ∧ Own wr w.heap.size 2 1 D j cd (ints (worstTo (timeF sy st rs N) L j)) ∧ Hid (okTo2 (timeF sy st rs N) L j = true) ∧ Blk wr w.heap.size 26 #[.int .i64 sy, .int .i64 st, .slice A n k] ∧ Below w.heap.size w wr) (fun _ i _ => (M + 1) - (intOf i).toNat)
  case atStart => exact ⟨0, _, 0, Nat.zero_le _, rfl, rfl, o2, rfl, c2, y2⟩
  case round =>
    obtain ⟨j, D, cd, hj, rfl, rfl, ho, hok, hB, hy⟩ := hrel
    rename World => W0
    clear o2 c2 y2 z2 c0 y1 z1 b0 y0
    by_cases hlt : j < M + 1
    · have hpj := HPJ.out j (by omega)
      go_wp2_with fail
      refine (wordsOver_any L j W0 hL1 hL5 (by omega) hpj).mono ?_
      rintro e W3 ⟨B, c3, us, rfl, hU, hnu, z3⟩
      have hul : us.length = L ^ j := by rw [← wordsL_len, ← hnu]; simp [nums]
      have hu256 : us.length ≤ 256 := by rw [hul]; exact hpj
      have y3 := hy.trans (z3.mono hy.size)
      have ho3 := ho.below z3
      have hB3 := hB.below' z3
      obtain ⟨ws, hws⟩ : ∃ ws, ws = wordsL L j := ⟨_, rfl⟩
      rw [← hws] at hnu
      have HWS := Lib.hid hws
      have HNU := Lib.hid hnu
      have HRL : Hid (∀ (t : Nat) (x : List Int), ws[t]? = some x → x.length ≤ 8 ∧ ∀ y ∈ x, 0 ≤ y ∧ y < 5) := Lib.hid (fun t x h => by
        rw [hws] at h
        obtain ⟨e1, e2⟩ := mem_wordsL.1 (List.mem_of_getElem? h)
        exact ⟨by omega, fun y hy => by have := e2 y hy; omega⟩)
      have HWL : Hid (ws.length = us.length) := Lib.hid (by rw [← hnu]; simp [nums])
      have HW0 : Hid (0 < us.length) := Lib.hid (by rw [hul]; exact Nat.pow_pos (by omega))
      have HSM : Hid (okL (timeF sy st rs N) (ws.map upW) = okL (timeF sy st rs N) (wordsD L j) ∧ worstL (timesV (timeF sy st rs N) (ws.map upW)) = worstL (timesV (timeF sy st rs N) (wordsD L j))) := Lib.hid (by
        have h := words_same (L := L) (n := j) (by omega)
        rw [hws]
        exact ⟨okL_congr h, worstL_congr (timesV_congr h)⟩)
      have HC5j : Hid (∀ x ∈ ws.map upW, (timeF sy st rs N x).2 = 0 ∨ (timeF sy st rs N x).2 = 5) := Lib.hid (by rw [hws]; exact HC5.out j (by omega))
      clear hul hws hnu
      go_wp2_with fail
      go_loopw [64] (fun i wr => ∃ (t : Nat) (vs : List Sl), t ≤ us.length ∧ i = .int .i64 (t : Int) ∧ OII wr W0.heap.size 27 2 B us.length c3 vs ∧ Hid (nums vs = upTo ws t) ∧ Below W0.heap.size W0 wr) (fun i _ => us.length - (intOf i).toNat)
      case atStart => exact ⟨0, us, Nat.zero_le _, rfl, hU, Lib.hid (by rw [HNU.out, upTo_zero]), z3⟩
      case round =>
        obtain ⟨t, vs, ht, rfl, hV, hnv, hz⟩ := hrel
        clear hU z3 ho3 hB3 y3
        by_cases htl : t < us.length
        · obtain ⟨u, bb, off, HT, htm, rfl, hbl, e0, _⟩ := hV.sii.pick htl
          obtain ⟨uA, uc, ux⟩ := u
          have HX : Hid (ws[t]? = some ux) := Lib.hid (by
            have h1 : t < ws.length := by rw [HWL.out]; exact htl
            have h2 := upTo_at (List.getElem?_eq_getElem h1)
            rw [← hnv.out] at h2
            simp only [nums, List.getElem?_map, HT.out, Option.map_some, Option.some.injEq] at h2
            rw [List.getElem?_eq_getElem h1, h2])
          have hx8 := (HRL.out t ux HX.out).1
          have HXV := Lib.hid (HRL.out t ux HX.out).2
          have i1 : (0 : Int) ≤ (t : Int) := by omega
          have i2 : (t : Int) < (us.length : Int) := by omega
          clear htm
          go_wp2_with fail
          clear e0
          go_loopw [70] (fun i wr => ∃ (p : Nat) (vs : List Sl), p ≤ ux.length ∧ i = .int .i64 (p : Int) ∧ OII wr W0.heap.size 27 2 (some ⟨bb, off, none⟩) us.length c3 vs ∧ Hid (vs[t]? = some ⟨uA, uc, upPart ux p⟩) ∧ Hid (nums vs = (upTo ws t).set t (upPart ux p)) ∧ Below W0.heap.size W0 wr) (fun i _ => ux.length - (intOf i).toNat)
          case atStart => exact ⟨0, vs, Nat.zero_le _, rfl, hV, Lib.hid (by rw [upPart_zero]; exact HT.out), Lib.hid (by rw [upPart_zero, set_same (upTo_at HX.out)]; exact hnv.out), hz⟩
          case round =>
            clear hV hz HT hnv
            obtain ⟨p, vs, hp, rfl, hV, HT, hnv, hz⟩ := hrel
            by_cases hpl : p < ux.length
            · obtain ⟨v, hv⟩ : ∃ v, ux[p]? = some v := ⟨_, List.getElem?_eq_getElem hpl⟩
              have hvb := HXV.out v (List.mem_of_getElem? hv)
              have oR : Own wr W0.heap.size 2 1 uA ux.length uc (ints (upPart ux p)) := by
                have h := hV.2.1 _ (List.mem_of_getElem? HT.out)
                have h2 : Own wr W0.heap.size 2 1 uA (upPart ux p).length uc (ints (upPart ux p)) := h
                rw [upPart_len] at h2
                exact h2
              have hil : (ints (upPart ux p)).length = ux.length := by rw [length_ints, upPart_len]
              obtain ⟨b, off', hA, hlo, hbl2, hc, hf⟩ := oR.at_ (k := p) (by rw [hil]; exact hpl)
              have hcv : (ints (upPart ux p))[p]'(by rw [hil]; exact hpl) = .int .i64 v := by
                have h := intsAt (upPart_at hv)
                obtain ⟨_, h2⟩ := List.getElem?_eq_some_iff.1 h
                exact h2
              rw [hcv] at hc
              subst hA
              have oR2 := oR.set_ (k := p) (by rw [hil]; exact hpl) (.int .i64 (v + 1))
              rw [intsSet, upPart_next hv] at oR2
              have hV2 := OII.setRow (upPart ux (p + 1)) hV HT.out (by show (upPart ux (p + 1)).length = (upPart ux p).length; rw [upPart_len, upPart_len]) (by show Own _ _ _ 1 _ (upPart ux p).length _ _; rw [upPart_len]; exact oR2) (fun g hg => Below.heap_setCell _ _ _ _ (fun e => hg (by rw [e]; rfl))) (by decide)
              have hz2 := hz.setCell (p := ⟨b, off' + p, none⟩) hlo (.int .i64 (v + 1))
              have HT2 : Hid ((vs.set t ⟨some ⟨b, off', none⟩, uc, upPart ux (p + 1)⟩)[t]? = some ⟨some ⟨b, off', none⟩, uc, upPart ux (p + 1)⟩) := Lib.hid (List.getElem?_set_self (List.getElem?_eq_some_iff.1 HT.out).1)
              have HN2 : Hid (nums (vs.set t ⟨some ⟨b, off', none⟩, uc, upPart ux (p + 1)⟩) = (upTo ws t).set t (upPart ux (p + 1))) := Lib.hid (by rw [nums_set, hnv.out, List.set_set])
              have i3 : (0 : Int) ≤ (p : Int) := by omega
              have i4 : (p : Int) < (ux.length : Int) := by omega
              clear hv hcv oR oR2 hil hV
              go_wp2_with fail
              go_roundw
              case rel => exact ⟨p + 1, _, by omega, by go_num, hV2, HT2, HN2, hz2⟩
              case measure => simp [intOf]; omega
            · obtain rfl : p = ux.length := by omega
              have HE : Hid (nums vs = upTo ws (t + 1)) := Lib.hid (by rw [hnv.out, upPart_end (Nat.le_refl _), upTo_next HX.out])
              go_wp2_with fail
              go_roundw
              case rel => exact ⟨t + 1, vs, by omega, by go_num, hV, HE, hz⟩
              case measure => simp [intOf]; omega
        · have HNV : Hid (nums vs = ws.map upW) := Lib.hid (by rw [hnv.out, upTo_end (by rw [HWL.out]; omega)])
          have hy4 := hy.trans (hz.mono hy.size)
          have hB4 := hB.below' hz
          have ho4 := ho.below hz
          have q0 : wr.cell? ⟨w.heap.size, 0, none⟩ = some (.int .i64 sy) := hB4.cell 0
          have q1 : wr.cell? ⟨w.heap.size, 1, none⟩ = some (.int .i64 st) := hB4.cell 1
          have q2 : wr.cell? ⟨w.heap.size, 2, none⟩ = some (.slice A n k) := hB4.cell 2
          have hvl : vs.length = us.length := hV.len
          have HTT : Hid (timeTableF sy st rs (nums vs) (N : Int) = timesF (timeF sy st rs N) (ws.map upW)) := Lib.hid (by
            unfold timeTableF
            rw [A0.out, A1.out, Int.toNat_natCast, HNV.out]
            have h : ws.length ≤ 256 := by rw [HWL.out]; exact hu256
            simp [h])
          have hrows : ∀ x ∈ vs, x.xs.length ≤ 1048576 := fun x hx => by
            have h1 : x.xs ∈ nums vs := List.mem_map.2 ⟨x, hx, rfl⟩
            rw [HNV.out] at h1
            obtain ⟨y, hy1, hy2⟩ := List.mem_map.1 h1
            obtain ⟨i, hi⟩ := List.getElem?_of_mem hy1
            have h3 := (HRL.out i y hi).1
            rw [← hy2]
            unfold upW
            rw [List.length_map]
            omega
          have HROWS := Lib.hid hrows
          clear hrows hvl
          go_wp2_with fail
          refine (timeTableI_any sy st A n k rs _ _ _ vs (N : Int) wr (hr.below hy4) hV.sii hn (by omega) HROWS.out).mono ?_
          rw [HTT.out]
          clear q0 q1 q2
          cases hk2 : okL (timeF sy st rs N) (ws.map upW) with
          | false =>
            have HF2 : Hid (worstF sy st rs (L : Int) (M : Int) (N : Int) = ([], 5)) := Lib.hid (by
              rw [HF.out, okTo2_bad (k := j) hlt (by rw [← HSM.out.1, hk2])]
              rfl)
            rw [timesF_five HC5j.out hk2]
            clear hk2
            rintro e W5 ⟨A5, c5, rfl, o5, z5⟩
            have hy5 := hy4.trans (z5.mono hy4.size)
            dsimp only
            go_wp2_with fail
            exact bodyPost_ret (v := .tuple #[.slice none 0 0, .int .i64 5]) (by simp [results, Try.results10, go_sem]) rfl (newI2_nil HF2.out hy5)
          | true =>
            have HOK2 : Hid (okTo2 (timeF sy st rs N) L (j + 1) = true) := Lib.hid (by rw [okTo2_next, hok.out, ← HSM.out.1, hk2]; rfl)
            rw [timesF_all hk2]
            clear hk2
            have HTL : Hid ((timesV (timeF sy st rs N) (ws.map upW)).length = us.length) := Lib.hid (by unfold timesV; rw [List.length_map, List.length_map, HWL.out])
            have HGE : Hid (∀ x ∈ timesV (timeF sy st rs N) (ws.map upW), -1 ≤ x) := Lib.hid (fun x hx => by
              obtain ⟨y, _, rfl⟩ := List.mem_map.1 hx
              exact timeF_ge)
            have HNX : Hid (worstTo (timeF sy st rs N) L (j + 1) = worstTo (timeF sy st rs N) L j ++ [worstL (timesV (timeF sy st rs N) (ws.map upW))]) := Lib.hid (by rw [worstTo_next, HSM.out.2])
            generalize timesV (timeF sy st rs N) (ws.map upW) = T at *
            rintro e W5 ⟨A5, c5, rfl, o5, z5⟩
            have hy5 := hy4.trans (z5.mono hy4.size)
            have hB5 := hB4.below' z5
            have ho5 := ho4.below z5
            have htl2 := HTL.out
            have ht0 : 0 < T.length := by rw [HTL.out]; exact HW0.out
            have HCT := Lib.hid (containsI_any A5 T.length c5 T (-1) W5 o5.rd (by omega))
            have HMX := Lib.hid (maxI_any A5 T.length c5 T W5 o5.rd (by omega) ht0)
            dsimp only
            cases hneg : T.any (fun x => decide (x < 0)) with
            | true =>
              have HD : Hid (decide ((-1 : Int) ∈ T) = true) := Lib.hid (by rw [mem_neg HGE.out, hneg])
              have HN1 : Hid (worstTo (timeF sy st rs N) L (j + 1) = worstTo (timeF sy st rs N) L j ++ [-1]) := Lib.hid (by rw [HNX.out]; unfold worstL; rw [hneg]; rfl)
              clear hneg htl2
              go_wp2_with fail
              refine HCT.out.mono ?_
              rw [HD.out]
              rintro e w' ⟨rfl, rfl⟩
              go_wp2_with (at_builtin; refine wpList_append_Own rfl (.tmp 93) (.tmp 94) rfl elI (lo := w.heap.size) rfl (ho5.alloc _) rfl (Rd.new1 W5 (.int .i64 (-1)) _) (by simp [Value.oneCell']) (by omega) (by simp only [maxLen]; omega) (by have := hy5.size; simp; omega) ?_; intro A7 c7 w7 ho7 hg7 hw7)
              have hy7 : Below w.heap.size w w7 := (ho5.alloc _).below_of (hy5.alloc hy5.size _) hg7 (by have := hy5.size; simp; omega)
              have hB7 : Blk w7 w.heap.size 26 #[.int .i64 sy, .int .i64 st, .slice A n k] := Blk.growt (hB5.alloc _) (ho5.alloc _) hg7 (by decide)
              rw [ints_snoc, ← HN1.out] at ho7
              go_wp2_with fail
              go_roundw
              case rel => exact ⟨j + 1, A7, c7, by omega, by go_num, rfl, ho7, HOK2, hB7, hy7⟩
              case measure => simp [intOf]; omega
            | false =>
              have HD : Hid (decide ((-1 : Int) ∈ T) = false) := Lib.hid (by rw [mem_neg HGE.out, hneg])
              have HN1 : Hid (worstTo (timeF sy st rs N) L (j + 1) = worstTo (timeF sy st rs N) L j ++ [maxI T]) := Lib.hid (by rw [HNX.out, maxI_worst (fun h => by rw [h] at ht0; simp at ht0) hneg])
              clear hneg htl2
              go_wp2_with fail
              refine HCT.out.mono ?_
              rw [HD.out]
              rintro e w' ⟨rfl, rfl⟩
              go_wp2_with fail
              refine HMX.out.mono ?_
              rintro e w' ⟨rfl, rfl⟩
              generalize maxI T = mx at *
              go_wp2_with (at_builtin; refine wpList_append_Own rfl (.tmp 96) (.tmp 99) rfl elI (lo := w.heap.size) rfl (ho5.alloc _) rfl (Rd.new1 W5 (.int .i64 mx) _) (by simp [Value.oneCell']) (by omega) (by simp only [maxLen]; omega) (by have := hy5.size; simp; omega) ?_; intro A7 c7 w7 ho7 hg7 hw7)
              have hy7 : Below w.heap.size w w7 := (ho5.alloc _).below_of (hy5.alloc hy5.size _) hg7 (by have := hy5.size; simp; omega)
              have hB7 : Blk w7 w.heap.size 26 #[.int .i64 sy, .int .i64 st, .slice A n k] := Blk.growt (hB5.alloc _) (ho5.alloc _) hg7 (by decide)
              rw [ints_snoc, ← HN1.out] at ho7
              go_wp2_with fail
              go_roundw
              case rel => exact ⟨j + 1, A7, c7, by omega, by go_num, rfl, ho7, HOK2, hB7, hy7⟩
              case measure => simp [intOf]; omega
    · obtain rfl : j = M + 1 := by omega
      have HF2 : Hid (worstF sy st rs (L : Int) (M : Int) (N : Int) = (worstTo (timeF sy st rs N) L (M + 1), 0)) := Lib.hid (by rw [HF.out, if_pos hok.out])
      have HL2 : Hid ((worstTo (timeF sy st rs N) L (M + 1)).length = M + 1) := Lib.hid (worstTo_len _ _ _)
      go_wp2_with fail
      exact bodyPost_ret (v := .tuple #[.slice D (M + 1) cd, .int .i64 0]) (by simp [results, Try.results10, go_sem]) rfl (by have h := HL2.out; rw [← h]; exact newI2_of HF2.out (by rw [h]; exact ho) hy)
end Go.Proofs.Ytokglpdlhacnaaa
