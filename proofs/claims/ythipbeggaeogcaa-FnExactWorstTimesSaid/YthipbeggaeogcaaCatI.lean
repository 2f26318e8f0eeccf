/-
  Contracts of slices.Grow (from nil), slices.Concat, impl.joined; slices.Index, Contains, Max over []int64.
-/
import Derived.Test.YthipbeggaeogcaaBase
import Derived.Test.YthipbeggaeogcaaHelpB
import Derived.Lib.AppendZeros
import Derived.Lib.MinMax
namespace Go.Proofs.Ythipbeggaeogcaa
open Go.RowKit

/-- An empty slice with room, in new memory. -/
def Room (w : World) (e : Ending) (w' : World) : Prop := ∃ A c, e = .returned (.slice A 0 c) ∧ Own w' w.heap.size 2 1 A 0 c [] ∧ Below w.heap.size w w'

theorem zeroCells_size (z : Array Value) (n : Nat) : (Builtin.zeroCells z n).size = n * z.size := by simp [Builtin.zeroCells]

set_option maxRecDepth 100000 in
set_option maxHeartbeats 1000000 in
theorem growI_any (n : Nat) (w : World) (hn : n ≤ 1048576) : Calls Try.prog 220 #[.slice none 0 0, .int .i64 (n : Int)] w (Room w) := by
  rcases Nat.eq_zero_or_pos n with h | h
  · subst h
    go_enter Try.func220, Try.ntmps220
    go_wp2_with fail
    go_ret
    exact ⟨none, 0, rfl, Own.nil, Below.refl _ _⟩
  · obtain ⟨i, hi, hz, hs, hb⟩ := info_parts elI.info
    have hlaw := Lib.run_append_nil_zeros (P := Try.prog) w 25 3 25 2 i _ .i64 .i64 Try.underlying25 Try.underlying3 hi hz n h (by omega) (by omega) (by rw [hb]; omega)
    have hc1 := grownCap_ge w n 0 2
    have hc2 := grownCap_le_maxLen w n 0 2 (by simp only [maxLen]; omega)
    generalize grownCap w n 0 2 = c at *
    have o1 : Own (w.drew.alloc (.cells (Builtin.zeroCells (Value.int .i64 0).cells n ++ Builtin.zeroCells (Value.int .i64 0).cells (c - n)) 2)) w.heap.size 2 1 (some ⟨w.heap.size, 0, none⟩) 0 c [] := by
      refine ⟨rfl, .inr ⟨w.heap.size, 0, _, rfl, Nat.le_refl _, heap_alloc_new w.drew _, Nat.zero_le _, hc2, ?_, fun k hk => by simp at hk⟩⟩
      simp only [Array.size_append, zeroCells_size]
      have : (Value.int .i64 0).cells.size = 1 := rfl
      rw [this]; omega
    have z1 : Below w.heap.size w (w.drew.alloc (.cells (Builtin.zeroCells (Value.int .i64 0).cells n ++ Builtin.zeroCells (Value.int .i64 0).cells (c - n)) 2)) := (below_drewN (Below.refl _ _) 1).alloc (Nat.le_refl _) _
    generalize w.drew.alloc (.cells (Builtin.zeroCells (Value.int .i64 0).cells n ++ Builtin.zeroCells (Value.int .i64 0).cells (c - n)) 2) = W at *
    have HLAW := Lib.hid hlaw
    clear hlaw hi hz hs hb
    go_enter Try.func220, Try.ntmps220
    go_wp2_with (at_builtin; go_loud (refine Lib.wpList_append_run _ rfl (.tmp 20) (.tmp 21) _ _ rfl _ _ rfl rfl _ _ HLAW.out ?_))
    go_ret
    exact ⟨_, c, rfl, o1, z1⟩

/-- The first k rows, one behind the other. -/
def catTo (ts : List Sl) (k : Nat) : List Int := (ts.take k).flatMap Sl.xs
theorem catTo_zero (ts : List Sl) : catTo ts 0 = [] := by simp [catTo]
theorem catTo_next {ts : List Sl} {t : Sl} {k : Nat} (h : ts[k]? = some t) : catTo ts (k + 1) = catTo ts k ++ t.xs := by
  obtain ⟨hk, rfl⟩ := List.getElem?_eq_some_iff.1 h
  unfold catTo
  rw [List.take_succ_eq_append_getElem hk, List.flatMap_append]
  simp
theorem catTo_end {ts : List Sl} {k : Nat} (h : ts.length ≤ k) : catTo ts k = ts.flatMap Sl.xs := by unfold catTo; rw [List.take_of_length_le h]
theorem catTo_le (ts : List Sl) (k : Nat) : (catTo ts k).length ≤ (ts.flatMap Sl.xs).length := by
  have : ts.flatMap Sl.xs = catTo ts k ++ (ts.drop k).flatMap Sl.xs := by
    unfold catTo
    rw [← List.flatMap_append, List.take_append_drop]
  rw [this, List.length_append]; omega

set_option maxHeartbeats 4000000 in
theorem concatI_any (B : Option Addr) (m c : Nat) (ts : List Sl) (w : World) (hx : SII w B m ts) (hm : m ≤ 1048576) (ht : (ts.flatMap Sl.xs).length ≤ 1048576) :
    Calls Try.prog 202 #[.slice B m c] w (NewI w (ts.flatMap Sl.xs)) := by
  have HLE := Lib.hid (fun k => Nat.le_trans (catTo_le ts k) ht)
  have HEND : Hid (ts.flatMap Sl.xs = catTo ts m) := Lib.hid (catTo_end (by rw [hx.len]; exact Nat.le_refl _)).symm
  clear ht
  go_enter Try.func202, Try.ntmps202
  go_wp2_with fail
  go_loop [3, 11] (fun s i => ∃ k : Nat, k ≤ m ∧ i = .int .i64 (k : Int) ∧ s = .int .i64 ((catTo ts k).length : Int)) (fun _ i => m - (intOf i).toNat)
  case atStart => exact ⟨0, Nat.zero_le _, rfl, by simp [catTo_zero]⟩
  case round =>
    obtain ⟨k, hk, rfl, rfl⟩ := hrel
    by_cases hlt : k < m
    · obtain ⟨t, bb, off, HT, htm, rfl, hbl, e0, hrow⟩ := hx.pick hlt
      have HN : Hid ((catTo ts (k + 1)).length = (catTo ts k).length + t.xs.length) := Lib.hid (by rw [catTo_next HT.out]; simp)
      have hle := HLE.out (k + 1)
      rw [HN.out] at hle
      have i1 : (0 : Int) ≤ (k : Int) := by omega
      have i2 : (k : Int) < (m : Int) := by omega
      have i3 : ¬ (((catTo ts k).length : Int) + (t.xs.length : Int) < 0) := by omega
      clear hrow htm
      go_wp2_with fail
      go_round
      case rel => exact ⟨k + 1, by omega, by go_num, by rw [HN.out]; go_num⟩
      case measure => simp [intOf]; omega
    · obtain rfl : k = m := by omega
      have hle := HLE.out k
      have HEND' : Hid ((catTo ts k).length = (ts.flatMap Sl.xs).length) := Lib.hid (by rw [HEND.out])
      go_wp2_with fail
      refine (growI_any (catTo ts k).length w hle).mono ?_
      rintro e W1 ⟨A1, c1, rfl, o1, z1⟩
      go_wp2_with fail
      go_loopw [6, 27] (fun v i wr => ∃ (j : Nat) (D : Option Addr) (cd : Nat), j ≤ k ∧ i = .int .i64 (j : Int) ∧ v = .slice D (catTo ts j).length cd ∧ Own wr w.heap.size 2 1 D (catTo ts j).length cd (ints (catTo ts j)) ∧ Below w.heap.size w wr) (fun _ i _ => k - (intOf i).toNat)
      case atStart => exact ⟨0, A1, c1, Nat.zero_le _, rfl, by simp [catTo_zero], by rw [catTo_zero]; exact o1, z1⟩
      case round =>
        obtain ⟨j, D, cd, hj, rfl, rfl, ho, hz⟩ := hrel
        clear o1 z1
        by_cases hjl : j < k
        · obtain ⟨t, bb, off, HT, htm, rfl, hbl, e0, hrow⟩ := (hx.below hz).pick hjl
          have HN := Lib.hid (catTo_next HT.out)
          have hle2 : (catTo ts j).length + t.xs.length ≤ 1048576 := by have := HLE.out (j + 1); rw [HN.out, List.length_append] at this; exact this
          have i1 : (0 : Int) ≤ (j : Int) := by omega
          have i2 : (j : Int) < (k : Int) := by omega
          go_wp2_with (at_builtin; refine wpList_append_Own rfl (.tmp 31) (.tmp 32) rfl elI (lo := w.heap.size) rfl ho rfl hrow (ints_one t.xs) (by omega) (by simp only [maxLen]; omega) hz.size ?_; intro A2 c2 w2 ho2 hg2 _)
          have hz2 := ho.below_of hz hg2 hz.size
          have ho3 : Own w2 w.heap.size 2 1 A2 (catTo ts (j + 1)).length c2 (ints (catTo ts (j + 1))) := by
            rw [HN.out, List.length_append]
            have e : ints (catTo ts j ++ t.xs) = ints (catTo ts j) ++ ints t.xs := by simp [ints]
            rw [e]; exact ho2
          have HL : Hid ((catTo ts j).length + t.xs.length = (catTo ts (j + 1)).length) := Lib.hid (by rw [HN.out, List.length_append])
          clear ho2
          go_wp2_with fail
          go_roundw
          case rel => exact ⟨j + 1, A2, c2, by omega, by go_num, by rw [← HL.out], ho3, hz2⟩
          case measure => simp [intOf]; omega
        · obtain rfl : j = k := by omega
          go_wp2_with fail
          go_ret
          rw [HEND.out]
          exact ⟨D, cd, rfl, ho, hz⟩

theorem joinedI_any (B : Option Addr) (m c : Nat) (ts : List Sl) (w : World) (hx : SII w B m ts) (hm : m ≤ 1048576) (ht : (ts.flatMap Sl.xs).length ≤ 1048576) :
    Calls Try.prog 168 #[.slice B m c] w (NewI w (ts.flatMap Sl.xs)) := by
  have HC := Lib.hid (concatI_any B m c ts w hx hm ht)
  clear hx ht
  generalize ts.flatMap Sl.xs = ys at *
  go_enter Try.func168, Try.ntmps168
  go_wp2_with fail
  refine HC.out.mono ?_
  rintro e W1 ⟨A1, c1, rfl, o1, z1⟩
  go_wp2_with fail
  go_ret
  exact ⟨A1, c1, rfl, o1, z1⟩

/-- Where a number stands first, or -1. -/
def idxI (xs : List Int) (v : Int) : Int := if v ∈ xs then ((xs.idxOf v : Nat) : Int) else -1
theorem idxI_at {xs : List Int} {v : Int} {k : Nat} (hk : xs[k]? = some v) (h : v ∉ xs.take k) : idxI xs v = (k : Int) := by
  obtain ⟨hl, he⟩ := List.getElem?_eq_some_iff.1 hk
  have hm : v ∈ xs := List.mem_of_getElem? hk
  unfold idxI
  rw [if_pos hm]
  have e : xs = xs.take k ++ v :: xs.drop (k + 1) := by rw [← he, ← List.drop_eq_getElem_cons hl, List.take_append_drop]
  have h2 : xs.idxOf v = k := by
    rw [e, List.idxOf_append, if_neg h]
    simp
    omega
  rw [h2]
theorem idxI_no {xs : List Int} {v : Int} (h : v ∉ xs) : idxI xs v = -1 := by unfold idxI; rw [if_neg h]
theorem idxI_ge {xs : List Int} {v : Int} : decide (0 ≤ idxI xs v) = decide (v ∈ xs) := by
  unfold idxI
  by_cases h : v ∈ xs
  · rw [if_pos h]; simp [h]
  · rw [if_neg h]; simp [h]

set_option maxHeartbeats 1000000 in
theorem indexI_any (A : Option Addr) (n c : Nat) (xs : List Int) (v : Int) (w : World) (hx : SI w A n xs) (hn : n ≤ 1048576) :
    Calls Try.prog 154 #[.slice A n c, .int .i64 v] w fun e w' => e = .returned (.int .i64 (idxI xs v)) ∧ w = w' := by
  have HL := Lib.hid hx.len
  go_enter Try.func154, Try.ntmps154
  go_wp2_with fail
  go_loop [8] (fun i => ∃ k : Nat, k ≤ n ∧ i = .int .i64 (k : Int) ∧ Hid (v ∉ xs.take k)) (fun i => n - (intOf i).toNat)
  case atStart => exact ⟨0, Nat.zero_le _, rfl, Lib.hid (by simp)⟩
  case round =>
    obtain ⟨k, hk, rfl, hno⟩ := hrel
    by_cases hlt : k < n
    · obtain ⟨b, off, rfl, _, hc⟩ := hx.at_ hlt
      have HX : Hid (xs[k]? = some (xs[k]'(by rw [HL.out]; exact hlt))) := Lib.hid (List.getElem?_eq_getElem _)
      generalize xs[k]'(by rw [HL.out]; exact hlt) = x at *
      have i1 : (0 : Int) ≤ (k : Int) := by omega
      have i2 : (k : Int) < (n : Int) := by omega
      by_cases hv : v = x
      · subst hv
        have HI := Lib.hid (idxI_at HX.out hno.out)
        go_wp2_with fail
        go_ret
        exact ⟨ret_int HI.out.symm, rfl⟩
      · have HNO : Hid (v ∉ xs.take (k + 1)) := Lib.hid (by
          obtain ⟨hl, he⟩ := List.getElem?_eq_some_iff.1 HX.out
          rw [List.take_succ_eq_append_getElem hl, he]
          intro h
          rcases List.mem_append.1 h with h | h
          · exact hno.out h
          · simp at h; exact hv h)
        go_wp2_with fail
        go_round
        case rel => exact ⟨k + 1, by omega, by go_num, HNO⟩
        case measure => simp [intOf]; omega
    · have HI := Lib.hid (idxI_no (xs := xs) (v := v) (by have := hno.out; rwa [List.take_of_length_le (by rw [HL.out]; omega)] at this))
      go_wp2_with fail
      go_ret
      exact ⟨ret_int HI.out.symm, rfl⟩

theorem containsI_any (A : Option Addr) (n c : Nat) (xs : List Int) (v : Int) (w : World) (hx : SI w A n xs) (hn : n ≤ 1048576) :
    Calls Try.prog 126 #[.slice A n c, .int .i64 v] w fun e w' => e = .returned (.bool (decide (v ∈ xs))) ∧ w = w' := by
  have HG := Lib.hid (idxI_ge (xs := xs) (v := v))
  go_enter Try.func126, Try.ntmps126
  go_wp2_with (go_at_call 154; refine (indexI_any _ _ _ _ _ _ hx hn).mono ?_; rintro e w' ⟨rfl, rfl⟩)
  go_ret
  exact ⟨ret_bool (by rw [← HG.out]), rfl⟩

/-- What slices.Max says. -/
def maxI : List Int → Int
  | [] => 0
  | x :: r => r.foldl max x
theorem maxI_take {xs : List Int} {x : Int} {k : Nat} (h0 : 0 < k) (h : xs[k]? = some x) : maxI (xs.take (k + 1)) = max (maxI (xs.take k)) x := by
  obtain ⟨hl, he⟩ := List.getElem?_eq_some_iff.1 h
  rw [List.take_succ_eq_append_getElem hl, he]
  cases hx : xs.take k with
  | nil =>
    have h2 : (xs.take k).length = 0 := by rw [hx]; rfl
    rw [List.length_take] at h2
    omega
  | cons y r => simp [maxI]

set_option maxHeartbeats 1000000 in
theorem maxI_any (A : Option Addr) (n c : Nat) (xs : List Int) (w : World) (hx : SI w A n xs) (hn : n ≤ 1048576) (h0 : 0 < n) :
    Calls Try.prog 127 #[.slice A n c] w fun e w' => e = .returned (.int .i64 (maxI xs)) ∧ w = w' := by
  have HL := Lib.hid hx.len
  obtain ⟨b, off, rfl, _, hc0⟩ := hx.at_ h0
  have HX0 : Hid (xs[0]'(by rw [HL.out]; exact h0) = maxI (xs.take 1)) := Lib.hid (by
    have := HL.out
    cases xs with
    | nil => simp at this; omega
    | cons y r => simp [maxI])
  rw [HX0.out, Nat.add_zero] at hc0
  have i1 : ¬ ((n : Int) < 1) := by omega
  have i2 : (0 : Int) < (n : Int) := by omega
  go_enter Try.func127, Try.ntmps127
  go_wp2_with fail
  clear hc0
  go_loop [3, 4] (fun s i => ∃ k : Nat, 1 ≤ k ∧ k ≤ n ∧ i = .int .i64 (k : Int) ∧ s = .int .i64 (maxI (xs.take k))) (fun _ i => n - (intOf i).toNat)
  case atStart => exact ⟨1, Nat.le_refl _, h0, rfl, rfl⟩
  case round =>
    obtain ⟨k, hk1, hk, rfl, rfl⟩ := hrel
    by_cases hlt : k < n
    · obtain ⟨b, off, he, _, hc⟩ := hx.at_ hlt
      cases he
      have HX : Hid (xs[k]? = some (xs[k]'(by rw [HL.out]; exact hlt))) := Lib.hid (List.getElem?_eq_getElem _)
      generalize xs[k]'(by rw [HL.out]; exact hlt) = x at *
      have HM := Lib.hid (maxI_take (by omega) HX.out)
      have i3 : (0 : Int) ≤ (k : Int) := by omega
      have i4 : (k : Int) < (n : Int) := by omega
      go_wp2_with fail
      go_round
      case rel => exact ⟨k + 1, by omega, by omega, by go_num, by rw [HM.out]⟩
      case measure => simp [intOf]; omega
    · have HE : Hid (xs.take k = xs) := Lib.hid (List.take_of_length_le (by rw [HL.out]; omega))
      go_wp2_with fail
      go_ret
      exact ⟨ret_int (by rw [HE.out]), rfl⟩
end Go.Proofs.Ythipbeggaeogcaa
