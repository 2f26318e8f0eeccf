/-
  Contracts of the laws' helpers over [][]int64: szInt64SS, toInt64SS, eqInt64SS, markInt64SS.
-/
import Derived.Test.YtdlojbabnelbdaaPkRegisterParts0
import Derived.Test.YtdlojbabnelbdaaPkRegisterParts1
import Derived.Test.YtdlojbabnelbdaaPkRegisterParts3
import Derived.Lib.AppendZeros
import Derived.Lib.MinMax
import Derived.Deep.DeepCutAuto
import Derived.BigRegion
import Derived.BigQuiet
import Derived.BigGuardPart
namespace Go.Proofs.Ytdlojbabnelbdaa
open Go.RowKit

theorem elII : Elem Try.prog 95 25 1 24 (.slice none 0 0) := ⟨Try.underlying95, by kernel_rfl, rfl, by decide⟩

set_option maxHeartbeats 400000 in
theorem szII (A : Option Addr) (n c : Nat) (ts : List Sl) (left : Int) (w : World) (hx : SII w A n ts) (hn : n ≤ 9223372036854775807) (hns : ∀ t ∈ ts, t.xs.length ≤ 9223372036854775807) (h0 : 0 ≤ left) (h1 : left ≤ 1048576) :
    Calls Try.prog 141 #[.slice A n c, .int .i64 left] w fun e w' => e = .returned (.int .i64 (szRows left (n :: ts.map (fun t => t.xs.length)))) ∧ w = w' := by
  by_cases h : left < n
  · have h2 : left - n < 0 := by omega
    go_enter Try.func141, Try.ntmps141
    go_wp2
    go_ret
    exact ⟨ret_int (by unfold szRows; rw [if_pos h]), rfl⟩
  · have h2 : ¬ left - n < 0 := by omega
    go_enter Try.func141, Try.ntmps141
    go_wp2
    go_loop [1, 5] (fun q i => ∃ (k : Nat) (z : Int), k ≤ n ∧ i = .int .i64 k ∧ q = .int .i64 z ∧ 0 ≤ z ∧ z ≤ 1048576 ∧ Hid (szRows left (n :: ts.map (fun t => t.xs.length)) = szRows z ((ts.drop k).map (fun t => t.xs.length)))) (fun _ i => n - (intOf i).toNat)
    case atStart => exact ⟨0, left - n, by omega, rfl, rfl, by omega, by omega, by show _ = _; rw [szRows, if_neg (by omega)]; simp⟩
    case round =>
      obtain ⟨k, z, hk, rfl, rfl, hz0, hz1, he⟩ := hrel
      by_cases hlt : k < n
      · obtain ⟨t, b, off, hT, htm, rfl, _, hc, hr⟩ := hx.pick hlt
        have hrl := hns t htm
        by_cases hzl : z < (t.xs.length : Int)
        · have HS : Hid (szF z (t.xs.length : Int) = -1) := by show _ = _; unfold szF; rw [if_pos hzl]
          go_wp2_with (go_at_call 142; refine (szI _ _ _ _ _ (by omega) (by omega) (by omega)).mono ?_; rintro e w' ⟨rfl, rfl⟩; rw [HS.out])
          go_ret
          refine ⟨ret_int ?_, rfl⟩
          rw [he.out, szRows_at hT.out, if_pos hzl]
        · have HS : Hid (szF z (t.xs.length : Int) = z - (t.xs.length : Int)) := by show _ = _; unfold szF; rw [if_neg hzl]
          go_wp2_with (go_at_call 142; refine (szI _ _ _ _ _ (by omega) (by omega) (by omega)).mono ?_; rintro e w' ⟨rfl, rfl⟩; rw [HS.out])
          refine ⟨⟨k + 1, _, by omega, by go_num, rfl, by omega, by omega, ?_⟩, by simp [intOf]; omega⟩
          show _ = _
          rw [he.out, szRows_at hT.out, if_neg (by omega)]
      · go_wp2
        go_ret
        refine ⟨ret_int ?_, rfl⟩
        have := hx.len
        rw [he.out, List.drop_eq_nil_of_le (by omega)]
        rfl

set_option maxHeartbeats 400000 in
theorem eqII (A B : Option Addr) (n m c d : Nat) (ts us : List Sl) (w : World) (hx : SII w A n ts) (hy : SII w B m us) (hn : n ≤ 9223372036854775807) (hns : ∀ t ∈ ts, t.xs.length ≤ 9223372036854775807) :
    Calls Try.prog 152 #[.slice A n c, .slice B m d] w fun e w' => e = .returned (.bool (sameII (nums ts) (nums us))) ∧ ∃ q, w' = w.drewN q := by
  by_cases hnm : n = m
  · subst hnm
    go_enter Try.func152, Try.ntmps152
    go_wp2
    go_loopw [5] (fun i wr => ∃ k q : Nat, k ≤ n ∧ i = .int .i64 k ∧ Hid ((nums ts).take k = (nums us).take k) ∧ wr = w.drewN q) (fun i _ => n - (intOf i).toNat)
    case atStart => exact ⟨0, 0, by omega, rfl, rfl, rfl⟩
    case round =>
      obtain ⟨k, q, hk, rfl, he, rfl⟩ := hrel
      by_cases hlt : k < n
      · obtain ⟨t, b, off, hT, htm, rfl, _, hc, hr⟩ := hx.pick hlt
        obtain ⟨u, b', off', hU, hum, rfl, _, hc', hr'⟩ := hy.pick hlt
        have hrl := hns t htm
        go_wp2
        go_quiet ((go_at_call 153; exact quiet_add (eqI _ _ _ _ _ _ _ _ _ (hr.drewN _) (hr'.drewN _) hrl)))
        go_wp2
        · go_ret
          exact ⟨ret_bool (sameII_ne hT.out hU.out (by assumption)), _, World.drewN_drewN _ _ _⟩
        · exact ⟨⟨k + 1, _, by omega, by go_num, nums_next hT.out hU.out he.out (by assumption), rfl⟩, by simp [intOf]; omega⟩
      · go_wp2
        go_ret
        exact ⟨ret_bool (sameII_eq (by omega) hx.len hy.len he.out), _, rfl⟩
  · have hne : ((n : Int) != (m : Int)) = true := by simp; omega
    go_enter Try.func152, Try.ntmps152
    go_wp2
    go_ret
    exact ⟨ret_bool (by have := hx.len; have := hy.len; unfold sameII; symm; rw [decide_eq_false_iff_not]; intro h; have := congrArg List.length h; simp [nums] at this; omega), 0, rfl⟩

def ToII (w : World) (n : Nat) (xss : List (List Int)) (e : Ending) (w' : World) : Prop :=
  ∃ A us, e = .returned (.slice A n n) ∧ OII w' w.heap.size 25 2 A n n us ∧ nums us = xss ∧ (∀ u ∈ us, u.c = u.xs.length) ∧ Below w.heap.size w w'

set_option maxHeartbeats 400000 in
theorem toII (A : Option Addr) (n c : Nat) (ts : List Sl) (w : World) (hx : SII w A n ts) (hn : n ≤ 1048576) (hns : ∀ t ∈ ts, t.xs.length ≤ 1048576) :
    Calls Try.prog 147 #[.slice A n c] w (ToII w n (nums ts)) := by
  have HL := Lib.hid hx.len
  have hxl : n ≤ ts.length := by have := hx.len; omega
  have hxl' : ts.length ≤ n := by have := hx.len; omega
  go_enter Try.func147, Try.ntmps147
  go_wp2_with (at_make; refine wpList_make_Own rfl (.tmp 6) (.tmp 6) rfl elII (n := n) (lo := w.heap.size) rfl rfl (by omega) (by unfold maxLen; omega) (Nat.le_refl _) ?_; intro w2 ho2 hb2 hs2)
  rw [made_rows n] at ho2
  have HS := Lib.hid hs2
  clear hs2
  go_loopw [4] (fun i wr => ∃ (k : Nat) (us : List Sl), k ≤ n ∧ i = .int .i64 k ∧ Hid (us.length = k) ∧ Hid (nums us = (nums ts).take k) ∧ Own wr w.heap.size 25 1 (some ⟨w.heap.size, 0, none⟩) n n (halfRows us (n - k)) ∧
    Hid (∀ u ∈ us, Own wr w.heap.size 2 1 u.A u.xs.length u.c (ints u.xs) ∧ u.c = u.xs.length) ∧ us.Pairwise Apt ∧ Below w.heap.size w wr) (fun i _ => n - (intOf i).toNat)
  case atStart => exact ⟨0, [], by omega, rfl, rfl, by simp [nums, Hid], ho2, fun _ h => absurd h (by simp), List.Pairwise.nil, hb2⟩
  case round =>
    obtain ⟨k, us, hk, rfl, hul, hnu, ho, hu, hp, hb⟩ := hrel
    by_cases hlt : k < n
    · obtain ⟨t, b, off, hT, htm, rfl, hbl, hc, hr⟩ := (hx.below hb).pick hlt
      have hrl := hns t htm
      go_wp2_with fail
      refine (toI _ _ _ _ _ hr (by omega)).mono ?_
      rintro e w3 ⟨A3, rfl, ho3, hb3⟩
      have hwz : w.heap.size < wr.heap.size := ho.blk_lt w.heap.size rfl
      have ho4 := ho.below hb3
      have hkl : k < (halfRows us (n - k)).length := by rw [halfRows_len, hul.out]; omega
      obtain ⟨b', off', he, hlo, _, hc', hf'⟩ := ho4.at_ hkl
      simp only [Option.some.injEq, Addr.mk.injEq, and_true] at he
      obtain ⟨rfl, rfl⟩ := he
      have ho5 := ho4.set_ hkl (.slice A3 t.xs.length t.xs.length)
      have e5 : (halfRows us (n - k)).set k (.slice A3 t.xs.length t.xs.length) = halfRows (us ++ [⟨A3, t.xs.length, t.xs⟩]) (n - (k + 1)) := by
        have := halfRows_next us (n - (k + 1)) ⟨A3, t.xs.length, t.xs⟩
        rw [hul.out, show n - (k + 1) + 1 = n - k from by omega] at this
        exact this
      rw [e5] at ho5
      simp only [Nat.zero_add] at hc' hf' ho5
      have hb5 := ((hb.trans (hb3.mono (by omega))).setCell (p := ⟨w.heap.size, k, none⟩) (Nat.le_refl _) (.slice A3 t.xs.length t.xs.length))
      have hu5 : Hid (∀ u ∈ us ++ [(⟨A3, t.xs.length, t.xs⟩ : Sl)], Own (w3.setCell ⟨w.heap.size, k, none⟩ (.slice A3 t.xs.length t.xs.length)) w.heap.size 2 1 u.A u.xs.length u.c (ints u.xs) ∧ u.c = u.xs.length) := by
        intro u hum
        rcases List.mem_append.1 hum with h | h
        · refine ⟨((hu.out u h).1.below hb3).far (p := ⟨w.heap.size, k, none⟩) (fun e => ?_) _, (hu.out u h).2⟩
          exact Own.blk_ne ((hu.out u h).1) ho (by decide) _ e rfl
        · simp only [List.mem_singleton] at h
          subst h
          refine ⟨(ho3.mono (by omega)).far (p := ⟨w.heap.size, k, none⟩) (fun e => ?_) _, rfl⟩
          have := ho3.blk_ge _ e
          simp only at this; omega
      have hp5 : (us ++ [(⟨A3, t.xs.length, t.xs⟩ : Sl)]).Pairwise Apt := Apt.snoc hp (fun u hum b hb1 hb2 => by
        have h1 := (hu.out u hum).1.blk_lt b hb1
        have h2 := ho3.blk_ge b hb2
        omega)
      have hnu5 : Hid (nums (us ++ [(⟨A3, t.xs.length, t.xs⟩ : Sl)]) = (nums ts).take (k + 1)) := nums_take_next hT.out hnu.out rfl
      have hul5 : Hid ((us ++ [(⟨A3, t.xs.length, t.xs⟩ : Sl)]).length = k + 1) := by show _ = _; rw [List.length_append, hul.out]; rfl
      clear e5 ho4 ho
      go_wp2
      exact ⟨⟨k + 1, _, by omega, by go_num, hul5, hnu5, ho5, hu5, hp5, hb5⟩, by simp [intOf]; omega⟩
    · go_wp2
      go_ret
      have e1 : n - k = 0 := by omega
      have hoo := ho
      rw [e1, halfRows_end] at hoo
      refine ⟨_, us, rfl, ⟨hoo, fun u h => (hu.out u h).1, hp⟩, ?_, fun u h => (hu.out u h).2, hb⟩
      rw [hnu.out, List.take_of_length_le (by simp [nums]; omega)]

theorem total_take {ts : List Sl} {t : Sl} {k : Nat} (hT : ts[k]? = some t) : total (ts.take (k + 1)) = total (ts.take k) + t.xs.length := by
  obtain ⟨h, rfl⟩ := List.getElem?_eq_some_iff.1 hT
  unfold total; rw [List.take_succ_eq_append_getElem h, List.map_append, List.sum_append]; simp
theorem total_take_le (ts : List Sl) (k : Nat) : total (ts.take k) ≤ total ts := by
  have e : total ts = total (ts.take k) + total (ts.drop k) := by unfold total; rw [← List.sum_append, ← List.map_append, List.take_append_drop]
  omega

set_option maxHeartbeats 400000 in
theorem markII_m (T : List TypeId) (A : Option Addr) (n c : Nat) (ts : List Sl) (m : Int) (w : World) (lo hi : Nat) (hx : MkII w lo hi 25 2 A n c ts) (hT : 2 ∈ T) (hT2 : 25 ∉ T) (hn : n ≤ 9223372036854775807) (h0 : 0 ≤ m) (h1 : m + total ts ≤ 9223372036854775807) :
    Calls Try.prog 156 #[.slice A n c, .int .i64 m] w (MarkP T w lo hi (total ts) m) := by
  have hl : ts.length = n := by have := hx.1.1; simp at this; omega
  have HL := Lib.hid hl
  have HT := Lib.hid hT
  have HT2 := Lib.hid hT2
  clear hl hT hT2
  go_enter Try.func156, Try.ntmps156
  go_wp2
  go_loopw [1, 5] (fun q i wr => ∃ k : Nat, k ≤ n ∧ i = .int .i64 k ∧ q = .int .i64 (m + total (ts.take k)) ∧ MkII wr lo hi 25 2 A n c ts ∧ MkF T lo hi w wr) (fun _ i _ => n - (intOf i).toNat)
  case atStart => exact ⟨0, by omega, rfl, by simp [total], hx, MkF.refl _ _ _ _⟩
  case round =>
    obtain ⟨k, hk, rfl, rfl, ho, ht⟩ := hrel
    by_cases hlt : k < n
    · have hkl : k < ts.length := by have := HL.out; omega
      obtain ⟨t, hT⟩ : ∃ t, ts[k]? = some t := ⟨ts[k], List.getElem?_eq_getElem hkl⟩
      have hmem : t ∈ ts := List.mem_of_getElem? hT
      have HTO := Lib.hid (total_take hT)
      have hle := total_take_le ts (k + 1)
      obtain ⟨b, off, rfl, _, _, hc, _⟩ := ho.1.at_ (k := k) (by simpa using hkl)
      have hcv : wr.cell? ⟨b, off + k, none⟩ = some (.slice t.A t.xs.length t.c) := by rw [hc]; obtain ⟨h, rfl⟩ := List.getElem?_eq_some_iff.1 hT; simp [Sl.val]
      have hle2 : (total (ts.take k) : Int) + t.xs.length ≤ total ts := by have := HTO.out; omega
      clear hc hT hle
      go_wp2_with (go_at_call 157; refine (markI_m T _ _ _ _ _ lo hi (ho.2 t hmem) HT.out (by omega) (by omega)).mono ?_; rintro e w3 ⟨rfl, ht3⟩)
      refine ⟨⟨k + 1, by omega, by go_num, ?_, ho.mkf ht3 HT2.out, ht.trans ht3⟩, by simp [intOf]; omega⟩
      rw [HTO.out]; go_num
    · go_wp2
      go_ret
      refine ⟨ret_int ?_, ht⟩
      rw [List.take_of_length_le (by have := HL.out; omega)]
end Go.Proofs.Ytdlojbabnelbdaa

/-
  Contracts of slices.Grow (from nil), slices.Concat, impl.joined; slices.Index, Contains, Max over []int64.
-/
namespace Go.Proofs.Ytdlojbabnelbdaa
open Go.RowKit

/-- An empty slice with room, in new memory. -/
def Room (w : World) (e : Ending) (w' : World) : Prop := ∃ A c, e = .returned (.slice A 0 c) ∧ Own w' w.heap.size 2 1 A 0 c [] ∧ Below w.heap.size w w'

theorem zeroCells_size (z : Array Value) (n : Nat) : (Builtin.zeroCells z n).size = n * z.size := by simp [Builtin.zeroCells]

set_option maxRecDepth 100000 in
set_option maxHeartbeats 1000000 in
theorem growI_any (n : Nat) (w : World) (hn : n ≤ 1048576) : Calls Try.prog 318 #[.slice none 0 0, .int .i64 (n : Int)] w (Room w) := by
  rcases Nat.eq_zero_or_pos n with h | h
  · subst h
    go_enter Try.func318, Try.ntmps318
    go_wp2_with fail
    go_ret
    exact ⟨none, 0, rfl, Own.nil, Below.refl _ _⟩
  · obtain ⟨i, hi, hz, hs, hb⟩ := info_parts elI.info
    have hlaw := Lib.run_append_nil_zeros (P := Try.prog) w 25 3 25 2 i _ .i64 .i64 Try.underlying25 Try.underlying3 hi hz n h (by omega) (by omega) (by rw [hb]; omega)
    have hc1 := grownCap_ge w n 0 2
    have hc2 := grownCap_le_maxLen w n 0 2 (by simp only [maxLen]; omega)
    generalize grownCap w n 0 2 = c at *
    have o1 : Own (w.drew.alloc (.cells (Builtin.zeroCells (Value.int .i64 0).cells n ++ Builtin.zeroCells (Value.int .i64 0).cells (c - n)) 2)) w.heap.size 2 1 (some ⟨w.heap.size, 0, none⟩) 0 c [] := by
      refine ⟨rfl, .inr ⟨w.heap.size, 0, _, rfl, Nat.le_refl _, heap_alloc_new w.drew _, Nat.zero_le _, hc2, ?_, fun k hk => by simp at hk⟩⟩
      simp only [Array.size_append, zeroCells_size]
      have : (Value.int .i64 0).cells.size = 1 := rfl
      rw [this]; omega
    have z1 : Below w.heap.size w (w.drew.alloc (.cells (Builtin.zeroCells (Value.int .i64 0).cells n ++ Builtin.zeroCells (Value.int .i64 0).cells (c - n)) 2)) := (below_drewN (Below.refl _ _) 1).alloc (Nat.le_refl _) _
    generalize w.drew.alloc (.cells (Builtin.zeroCells (Value.int .i64 0).cells n ++ Builtin.zeroCells (Value.int .i64 0).cells (c - n)) 2) = W at *
    have HLAW := Lib.hid hlaw
    clear hlaw hi hz hs hb
    go_enter Try.func318, Try.ntmps318
    go_wp2_with (at_builtin; go_loud (refine Lib.wpList_append_run _ rfl (.tmp 20) (.tmp 21) _ _ rfl _ _ rfl rfl _ _ HLAW.out ?_))
    go_ret
    exact ⟨_, c, rfl, o1, z1⟩

/-- The first k rows, one behind the other. -/
def catTo (ts : List Sl) (k : Nat) : List Int := (ts.take k).flatMap Sl.xs
theorem catTo_zero (ts : List Sl) : catTo ts 0 = [] := by simp [catTo]
theorem catTo_next {ts : List Sl} {t : Sl} {k : Nat} (h : ts[k]? = some t) : catTo ts (k + 1) = catTo ts k ++ t.xs := by
  obtain ⟨hk, rfl⟩ := List.getElem?_eq_some_iff.1 h
  unfold catTo
  rw [List.take_succ_eq_append_getElem hk, List.flatMap_append]
  simp
theorem catTo_end {ts : List Sl} {k : Nat} (h : ts.length ≤ k) : catTo ts k = ts.flatMap Sl.xs := by unfold catTo; rw [List.take_of_length_le h]
theorem catTo_le (ts : List Sl) (k : Nat) : (catTo ts k).length ≤ (ts.flatMap Sl.xs).length := by
  have : ts.flatMap Sl.xs = catTo ts k ++ (ts.drop k).flatMap Sl.xs := by
    unfold catTo
    rw [← List.flatMap_append, List.take_append_drop]
  rw [this, List.length_append]; omega

set_option maxHeartbeats 4000000 in
theorem concatI_any (B : Option Addr) (m c : Nat) (ts : List Sl) (w : World) (hx : SII w B m ts) (hm : m ≤ 1048576) (ht : (ts.flatMap Sl.xs).length ≤ 1048576) :
    Calls Try.prog 301 #[.slice B m c] w (NewI w (ts.flatMap Sl.xs)) := by
  have HLE := Lib.hid (fun k => Nat.le_trans (catTo_le ts k) ht)
  have HEND : Hid (ts.flatMap Sl.xs = catTo ts m) := Lib.hid (catTo_end (by rw [hx.len]; exact Nat.le_refl _)).symm
  clear ht
  go_enter Try.func301, Try.ntmps301
  go_wp2_with fail
  go_loop [3, 11] (fun s i => ∃ k : Nat, k ≤ m ∧ i = .int .i64 (k : Int) ∧ s = .int .i64 ((catTo ts k).length : Int)) (fun _ i => m - (intOf i).toNat)
  case atStart => exact ⟨0, Nat.zero_le _, rfl, by simp [catTo_zero]⟩
  case round =>
    obtain ⟨k, hk, rfl, rfl⟩ := hrel
    by_cases hlt : k < m
    · obtain ⟨t, bb, off, HT, htm, rfl, hbl, e0, hrow⟩ := hx.pick hlt
      have HN : Hid ((catTo ts (k + 1)).length = (catTo ts k).length + t.xs.length) := Lib.hid (by rw [catTo_next HT.out]; simp)
      have hle := HLE.out (k + 1)
      rw [HN.out] at hle
      have i1 : (0 : Int) ≤ (k : Int) := by omega
      have i2 : (k : Int) < (m : Int) := by omega
      have i3 : ¬ (((catTo ts k).length : Int) + (t.xs.length : Int) < 0) := by omega
      clear hrow htm
      go_wp2_with fail
      go_round
      case rel => exact ⟨k + 1, by omega, by go_num, by rw [HN.out]; go_num⟩
      case measure => simp [intOf]; omega
    · obtain rfl : k = m := by omega
      have hle := HLE.out k
      have HEND' : Hid ((catTo ts k).length = (ts.flatMap Sl.xs).length) := Lib.hid (by rw [HEND.out])
      go_wp2_with fail
      refine (growI_any (catTo ts k).length w hle).mono ?_
      rintro e W1 ⟨A1, c1, rfl, o1, z1⟩
      go_wp2_with fail
      go_loopw [6, 27] (fun v i wr => ∃ (j : Nat) (D : Option Addr) (cd : Nat), j ≤ k ∧ i = .int .i64 (j : Int) ∧ v = .slice D (catTo ts j).length cd ∧ Own wr w.heap.size 2 1 D (catTo ts j).length cd (ints (catTo ts j)) ∧ Below w.heap.size w wr) (fun _ i _ => k - (intOf i).toNat)
      case atStart => exact ⟨0, A1, c1, Nat.zero_le _, rfl, by simp [catTo_zero], by rw [catTo_zero]; exact o1, z1⟩
      case round =>
        obtain ⟨j, D, cd, hj, rfl, rfl, ho, hz⟩ := hrel
        clear o1 z1
        by_cases hjl : j < k
        · obtain ⟨t, bb, off, HT, htm, rfl, hbl, e0, hrow⟩ := (hx.below hz).pick hjl
          have HN := Lib.hid (catTo_next HT.out)
          have hle2 : (catTo ts j).length + t.xs.length ≤ 1048576 := by have := HLE.out (j + 1); rw [HN.out, List.length_append] at this; exact this
          have i1 : (0 : Int) ≤ (j : Int) := by omega
          have i2 : (j : Int) < (k : Int) := by omega
          go_wp2_with (at_builtin; refine wpList_append_Own rfl (.tmp 31) (.tmp 32) rfl elI (lo := w.heap.size) rfl ho rfl hrow (ints_one t.xs) (by omega) (by simp only [maxLen]; omega) hz.size ?_; intro A2 c2 w2 ho2 hg2 _)
          have hz2 := ho.below_of hz hg2 hz.size
          have ho3 : Own w2 w.heap.size 2 1 A2 (catTo ts (j + 1)).length c2 (ints (catTo ts (j + 1))) := by
            rw [HN.out, List.length_append]
            have e : ints (catTo ts j ++ t.xs) = ints (catTo ts j) ++ ints t.xs := by simp [ints]
            rw [e]; exact ho2
          have HL : Hid ((catTo ts j).length + t.xs.length = (catTo ts (j + 1)).length) := Lib.hid (by rw [HN.out, List.length_append])
          clear ho2
          go_wp2_with fail
          go_roundw
          case rel => exact ⟨j + 1, A2, c2, by omega, by go_num, by rw [← HL.out], ho3, hz2⟩
          case measure => simp [intOf]; omega
        · obtain rfl : j = k := by omega
          go_wp2_with fail
          go_ret
          rw [HEND.out]
          exact ⟨D, cd, rfl, ho, hz⟩

theorem joinedI_any (B : Option Addr) (m c : Nat) (ts : List Sl) (w : World) (hx : SII w B m ts) (hm : m ≤ 1048576) (ht : (ts.flatMap Sl.xs).length ≤ 1048576) :
    Calls Try.prog 281 #[.slice B m c] w (NewI w (ts.flatMap Sl.xs)) := by
  have HC := Lib.hid (concatI_any B m c ts w hx hm ht)
  clear hx ht
  generalize ts.flatMap Sl.xs = ys at *
  go_enter Try.func281, Try.ntmps281
  go_wp2_with fail
  refine HC.out.mono ?_
  rintro e W1 ⟨A1, c1, rfl, o1, z1⟩
  go_wp2_with fail
  go_ret
  exact ⟨A1, c1, rfl, o1, z1⟩

/-- Where a number stands first, or -1. -/
def idxI (xs : List Int) (v : Int) : Int := if v ∈ xs then ((xs.idxOf v : Nat) : Int) else -1
theorem idxI_at {xs : List Int} {v : Int} {k : Nat} (hk : xs[k]? = some v) (h : v ∉ xs.take k) : idxI xs v = (k : Int) := by
  obtain ⟨hl, he⟩ := List.getElem?_eq_some_iff.1 hk
  have hm : v ∈ xs := List.mem_of_getElem? hk
  unfold idxI
  rw [if_pos hm]
  have e : xs = xs.take k ++ v :: xs.drop (k + 1) := by rw [← he, ← List.drop_eq_getElem_cons hl, List.take_append_drop]
  have h2 : xs.idxOf v = k := by
    rw [e, List.idxOf_append, if_neg h]
    simp
    omega
  rw [h2]
theorem idxI_no {xs : List Int} {v : Int} (h : v ∉ xs) : idxI xs v = -1 := by unfold idxI; rw [if_neg h]
theorem idxI_ge {xs : List Int} {v : Int} : decide (0 ≤ idxI xs v) = decide (v ∈ xs) := by
  unfold idxI
  by_cases h : v ∈ xs
  · rw [if_pos h]; simp [h]
  · rw [if_neg h]; simp [h]

/-- What slices.Max says. -/
def maxI : List Int → Int
  | [] => 0
  | x :: r => r.foldl max x
theorem maxI_take {xs : List Int} {x : Int} {k : Nat} (h0 : 0 < k) (h : xs[k]? = some x) : maxI (xs.take (k + 1)) = max (maxI (xs.take k)) x := by
  obtain ⟨hl, he⟩ := List.getElem?_eq_some_iff.1 h
  rw [List.take_succ_eq_append_getElem hl, he]
  cases hx : xs.take k with
  | nil =>
    have h2 : (xs.take k).length = 0 := by rw [hx]; rfl
    rw [List.length_take] at h2
    omega
  | cons y r => simp [maxI]

end Go.Proofs.Ytdlojbabnelbdaa

/-
  Sorting few numbers: contracts of cmp.Less, insertionSort, pdqsort and slices.Sort, up to 12 elements.
-/
namespace Go.Proofs.Ytdlojbabnelbdaa
open Go.RowKit

/-- Two neighbours are exchanged. -/
def swapI (xs : List Int) (j : Nat) : List Int := (xs.set j (xs.getD (j - 1) 0)).set (j - 1) (xs.getD j 0)
/-- An element goes down to its place. -/
def sinkI (xs : List Int) : Nat → List Int
  | 0 => xs
  | j + 1 => if xs.getD (j + 1) 0 < xs.getD j 0 then sinkI (swapI xs (j + 1)) j else xs
/-- The first elements are sorted by insertion. -/
def insTo (xs : List Int) : Nat → List Int
  | 0 => xs
  | 1 => xs
  | k + 2 => sinkI (insTo xs (k + 1)) (k + 1)
theorem swapI_len (xs : List Int) (j : Nat) : (swapI xs j).length = xs.length := by simp [swapI]
theorem sinkI_len : ∀ (j : Nat) (xs : List Int), (sinkI xs j).length = xs.length
  | 0, _ => rfl
  | j + 1, xs => by
    unfold sinkI
    split
    · rw [sinkI_len j, swapI_len]
    · rfl
theorem insTo_len (xs : List Int) : ∀ k, (insTo xs k).length = xs.length
  | 0 => rfl
  | 1 => rfl
  | k + 2 => by rw [insTo, sinkI_len, insTo_len xs (k + 1)]
set_option maxHeartbeats 1000000 in
theorem cmpLess_any (a b : Int) (w : World) : Calls Try.prog 313 #[.int .i64 a, .int .i64 b] w fun e w' => e = .returned (.bool (decide (a < b))) ∧ w = w' := by
  go_enter Try.func313, Try.ntmps313
  go_wp2
  all_goals go_ret
  all_goals exact ⟨rfl, rfl⟩
theorem sinkI_zero (xs : List Int) : sinkI xs 0 = xs := rfl
theorem sinkI_yes {xs : List Int} {j : Nat} (h : xs.getD (j + 1) 0 < xs.getD j 0) : sinkI xs (j + 1) = sinkI (swapI xs (j + 1)) j := by rw [sinkI, if_pos h]
theorem sinkI_no {xs : List Int} {j : Nat} (h : ¬ xs.getD (j + 1) 0 < xs.getD j 0) : sinkI xs (j + 1) = xs := by rw [sinkI, if_neg h]
def Ret0 (P : World → Prop) (e : Ending) (w' : World) : Prop := (∃ u, e = .returned u) ∧ P w'
/-- A slice of the call's own holds these numbers. -/
def Holds0 (w0 : World) (A : Option Addr) (n c : Nat) (xs : List Int) (W : World) : Prop := Own W w0.heap.size 2 1 A n c (ints xs) ∧ Below w0.heap.size w0 W
set_option maxRecDepth 100000 in
set_option maxHeartbeats 4000000 in
theorem insertionSort_any (w0 w : World) (A : Option Addr) (n c : Nat) (xs : List Int) (h : Holds0 w0 A n c xs w) (hn : n ≤ 1000) :
    Calls Try.prog 307 #[.slice A n c, .int .i64 0, .int .i64 (n : Int)] w (Ret0 (Holds0 w0 A n c (insTo xs n))) := by
  have HL : Hid (xs.length = n) := Lib.hid (by have := h.1.len; rw [length_ints] at this; omega)
  have HH := Lib.hid h
  clear h
  go_enter Try.func307, Try.ntmps307
  go_wp2_with fail
  go_loopw [6] (fun i wr => ∃ k : Nat, (k ≤ n ∨ k = 1) ∧ 1 ≤ k ∧ i = .int .i64 (k : Int) ∧ Hid (Holds0 w0 A n c (insTo xs k) wr)) (fun i _ => n - (intOf i).toNat)
  case atStart => exact ⟨1, .inr rfl, by omega, rfl, HH⟩
  case round =>
    obtain ⟨k, hk, hk1, rfl, HK⟩ := hrel
    clear HH
    by_cases hlt : k < n
    rotate_left
    · have i1 : ¬ (k : Int) < (n : Int) := by omega
      have HE : Hid (Holds0 w0 A n c (insTo xs n) wr) := Lib.hid (by
        rcases hk with h | h
        · rw [show n = k by omega]; have h2 := HK.out; rw [show n = k by omega] at h2; exact h2
        · have h2 := HK.out
          rw [h] at h2
          have e : insTo xs n = insTo xs 1 := by
            match n, (show n ≤ 1 by omega) with
            | 0, _ => rfl
            | 1, _ => rfl
          rw [e]; exact h2)
      go_wp2_with fail
      go_end0
      exact ⟨⟨_, rfl⟩, HE.out⟩
    have i1 : (k : Int) < (n : Int) := by omega
    obtain ⟨zs0, hz0⟩ : ∃ zs0, zs0 = insTo xs k := ⟨_, rfl⟩
    have HIN : Hid (sinkI zs0 k = insTo xs (k + 1)) := Lib.hid (by
      obtain ⟨j, rfl⟩ : ∃ j, k = j + 1 := ⟨k - 1, by omega⟩
      rw [hz0]; rfl)
    have HZL : Hid (zs0.length = n) := Lib.hid (by rw [hz0, insTo_len]; exact HL.out)
    rw [← hz0] at HK
    clear hz0
    rename World => wk
    go_wp2_with fail
    go_loopw [7] (fun i wr => ∃ (j : Nat) (zs : List Int), j ≤ k ∧ i = .int .i64 (j : Int) ∧ Hid (sinkI zs j = insTo xs (k + 1)) ∧ Hid (zs.length = n) ∧ Hid (Holds0 w0 A n c zs wr)) (fun i _ => (intOf i).toNat)
    case atStart => exact ⟨k, zs0, by omega, rfl, HIN, HZL, HK⟩
    case round =>
      obtain ⟨j, zs, hj, rfl, HS, HZ, HW⟩ := hrel
      clear HK HIN HZL
      cases j with
      | zero =>
        have i2 : ¬ (0 : Int) < ((0 : Nat) : Int) := by omega
        have i3 : decide ((0 : Int) < ((0 : Nat) : Int)) = false := by simp
        have HE : Hid (Holds0 w0 A n c (insTo xs (k + 1)) wr) := Lib.hid (by rw [← HS.out]; exact HW.out)
        go_wp2_with fail
        go_quiet (fail)
        go_wp2_with fail
        exact ⟨⟨k + 1, by omega, by omega, by go_num, Lib.hid ⟨HE.out.1.drewN _, below_drewN HE.out.2 _⟩⟩, by simp [intOf]; omega⟩
      | succ j =>
        obtain ⟨b, off, rfl, hb0, hb1, x0, y0⟩ := HW.out.1.at_ (k := j) (by rw [length_ints, HZ.out]; omega)
        obtain ⟨b', off', e1, _, _, x1, y1⟩ := HW.out.1.at_ (k := j + 1) (by rw [length_ints, HZ.out]; omega)
        simp only [Option.some.injEq, Addr.mk.injEq, and_true] at e1
        obtain ⟨rfl, rfl⟩ := e1
        rw [ints_get] at x0 x1
        have HU : Hid (zs.getD j 0 = zs[j]'(by rw [HZ.out]; omega)) := Lib.hid (by rw [List.getD_eq_getElem?_getD, List.getElem?_eq_getElem]; rfl)
        have HV : Hid (zs.getD (j + 1) 0 = zs[j + 1]'(by rw [HZ.out]; omega)) := Lib.hid (by rw [List.getD_eq_getElem?_getD, List.getElem?_eq_getElem]; rfl)
        obtain ⟨ya, hya⟩ : ∃ y, y = zs.getD j 0 := ⟨_, rfl⟩
        obtain ⟨yb, hyb⟩ : ∃ y, y = zs.getD (j + 1) 0 := ⟨_, rfl⟩
        rw [← HU.out, ← hya] at x0
        rw [← HV.out, ← hyb] at x1
        have HYA := Lib.hid hya
        have HYB := Lib.hid hyb
        clear hya hyb HU HV
        have i2 : (0 : Int) < ((j + 1 : Nat) : Int) := by omega
        have v1 : IntKind.i64.wrap (((j + 1 : Nat) : Int) - 1) = (j : Int) := by rw [show ((j + 1 : Nat) : Int) - 1 = (j : Int) by omega]; exact IntWalk.i64_in _ (by omega)
        have v2 : (0 : Int) ≤ ((j + 1 : Nat) : Int) := by omega
        have v3 : ((j + 1 : Nat) : Int) < (n : Int) := by omega
        have v4 : (0 : Int) ≤ (j : Int) := by omega
        have v5 : (j : Int) < (n : Int) := by omega
        by_cases hlt2 : yb < ya
        · have d1 : decide (yb < ya) = true := by simpa using hlt2
          have HZS : Hid (sinkI (swapI zs (j + 1)) j = insTo xs (k + 1)) := Lib.hid (by rw [← HS.out, sinkI_yes (by rw [← HYA.out, ← HYB.out]; exact hlt2)])
          have o2 := (HW.out.1.set_ (k := j + 1) (by rw [length_ints, HZ.out]; omega) (.int .i64 ya)).set_ (k := j) (by rw [List.length_set, length_ints, HZ.out]; omega) (.int .i64 yb)
          rw [ints_set, ints_set, show (zs.set (j + 1) ya).set j yb = swapI zs (j + 1) by unfold swapI; rw [Nat.add_sub_cancel, ← HYA.out, ← HYB.out]] at o2
          have HO2 := Lib.hid o2
          have HZ2 := Lib.hid ((HW.out.2.setCell (p := ⟨b, off + (j + 1), none⟩) hb0 (.int .i64 ya)).setCell (p := ⟨b, off + j, none⟩) hb0 (.int .i64 yb))
          clear o2
          go_wp2_with fail
          go_quiet ((go_at_call 313; exact quiet_left (cmpLess_any _ _ _)))
          go_wp2_with fail
          go_region
          all_goals
            go_wp2_with fail
            exact ⟨⟨j, swapI zs (j + 1), by omega, rfl, HZS, Lib.hid (by rw [swapI_len]; exact HZ.out), Lib.hid ⟨HO2.out.drewN _, below_drewN HZ2.out _⟩⟩, by simp [intOf]⟩
        · have d1 : decide (yb < ya) = false := by simpa using hlt2
          have HE : Hid (Holds0 w0 (some ⟨b, off, none⟩) n c (insTo xs (k + 1)) wr) := Lib.hid (by rw [← HS.out, sinkI_no (by rw [← HYA.out, ← HYB.out]; exact hlt2)]; exact HW.out)
          go_wp2_with fail
          go_quiet ((go_at_call 313; exact quiet_left (cmpLess_any _ _ _)))
          go_wp2_with fail
          exact ⟨⟨k + 1, by omega, by omega, by go_num, Lib.hid ⟨HE.out.1.drewN _, below_drewN HE.out.2 _⟩⟩, by simp [intOf]; omega⟩
set_option maxHeartbeats 1000000 in
theorem pdqsort_few (w0 w : World) (A : Option Addr) (n c : Nat) (l : Int) (xs : List Int) (h : Holds0 w0 A n c xs w) (hn : n ≤ 12) :
    Calls Try.prog 292 #[.slice A n c, .int .i64 0, .int .i64 (n : Int), .int .i64 l] w (Ret0 (Holds0 w0 A n c (insTo xs n))) := by
  have HI := Lib.hid (insertionSort_any w0 w A n c xs h (by omega))
  have i1 : (n : Int) ≤ 12 := by omega
  clear h
  go_enter Try.func292, Try.ntmps292
  go_wp2_with fail
  go_loopw [1, 2] (fun i m wr => i = .int .i64 0 ∧ m = .int .i64 (n : Int) ∧ wr = w) (fun _ _ _ => 0)
  case atStart => exact ⟨rfl, rfl, rfl⟩
  case round =>
    obtain ⟨rfl, rfl, rfl⟩ := hrel
    go_wp2_with fail
    refine HI.out.mono ?_
    rintro e w1 ⟨⟨u, rfl⟩, hF⟩
    have HF := Lib.hid hF
    clear hF
    go_wp2_with fail
    go_end0
    exact ⟨⟨_, rfl⟩, HF.out⟩
set_option maxRecDepth 100000 in
set_option maxHeartbeats 2000000 in
theorem bitsLen64_few (n : Nat) (hn : n ≤ 3) (w : World) : Calls Try.prog 317 #[.int .u64 (n : Int)] w fun e w' => (∃ l : Int, e = .returned (.int .i64 l)) ∧ w = w' := by
  match n, hn with
  | 0, _ => go_enter Try.func317, Try.ntmps317
            go_wp2
            go_ret
            exact ⟨⟨_, rfl⟩, rfl⟩
  | 1, _ => go_enter Try.func317, Try.ntmps317
            go_wp2
            go_ret
            exact ⟨⟨_, rfl⟩, rfl⟩
  | 2, _ => go_enter Try.func317, Try.ntmps317
            go_wp2
            go_ret
            exact ⟨⟨_, rfl⟩, rfl⟩
  | 3, _ => go_enter Try.func317, Try.ntmps317
            go_wp2
            go_ret
            exact ⟨⟨_, rfl⟩, rfl⟩
set_option maxHeartbeats 2000000 in
theorem bitsLen_few (n : Nat) (hn : n ≤ 3) (w : World) : Calls Try.prog 293 #[.int .u64 (n : Int)] w fun e w' => (∃ l : Int, e = .returned (.int .i64 l)) ∧ w = w' := by
  go_enter Try.func293, Try.ntmps293
  go_wp2_with (go_at_call 317; refine (bitsLen64_few n hn _).mono ?_; rintro e w' ⟨⟨l, rfl⟩, rfl⟩)
  go_ret
  exact ⟨⟨_, rfl⟩, rfl⟩
set_option maxHeartbeats 2000000 in
theorem sort_few (w0 w : World) (A : Option Addr) (n c : Nat) (xs : List Int) (h : Holds0 w0 A n c xs w) (hn : n ≤ 3) :
    Calls Try.prog 252 #[.slice A n c] w (Ret0 (Holds0 w0 A n c (insTo xs n))) := by
  have HH := Lib.hid h
  clear h
  go_enter Try.func252, Try.ntmps252
  go_wp2_with (go_at_call 293; refine (bitsLen_few n hn _).mono ?_; rintro e w' ⟨⟨l, rfl⟩, rfl⟩)
  refine (pdqsort_few w0 _ A n c l xs HH.out (by omega)).mono ?_
  rintro e w1 ⟨⟨u, rfl⟩, hF⟩
  have HF := Lib.hid hF
  clear hF
  go_wp2_with fail
  go_end0
  exact ⟨⟨_, rfl⟩, HF.out⟩
set_option maxHeartbeats 2000000 in
theorem sortList_few (A : Option Addr) (n c : Nat) (xs : List Int) (w : World) (hx : SI w A n xs) (hn : n ≤ 3) :
    Calls Try.prog 181 #[.slice A n c] w (NewI w (insTo xs n)) := by
  have HL : Hid (xs.length = n) := Lib.hid hx.len
  go_enter Try.func181, Try.ntmps181
  go_wp2_with fail
  refine (cloneI_any _ _ _ xs _ hx (by omega)).mono ?_
  rintro e w1 ⟨D, d, rfl, o1, z1⟩
  have HS := Lib.hid (sort_few w w1 D xs.length d xs ⟨o1, z1⟩ (by rw [HL.out]; exact hn))
  clear o1 z1
  go_wp2_with fail
  refine HS.out.mono ?_
  rintro e w2 ⟨⟨u, rfl⟩, hF⟩
  have HN : Hid (NewI w (insTo xs n) (.returned (.slice D xs.length d)) w2) := Lib.hid ⟨D, d, by rw [insTo_len], by rw [insTo_len]; have h := hF.1; rw [HL.out] at h; rw [HL.out]; exact h, hF.2⟩
  clear hF
  go_wp2_with fail
  go_ret
  exact HN.out
end Go.Proofs.Ytdlojbabnelbdaa

/-
  The first row with a property. No program is in sight.
-/
namespace Go.Proofs.Ytdlojbabnelbdaa
open Go.RowKit

def firstB (p : List Int → Bool) (xss : List (List Int)) : Int := match xss.findIdx? p with | some k => k | none => -1
theorem firstB_at {p : List Int → Bool} {ts : List Sl} {t : Sl} {k : Nat} (hT : ts[k]? = some t) (h : p t.xs = true) (he : ((nums ts).take k).any p = false) : (k : Int) = firstB p (nums ts) := by
  unfold firstB
  obtain ⟨hk, rfl⟩ := List.getElem?_eq_some_iff.1 hT
  have : (nums ts).findIdx? p = some k := by
    rw [List.findIdx?_eq_some_iff_getElem]
    refine ⟨by simpa [nums] using hk, by simpa [nums] using h, fun j hj => ?_⟩
    rw [List.any_eq_false] at he
    have := he ((nums ts)[j]'(by simp [nums]; omega)) (by rw [List.mem_take_iff_getElem]; exact ⟨j, by simp [nums]; omega, rfl⟩)
    simpa using this
  rw [this]
theorem firstB_none {p : List Int → Bool} {ts : List Sl} {k n : Nat} (hk : n ≤ k) (hl : ts.length = n) (he : ((nums ts).take k).any p = false) : -1 = firstB p (nums ts) := by
  unfold firstB
  rw [List.take_of_length_le (by simp [nums]; omega)] at he
  have : (nums ts).findIdx? p = none := by
    rw [List.findIdx?_eq_none_iff]
    intro x hx
    rw [List.any_eq_false] at he
    simpa using he x hx
  rw [this]
theorem firstB_next {p : List Int → Bool} {ts : List Sl} {t : Sl} {k : Nat} (hT : ts[k]? = some t) (h : p t.xs = false) (he : ((nums ts).take k).any p = false) : ((nums ts).take (k + 1)).any p = false := by
  obtain ⟨hk, rfl⟩ := List.getElem?_eq_some_iff.1 hT
  rw [List.take_succ_eq_append_getElem (by simpa [nums] using hk), List.any_append, he]
  simpa [nums] using h
theorem firstB_ge (p : List Int → Bool) (xss : List (List Int)) : decide (0 ≤ firstB p xss) = xss.any p := by
  unfold firstB
  cases h : xss.findIdx? p with
  | some k =>
    obtain ⟨hk, hp, _⟩ := List.findIdx?_eq_some_iff_getElem.1 h
    have : xss.any p = true := List.any_eq_true.2 ⟨_, List.getElem_mem hk, hp⟩
    rw [this]; simp
  | none =>
    have : xss.any p = false := by rw [List.any_eq_false]; intro x hx; simpa using List.findIdx?_eq_none_iff.1 h x hx
    rw [this]; simp
end Go.Proofs.Ytdlojbabnelbdaa

/-
  Contracts of impl's small functions that the tag systems use.
-/
namespace Go.Proofs.Ytdlojbabnelbdaa
open Go.RowKit

theorem sizeII_any (A : Option Addr) (n c : Nat) (w : World) (_h : n ≤ 9223372036854775807) :
    Calls Try.prog 279 #[.slice A n c] w fun e w' => e = .returned (.int .i64 n) ∧ w = w' := by
  go_enter Try.func279, Try.ntmps279
  go_wp2
  go_ret
  exact ⟨rfl, rfl⟩
def tagWordB (xs : List Int) (letters : Int) : Bool := decide (xs.length ≤ 1000) && allIn xs 0 (letters - 1)
def risesB (xs : List Int) : Bool := decide (xs.Pairwise (· < ·))
theorem rises_next {xs : List Int} {k : Nat} (h : (xs.take k).Pairwise (· < ·)) (h0 : 1 ≤ k) (hk : k < xs.length) (hlt : xs[k - 1] < xs[k]) : (xs.take (k + 1)).Pairwise (· < ·) := by
  rw [List.take_succ_eq_append_getElem hk, List.pairwise_append]
  refine ⟨h, by simp, fun a ha b hb => ?_⟩
  simp at hb; subst hb
  obtain ⟨j, hj, rfl⟩ := List.getElem_of_mem ha
  simp at hj
  rw [List.getElem_take]
  by_cases hjk : j = k - 1
  · subst hjk; exact hlt
  · have h2 := List.pairwise_iff_getElem.1 h j (k - 1) (by simp; omega) (by simp; omega) (by omega)
    rw [List.getElem_take, List.getElem_take] at h2
    omega
theorem rises_not {xs : List Int} {k : Nat} (h0 : 1 ≤ k) (hk : k < xs.length) (hge : xs[k] ≤ xs[k - 1]) : false = risesB xs := by
  symm; unfold risesB; rw [decide_eq_false_iff_not]; intro h
  have := List.pairwise_iff_getElem.1 h (k - 1) k (by omega) hk (by omega)
  omega
theorem rises_end {xs : List Int} {k n : Nat} (hk : n ≤ k) (hl : xs.length = n) (h : (xs.take k).Pairwise (· < ·)) : true = risesB xs := by
  rw [List.take_of_length_le (by omega)] at h
  symm; unfold risesB; rw [decide_eq_true_iff]; exact h
set_option maxHeartbeats 400000 in
theorem rising_any (A : Option Addr) (n c : Nat) (xs : List Int) (w : World) (hx : SI w A n xs) (hn : n ≤ 9223372036854775800) :
    Calls Try.prog 182 #[.slice A n c] w fun e w' => e = .returned (.bool (risesB xs)) ∧ ∃ q, w' = w.drewN q := by
  go_enter Try.func182, Try.ntmps182
  go_wp2
  go_loopw [3] (fun i wr => ∃ k q : Nat, 1 ≤ k ∧ k ≤ n + 1 ∧ i = .int .i64 k ∧ Hid ((xs.take k).Pairwise (· < ·)) ∧ wr = w.drewN q) (fun i _ => n + 1 - (intOf i).toNat)
  case atStart => exact ⟨1, 0, by omega, by omega, rfl, by rcases xs with _ | ⟨a, r⟩ <;> simp [Hid], rfl⟩
  case round =>
    obtain ⟨k, q, hk1, hk, rfl, he, rfl⟩ := hrel
    by_cases hlt : k < n
    · obtain ⟨b, off, rfl, _, hc⟩ := hx.at_ hlt
      obtain ⟨b', off', he', _, hc'⟩ := hx.at_ (k := k - 1) (by omega)
      simp only [Option.some.injEq, Addr.mk.injEq, and_true] at he'
      obtain ⟨rfl, rfl⟩ := he'
      have i1 : (0 : Int) ≤ (k : Int) - 1 := by omega
      have i2 : ((k : Int) - 1).toNat = k - 1 := by omega
      go_wp2
      go_quiet (fail)
      clear i2
      have HXL := Lib.hid hx.len
      go_wp2
      · go_ret
        exact ⟨ret_bool (rises_not hk1 (by have := HXL.out; omega) (by assumption)), _, World.drewN_drewN _ _ _⟩
      · exact ⟨⟨k + 1, _, by omega, by omega, by go_num, rises_next he.out hk1 (by have := HXL.out; omega) (by omega), rfl⟩, by simp [intOf]; omega⟩
    · go_wp2
      go_ret
      exact ⟨ret_bool (rises_end (by omega) hx.len he.out), _, rfl⟩

set_option maxHeartbeats 400000 in
theorem indexFuncII_any (A : Option Addr) (n c : Nat) (ts : List Sl) (f : FuncId) (cp : Value) (p : List Int → Bool) (w : World) (hx : SII w A n ts) (hn : n ≤ 9223372036854775807) (hcall : ∀ (args : Array Value) (w : World), (callFunc f args).run Try.prog w = .ok (.enter f args) w)
    (hf : Hid (∀ t ∈ ts, Calls Try.prog f #[.slice t.A t.xs.length t.c, cp] w fun e w' => e = .returned (.bool (p t.xs)) ∧ w = w')) :
    Calls Try.prog 305 #[.slice A n c, .func (.func f) #[] #[cp]] w fun e w' => e = .returned (.int .i64 (firstB p (nums ts))) ∧ w = w' := by
  go_enter Try.func305, Try.ntmps305
  go_wp2
  go_loop [8] (fun i => ∃ k : Nat, k ≤ n ∧ i = .int .i64 k ∧ Hid (((nums ts).take k).any p = false)) (fun i => n - (intOf i).toNat)
  case atStart => exact ⟨0, by omega, rfl, rfl⟩
  case round =>
    obtain ⟨k, hk, rfl, he⟩ := hrel
    by_cases hlt : k < n
    · obtain ⟨t, b, off, hT, htm, rfl, _, hc, hr⟩ := hx.pick hlt
      go_wp2_with fail
      refine (hf.out t htm).mono ?_
      rintro e w' ⟨rfl, rfl⟩
      cases hp : p t.xs
      · have HP := Lib.hid hp
        clear hp
        go_wp2
        exact ⟨⟨k + 1, by omega, by go_num, firstB_next hT.out HP.out he.out⟩, by simp [intOf]; omega⟩
      · have HP := Lib.hid hp
        clear hp
        go_wp2
        go_ret
        exact ⟨ret_int (firstB_at hT.out HP.out he.out), rfl⟩
    · go_wp2
      go_ret
      exact ⟨ret_int (firstB_none (by omega) hx.len he.out), rfl⟩

set_option maxHeartbeats 400000 in
theorem containsFuncII_any (A : Option Addr) (n c : Nat) (ts : List Sl) (f : FuncId) (cp : Value) (p : List Int → Bool) (w : World) (hx : SII w A n ts) (hn : n ≤ 9223372036854775807) (hcall : ∀ (args : Array Value) (w : World), (callFunc f args).run Try.prog w = .ok (.enter f args) w)
    (hf : Hid (∀ t ∈ ts, Calls Try.prog f #[.slice t.A t.xs.length t.c, cp] w fun e w' => e = .returned (.bool (p t.xs)) ∧ w = w')) :
    Calls Try.prog 288 #[.slice A n c, .func (.func f) #[] #[cp]] w fun e w' => e = .returned (.bool ((nums ts).any p)) ∧ w = w' := by
  go_enter Try.func288, Try.ntmps288
  go_wp2_with (go_at_call 305; refine (indexFuncII_any _ _ _ ts _ _ p _ hx hn hcall hf).mono ?_; rintro e w' ⟨rfl, rfl⟩)
  go_ret
  exact ⟨ret_bool (firstB_ge p (nums ts)), rfl⟩

def wordsB (xss : List (List Int)) (letters : Int) : Bool := xss.all (fun xs => tagWordB xs letters)
theorem wordsB_not (xss : List (List Int)) (letters : Int) : (!xss.any (fun xs => !tagWordB xs letters)) = wordsB xss letters := by
  unfold wordsB; rw [List.not_any_eq_all_not]; simp

/-- Tag values: the struct as the walk has it. -/
abbrev tagV (d : Int) (A : Option Addr) (n c : Nat) (B : Option Addr) (m k : Nat) : Value := .agg #[.int .i64 d, .slice A n c, .slice B m k]

def validTagB (d : Int) (words : List (List Int)) (halting : List Int) : Bool :=
  inB d 1 4 && inB words.length 1 200 && wordsB words words.length && risesB halting && allIn halting 0 (words.length - 1)

def tagCodeF (d : Int) (words : List (List Int)) (halting xs : List Int) : Int := if validTagB d words halting && tagWordB xs words.length then 0 else 1
def haltsB (d : Int) (halting xs : List Int) : Bool := decide ((xs.length : Int) < d) || decide (xs.headD 0 ∈ halting)
end Go.Proofs.Ytdlojbabnelbdaa

/-
  Contracts of impl.registersCode, MoveRegister, ClearRegister and CopyRegister for registers that are different.
-/
namespace Go.Proofs.Ytdlojbabnelbdaa
open Go.RowKit

theorem rises_three {a b c : Int} (h1 : a ≠ b) (h2 : a ≠ c) (h3 : b ≠ c) : risesB (insTo [a, b, c] 3) = true := by
  unfold risesB
  rw [decide_eq_true_iff]
  have e : insTo [a, b, c] 3 = sinkI (sinkI [a, b, c] 1) 2 := rfl
  rw [e]
  have e1 : sinkI [a, b, c] 1 = if b < a then [b, a, c] else [a, b, c] := by
    unfold sinkI
    simp only [List.getD_cons_zero, List.getD_cons_succ, Nat.zero_add]
    split <;> rfl
  rw [e1]
  by_cases h : b < a
  · rw [if_pos h]
    unfold sinkI
    by_cases k : c < a
    · rw [if_pos (by simpa using k)]
      unfold sinkI
      have e2 : swapI [b, a, c] (1 + 1) = [b, c, a] := rfl
      rw [e2]
      by_cases l : c < b
      · rw [if_pos (by simpa using l)]
        show List.Pairwise _ [c, b, a]
        simp; omega
      · rw [if_neg (by simpa using l)]
        simp; omega
    · rw [if_neg (by simpa using k)]
      simp; omega
  · rw [if_neg h]
    unfold sinkI
    by_cases k : c < b
    · rw [if_pos (by simpa using k)]
      unfold sinkI
      have e2 : swapI [a, b, c] (1 + 1) = [a, c, b] := rfl
      rw [e2]
      by_cases l : c < a
      · rw [if_pos (by simpa using l)]
        show List.Pairwise _ [c, a, b]
        simp; omega
      · rw [if_neg (by simpa using l)]
        simp; omega
    · rw [if_neg (by simpa using k)]
      simp; omega
theorem rises_one (a : Int) : risesB (insTo [a] 1) = true := by unfold risesB insTo; simp
set_option maxHeartbeats 1000000 in
theorem registersCode_ok (A : Option Addr) (n c : Nat) (xs : List Int) (w : World) (hx : SI w A n xs) (hn : n ≤ 3) (hr : ∀ x ∈ xs, 0 ≤ x ∧ x ≤ 23) (hs : risesB (insTo xs n) = true) :
    Calls Try.prog 96 #[.slice A n c] w fun e w' => e = .returned (.int .i64 0) ∧ Below w.heap.size w w' := by
  have HL : Hid (xs.length = n) := Lib.hid hx.len
  have ha : allIn xs 0 23 = true := by
    unfold allIn
    rw [List.all_eq_true]
    intro x h
    rw [inB_iff]
    have := hr x h
    omega
  have HA := Lib.hid (by have h := allWithin_any A n c xs 0 23 w hx (by omega); rw [ha] at h; exact h : Calls Try.prog 86 #[.slice A n c, .int .i64 0, .int .i64 23] w fun e w' => e = .returned (.bool true) ∧ w = w')
  have HSL := Lib.hid (sortList_few A n c xs w hx hn)
  have HS := Lib.hid hs
  clear ha hx hr hs
  go_enter Try.func96, Try.ntmps96
  go_wp2_with (go_at_call 86; refine HA.out.mono ?_; rintro e w' ⟨rfl, rfl⟩)
  refine HSL.out.mono ?_
  rintro e w1 ⟨D, d, rfl, o1, z1⟩
  have HR := Lib.hid (by have h := rising_any D (insTo xs n).length d (insTo xs n) w1 o1.rd (by rw [insTo_len, HL.out]; omega); rw [HS.out] at h; exact h : Calls Try.prog 182 #[.slice D (insTo xs n).length d] w1 fun e w' => e = .returned (.bool true) ∧ ∃ q, w' = w1.drewN q)
  have HZ := Lib.hid z1
  clear o1 z1
  generalize (insTo xs n).length = N at *
  go_wp2_with fail
  refine HR.out.mono ?_
  rintro e w2 ⟨rfl, q, rfl⟩
  go_wp2_with fail
  go_ret
  exact ⟨rfl, below_drewN HZ.out _⟩
theorem si_lit {w : World} {g : Nat} {xs : List Int} (h : Blk w g 2 (ints xs).toArray) : SI w (some ⟨g, 0, none⟩) xs.length xs := by
  refine ⟨by rw [length_ints]; omega, fun _ => ⟨g, 0, rfl, fun k hk => ?_⟩⟩
  rw [h.cell (0 + k)]
  simp [hk]
/-- A new program, and a code. -/
def NewQ2 (w : World) (rs : List R4) (e : Ending) (w' : World) : Prop :=
  ∃ A c, e = .returned (.tuple #[.slice A rs.length c, .int .i64 0]) ∧ Own w' w.heap.size 133 4 A rs.length c (cells4 rs) ∧ Below w.heap.size w w'
set_option maxRecDepth 100000 in
set_option maxHeartbeats 4000000 in
theorem moveTwo_any (a b c : Int) (T : Option Addr) (k : Nat) (w : World) (ht : SI w T 2 [b, c]) (h : Abc a b c) :
    Calls Try.prog 23 #[.int .i64 a, .slice T 2 k] w (NewQ2 w (moveL a [b, c])) := by
  have HT := Lib.hid ht
  have HH := Lib.hid h
  clear ht h
  go_enter Try.func23, Try.ntmps23
  go_wp2_with (at_builtin; refine wpList_append_Own rfl (.tmp 11) (.tmp 12) rfl elI (lo := w.heap.size) rfl (Own.lit w #[.int .i64 a] 2 1 1 w.heap.size rfl (by simp [maxLen]) (Nat.le_refl _)) rfl (SI.alloc HT.out _) (ints_one _) (by omega) (by simp only [maxLen]; omega) (by simp) ?_; intro A2 c2 w2 o2 g2 _)
  have z2 : Below w.heap.size w w2 := (Own.lit w #[.int .i64 a] 2 1 1 w.heap.size rfl (by simp [maxLen]) (Nat.le_refl _)).below_of ((Below.refl _ _).alloc (Nat.le_refl _) _) g2 (by simp)
  have o3 : SI w2 A2 3 [a, b, c] := o2.rd
  have hh := HH.out
  have HRC := Lib.hid (registersCode_ok A2 3 c2 [a, b, c] w2 o3 (by omega) (by
    intro x hx
    have := hh.ra; have := hh.rb; have := hh.rc
    simp only [List.mem_cons, List.not_mem_nil, or_false] at hx
    rcases hx with rfl | rfl | rfl <;> omega) (rises_three hh.ab hh.ac hh.bc))
  have HZ := Lib.hid z2
  clear o2 g2 z2 o3 hh
  refine HRC.out.mono ?_
  rintro e w3 ⟨rfl, z3⟩
  have HZ3 := Lib.hid (HZ.out.trans (z3.mono HZ.out.size))
  clear z3
  go_wp2_with fail
  refine (moveRegister_any a T 2 k [b, c] _ (HT.out.below HZ3.out) (by omega)).mono ?_
  rintro e w4 ⟨D, d, rfl, o4, z4⟩
  have HN : Hid (NewQ2 w (moveL a [b, c]) (.returned (.tuple #[.slice D (moveL a [b, c]).length d, .int .i64 0])) w4) := Lib.hid ⟨D, d, rfl, o4.mono HZ3.out.size, HZ3.out.trans (z4.mono HZ3.out.size)⟩
  clear o4 z4
  generalize (moveL a [b, c]).length = N at *
  go_wp2_with fail
  exact bodyPost_ret (v := .tuple #[.slice D N d, .int .i64 0]) (by simp [results, Try.results23, go_sem]) rfl HN.out
set_option maxRecDepth 100000 in
set_option maxHeartbeats 4000000 in
theorem moveNone_any (a : Int) (w : World) (h : 0 ≤ a ∧ a ≤ 23) :
    Calls Try.prog 23 #[.int .i64 a, .slice none 0 0] w (NewQ2 w (moveL a [])) := by
  have HH := Lib.hid h
  clear h
  go_enter Try.func23, Try.ntmps23
  go_wp2_with (at_builtin; refine wpList_append_Own rfl (.tmp 11) (.tmp 12) rfl elI (lo := w.heap.size) rfl (Own.lit w #[.int .i64 a] 2 1 1 w.heap.size rfl (by simp [maxLen]) (Nat.le_refl _)) rfl (SI.nil (w := w.alloc _)) (ints_one _) (by omega) (by simp only [maxLen]; omega) (by simp) ?_; intro A2 c2 w2 o2 g2 _)
  have z2 : Below w.heap.size w w2 := (Own.lit w #[.int .i64 a] 2 1 1 w.heap.size rfl (by simp [maxLen]) (Nat.le_refl _)).below_of ((Below.refl _ _).alloc (Nat.le_refl _) _) g2 (by simp)
  have o3 : SI w2 A2 1 [a] := o2.rd
  have hh := HH.out
  have HRC := Lib.hid (registersCode_ok A2 1 c2 [a] w2 o3 (by omega) (by
    intro x hx
    simp only [List.mem_cons, List.not_mem_nil, or_false] at hx
    subst hx; exact hh) (rises_one a))
  have HZ := Lib.hid z2
  clear o2 g2 z2 o3 hh
  refine HRC.out.mono ?_
  rintro e w3 ⟨rfl, z3⟩
  have HZ3 := Lib.hid (HZ.out.trans (z3.mono HZ.out.size))
  clear z3
  go_wp2_with fail
  refine (moveRegister_any a none 0 0 [] _ SI.nil (by omega)).mono ?_
  rintro e w4 ⟨D, d, rfl, o4, z4⟩
  have HN : Hid (NewQ2 w (moveL a []) (.returned (.tuple #[.slice D (moveL a []).length d, .int .i64 0])) w4) := Lib.hid ⟨D, d, rfl, o4.mono HZ3.out.size, HZ3.out.trans (z4.mono HZ3.out.size)⟩
  clear o4 z4
  generalize (moveL a []).length = N at *
  go_wp2_with fail
  exact bodyPost_ret (v := .tuple #[.slice D N d, .int .i64 0]) (by simp [results, Try.results23, go_sem]) rfl HN.out
set_option maxHeartbeats 4000000 in
theorem clearReg_any (a : Int) (w : World) (h : 0 ≤ a ∧ a ≤ 23) : Calls Try.prog 24 #[.int .i64 a] w (NewQ2 w (moveL a [])) := by
  have HM := Lib.hid (moveNone_any a w h)
  go_enter Try.func24, Try.ntmps24
  go_wp2_with fail
  refine HM.out.mono ?_
  rintro e w4 ⟨D, d, rfl, o4, z4⟩
  have HN : Hid (NewQ2 w (moveL a []) (.returned (.tuple #[.slice D (moveL a []).length d, .int .i64 0])) w4) := Lib.hid ⟨D, d, rfl, o4, z4⟩
  clear o4 z4
  generalize (moveL a []).length = N at *
  go_wp2_with fail
  exact bodyPost_ret (v := .tuple #[.slice D N d, .int .i64 0]) (by simp [results, Try.results24, go_sem]) rfl HN.out
set_option maxRecDepth 100000 in
set_option maxHeartbeats 4000000 in
theorem copyReg_any (a b c : Int) (w : World) (h : Abc a b c) :
    Calls Try.prog 22 #[.int .i64 a, .int .i64 b, .int .i64 c] w (NewQ2 w (joinP (moveL a [b, c]) (moveL c [a]))) := by
  have HH := Lib.hid h
  clear h
  obtain ⟨W1, hW_⟩ : ∃ W_, W_ = w.alloc (.cells #[.int .i64 a, .int .i64 b, .int .i64 c] 2) := ⟨_, rfl⟩
  have b1 : Blk W1 w.heap.size 2 #[.int .i64 a, .int .i64 b, .int .i64 c] := by rw [hW_]; exact Blk.new w _ _
  have z1 : Below w.heap.size w W1 := by rw [hW_]; exact (Below.refl _ _).alloc (Nat.le_refl _) _
  have HW1 := Lib.hid hW_
  clear hW_
  have s1 : SI W1 (some ⟨w.heap.size, 0, none⟩) 3 [a, b, c] := si_lit (xs := [a, b, c]) b1
  have hh := HH.out
  have HRC := Lib.hid (registersCode_ok _ 3 3 [a, b, c] W1 s1 (by omega) (by
    intro x hx
    have := hh.ra; have := hh.rb; have := hh.rc
    simp only [List.mem_cons, List.not_mem_nil, or_false] at hx
    rcases hx with rfl | rfl | rfl <;> omega) (rises_three hh.ab hh.ac hh.bc))
  have HZ1 := Lib.hid z1
  clear hh s1 b1 z1
  go_enter Try.func22, Try.ntmps22
  go_wp2_with fail
  rw [← HW1.out]
  clear HW1
  refine HRC.out.mono ?_
  rintro e w2 ⟨rfl, z2⟩
  have HZ2 := Lib.hid (HZ1.out.trans (z2.mono HZ1.out.size))
  obtain ⟨W3, hW_⟩ : ∃ W_, W_ = w2.alloc (.cells #[.int .i64 b, .int .i64 c] 2) := ⟨_, rfl⟩
  have b3 : Blk W3 w2.heap.size 2 #[.int .i64 b, .int .i64 c] := by rw [hW_]; exact Blk.new w2 _ _
  have z3 : Below w2.heap.size w2 W3 := by rw [hW_]; exact (Below.refl _ _).alloc (Nat.le_refl _) _
  have HW3 := Lib.hid hW_
  clear hW_
  have HZ3 := Lib.hid (HZ2.out.trans (z3.mono HZ2.out.size))
  have HM1 := Lib.hid (moveRegister_any a (some ⟨w2.heap.size, 0, none⟩) 2 2 [b, c] W3 (si_lit (xs := [b, c]) b3) (by omega))
  clear z2 z3 b3
  go_wp2_with fail
  rw [← HW3.out]
  clear HW3
  refine HM1.out.mono ?_
  rintro e w4 ⟨D, d, rfl, o4, z4⟩
  have HO4 := Lib.hid o4
  have HZ4 := Lib.hid (HZ3.out.trans (z4.mono HZ3.out.size))
  obtain ⟨W5, hW_⟩ : ∃ W_, W_ = w4.alloc (.cells #[.int .i64 a] 2) := ⟨_, rfl⟩
  have b5 : Blk W5 w4.heap.size 2 #[.int .i64 a] := by rw [hW_]; exact Blk.new w4 _ _
  have z5 : Below w4.heap.size w4 W5 := by rw [hW_]; exact (Below.refl _ _).alloc (Nat.le_refl _) _
  have HW5 := Lib.hid hW_
  clear hW_
  have HZ5 := Lib.hid (HZ4.out.trans (z5.mono HZ4.out.size))
  have HO5 := Lib.hid (HO4.out.below z5)
  have HM2 := Lib.hid (moveRegister_any c (some ⟨w4.heap.size, 0, none⟩) 1 1 [a] W5 (si_lit (xs := [a]) b5) (by omega))
  clear z4 z5 b5 o4 HM1
  obtain ⟨N1, hN1⟩ : ∃ N, N = (moveL a [b, c]).length := ⟨_, rfl⟩
  rw [← hN1]
  have HN1 := Lib.hid hN1
  clear hN1
  go_wp2_with fail
  rw [← HW5.out]
  clear HW5
  refine HM2.out.mono ?_
  rintro e w6 ⟨E, f, rfl, o6, z6⟩
  have HO6 := Lib.hid o6
  have HZ6 := Lib.hid (HZ5.out.trans (z6.mono HZ5.out.size))
  have HO56 := Lib.hid (HO5.out.below z6)
  have HJ := Lib.hid (joinPrograms_any D E d f (moveL a [b, c]) (moveL c [a]) w6 HO56.out.rd HO6.out.rd (by rw [moveL_len]; simp) (by rw [moveL_len]; simp) (moveL_ok _ _ (by simp)) (moveL_ok _ _ (by simp)))
  rw [← HN1.out] at HJ
  obtain ⟨N2, hN2⟩ : ∃ N, N = (moveL c [a]).length := ⟨_, rfl⟩
  rw [← hN2] at HJ ⊢
  have HN2 := Lib.hid hN2
  clear hN2 o6 z6 HM2
  go_wp2_with fail
  refine HJ.out.mono ?_
  rintro e w7 ⟨g, rfl, hA⟩
  obtain ⟨F, h, k0, hg, o7, z7⟩ := hA.cell
  have HN : Hid (NewQ2 w (joinP (moveL a [b, c]) (moveL c [a])) (.returned (.tuple #[.slice F (joinP (moveL a [b, c]) (moveL c [a])).length h, .int .i64 0])) w7) := Lib.hid ⟨F, h, rfl, o7.mono HZ6.out.size, HZ6.out.trans (z7.mono HZ6.out.size)⟩
  clear o7 z7 hA
  generalize (joinP (moveL a [b, c]) (moveL c [a])).length = N at *
  go_wp2_with fail
  exact bodyPost_ret (v := .tuple #[.slice F N h, .int .i64 0]) (by simp [results, Try.results22, go_sem]) rfl HN.out
/-! ### The programs as they stand -/
theorem moveL_none (a : Int) : moveL a [] = clearP a := rfl
theorem moveL_two (a b c : Int) : moveL a [b, c] = moveP a b c := rfl
theorem joinP_copy (a b c : Int) : joinP (moveL a [b, c]) (moveL c [a]) = copyP a b c := rfl
end Go.Proofs.Ytdlojbabnelbdaa

/-
  Contracts of the reference's smallest functions: l00In, l00Own.
-/
namespace Go.Proofs.Ytdlojbabnelbdaa
open Go.RowKit

set_option maxHeartbeats 400000 in
theorem l00In_any (n lo hi : Int) (w : World) :
    Calls Try.prog 160 #[.int .i64 n, .int .i64 lo, .int .i64 hi] w fun e w' => e = .returned (.bool (inB n lo hi)) ∧ w = w' := by
  by_cases h1 : lo ≤ n <;> by_cases h2 : n ≤ hi
  all_goals
    go_enter Try.func160, Try.ntmps160
    go_wp2
    go_ret
    exact ⟨ret_bool (by simp [inB]; omega), rfl⟩

theorem l00In_is {n lo hi : Int} {b : Bool} (h : inB n lo hi = b) (w : World) :
    Calls Try.prog 160 #[.int .i64 n, .int .i64 lo, .int .i64 hi] w fun e w' => e = .returned (.bool b) ∧ w = w' := h ▸ l00In_any n lo hi w

set_option maxHeartbeats 400000 in
theorem l00Own_any (A : Option Addr) (n c : Nat) (xs : List Int) (w : World) (hx : SI w A n xs) (hn : n ≤ 1048576) :
    Calls Try.prog 186 #[.slice A n c] w (NewI w xs) := by
  have HL := Lib.hid hx.len
  go_enter Try.func186, Try.ntmps186
  go_wp2_with (at_builtin; refine wpList_append_Own rfl (.tmp 3) (.tmp 4) rfl elI (lo := w.heap.size) rfl (Own.lit0 w _ 1) rfl (Rd.alloc hx _) (ints_one xs) (by omega) (by simp only [maxLen]; omega) (by simp) ?_; intro A2 c2 w2 ho2 hg2 _)
  go_ret
  have hbb := (Own.lit0 w 2 1).below_of ((Below.refl _ _).alloc (Nat.le_refl _) _) hg2 (by simp)
  simp only [List.nil_append] at ho2
  refine ⟨A2, c2, ?_, ?_, hbb⟩
  · rw [HL.out]; simp
  · rw [HL.out]; simpa using ho2

end Go.Proofs.Ytdlojbabnelbdaa

/-
  Contract of the reference's l05Budget.
-/
namespace Go.Proofs.Ytdlojbabnelbdaa
open Go.RowKit

theorem l05Budget_any (b : Int) (w : World) : Calls Try.prog 112 #[.int .i64 b] w fun e w' => e = .returned (.bool (inB b 1 20000)) ∧ w = w' := by
  go_enter Try.func112, Try.ntmps112
  go_wp2_with (go_at_call 160; refine (l00In_any _ _ _ _).mono ?_; rintro e w' ⟨rfl, rfl⟩)
  go_ret
  exact ⟨rfl, rfl⟩
theorem l05Budget_is {b : Int} {v : Bool} (h : inB b 1 20000 = v) (w : World) : Calls Try.prog 112 #[.int .i64 b] w fun e w' => e = .returned (.bool v) ∧ w = w' := h ▸ l05Budget_any b w
end Go.Proofs.Ytdlojbabnelbdaa

/-
  Budgets: impl.budgetOk, spec.l05Budget.
-/
namespace Go.Proofs.Ytdlojbabnelbdaa
open Go.RowKit
theorem budgetOk_any (b : Int) (w : World) : Calls Try.prog 91 #[.int .i64 b] w fun e w' => e = .returned (.bool (inB b 1 20000)) ∧ w = w' := by
  go_enter Try.func91, Try.ntmps91
  go_wp2_with (go_at_call 108; refine (within_any _ _ _ _).mono ?_; rintro e w' ⟨rfl, rfl⟩)
  go_ret
  exact ⟨rfl, rfl⟩
theorem budgetOk_is {b : Int} {v : Bool} (h : inB b 1 20000 = v) (w : World) : Calls Try.prog 91 #[.int .i64 b] w fun e w' => e = .returned (.bool v) ∧ w = w' := h ▸ budgetOk_any b w
end Go.Proofs.Ytdlojbabnelbdaa
