/-
  Contracts of the laws' helpers over [][]bool: szBoolSS, toBoolSS, eqBoolSS, markBoolSS, heldBoolSS.
-/
import Derived.Test.YtfheepjfpgiaoaaHelpBo
import Derived.Test.YtfheepjfpgiaoaaHelpB
namespace Go.Proofs.Ytfheepjfpgiaoaa
open Go.RowKit

theorem elBB : Elem Try.prog 23 43 1 24 (.slice none 0 0) := ⟨Try.underlying23, by kernel_rfl, rfl, by decide⟩
set_option maxHeartbeats 400000 in
theorem szBB (A : Option Addr) (n c : Nat) (ts : List Bl) (left : Int) (w : World) (hx : SBB w A n ts) (hn : n ≤ 9223372036854775807) (hns : ∀ t ∈ ts, t.xs.length ≤ 9223372036854775807) (h0 : 0 ≤ left) (h1 : left ≤ 1048576) :
    Calls Try.prog 10 #[.slice A n c, .int .i64 left] w fun e w' => e = .returned (.int .i64 (szRows left (n :: ts.map (fun t => t.xs.length)))) ∧ w = w' := by
  by_cases h : left < n
  · have h2 : left - n < 0 := by omega
    go_enter Try.func10, Try.ntmps10
    go_wp2
    go_ret
    exact ⟨ret_int (by unfold szRows; rw [if_pos h]), rfl⟩
  · have h2 : ¬ left - n < 0 := by omega
    go_enter Try.func10, Try.ntmps10
    go_wp2
    go_loop [1, 5] (fun q i => ∃ (k : Nat) (z : Int), k ≤ n ∧ i = .int .i64 k ∧ q = .int .i64 z ∧ 0 ≤ z ∧ z ≤ 1048576 ∧ Hid (szRows left (n :: ts.map (fun t => t.xs.length)) = szRows z ((ts.drop k).map (fun t => t.xs.length)))) (fun _ i => n - (intOf i).toNat)
    case atStart => exact ⟨0, left - n, by omega, rfl, rfl, by omega, by omega, by show _ = _; rw [szRows, if_neg (by omega)]; simp⟩
    case round =>
      obtain ⟨k, z, hk, rfl, rfl, hz0, hz1, he⟩ := hrel
      by_cases hlt : k < n
      · obtain ⟨t, b, off, hT, htm, rfl, _, hc, hr⟩ := hx.pick hlt
        have hrl := hns t htm
        by_cases hzl : z < (t.xs.length : Int)
        · have HS : Hid (szF z (t.xs.length : Int) = -1) := by show _ = _; unfold szF; rw [if_pos hzl]
          go_wp2_with (go_at_call 61; refine (szBo _ _ _ _ _ (by omega) (by omega) (by omega)).mono ?_; rintro e w' ⟨rfl, rfl⟩; rw [HS.out])
          go_ret
          refine ⟨ret_int ?_, rfl⟩
          rw [he.out, szRowsB_at hT.out, if_pos hzl]
        · have HS : Hid (szF z (t.xs.length : Int) = z - (t.xs.length : Int)) := by show _ = _; unfold szF; rw [if_neg hzl]
          go_wp2_with (go_at_call 61; refine (szBo _ _ _ _ _ (by omega) (by omega) (by omega)).mono ?_; rintro e w' ⟨rfl, rfl⟩; rw [HS.out])
          refine ⟨⟨k + 1, _, by omega, by go_num, rfl, by omega, by omega, ?_⟩, by simp [intOf]; omega⟩
          show _ = _
          rw [he.out, szRowsB_at hT.out, if_neg (by omega)]
      · go_wp2
        go_ret
        refine ⟨ret_int ?_, rfl⟩
        have := hx.len
        rw [he.out, List.drop_eq_nil_of_le (by omega)]
        rfl
set_option maxHeartbeats 400000 in
theorem eqBB (A B : Option Addr) (n m c d : Nat) (ts us : List Bl) (w : World) (hx : SBB w A n ts) (hy : SBB w B m us) (hn : n ≤ 9223372036854775807) (hns : ∀ t ∈ ts, t.xs.length ≤ 9223372036854775807) :
    Calls Try.prog 15 #[.slice A n c, .slice B m d] w fun e w' => e = .returned (.bool (sameBB (numsB ts) (numsB us))) ∧ ∃ q, w' = w.drewN q := by
  by_cases hnm : n = m
  · subst hnm
    go_enter Try.func15, Try.ntmps15
    go_wp2
    go_loopw [5] (fun i wr => ∃ k q : Nat, k ≤ n ∧ i = .int .i64 k ∧ Hid ((numsB ts).take k = (numsB us).take k) ∧ wr = w.drewN q) (fun i _ => n - (intOf i).toNat)
    case atStart => exact ⟨0, 0, by omega, rfl, rfl, rfl⟩
    case round =>
      obtain ⟨k, q, hk, rfl, he, rfl⟩ := hrel
      by_cases hlt : k < n
      · obtain ⟨t, b, off, hT, htm, rfl, _, hc, hr⟩ := hx.pick hlt
        obtain ⟨u, b', off', hU, hum, rfl, _, hc', hr'⟩ := hy.pick hlt
        have hrl := hns t htm
        go_wp2
        go_quiet ((go_at_call 73; exact quiet_add (eqBo _ _ _ _ _ _ _ _ _ (hr.drewN _) (hr'.drewN _) hrl)))
        go_wp2
        · go_ret
          exact ⟨ret_bool (sameBB_ne hT.out hU.out (by assumption)), _, World.drewN_drewN _ _ _⟩
        · exact ⟨⟨k + 1, _, by omega, by go_num, numsB_next hT.out hU.out he.out (by assumption), rfl⟩, by simp [intOf]; omega⟩
      · go_wp2
        go_ret
        exact ⟨ret_bool (sameBB_eq (by omega) hx.len hy.len he.out), _, rfl⟩
  · have hne : ((n : Int) != (m : Int)) = true := by simp; omega
    go_enter Try.func15, Try.ntmps15
    go_wp2
    go_ret
    exact ⟨ret_bool (by have := hx.len; have := hy.len; unfold sameBB; symm; rw [decide_eq_false_iff_not]; intro h; have := congrArg List.length h; simp [numsB] at this; omega), 0, rfl⟩
def ToBB (w : World) (n : Nat) (xss : List (List Bool)) (e : Ending) (w' : World) : Prop :=
  ∃ A us, e = .returned (.slice A n n) ∧ OBB w' w.heap.size 43 4 A n n us ∧ numsB us = xss ∧ (∀ u ∈ us, u.c = u.xs.length) ∧ Below w.heap.size w w'
set_option maxHeartbeats 400000 in
theorem toBB (A : Option Addr) (n c : Nat) (ts : List Bl) (w : World) (hx : SBB w A n ts) (hn : n ≤ 1048576) (hns : ∀ t ∈ ts, t.xs.length ≤ 1048576) :
    Calls Try.prog 13 #[.slice A n c] w (ToBB w n (numsB ts)) := by
  have HL := Lib.hid hx.len
  have hxl : n ≤ ts.length := by have := hx.len; omega
  have hxl' : ts.length ≤ n := by have := hx.len; omega
  go_enter Try.func13, Try.ntmps13
  go_wp2_with (at_make; refine wpList_make_Own rfl (.tmp 6) (.tmp 6) rfl elBB (n := n) (lo := w.heap.size) rfl rfl (by omega) (by unfold maxLen; omega) (Nat.le_refl _) ?_; intro w2 ho2 hb2 hs2)
  rw [madeB_rows n] at ho2
  have HS := Lib.hid hs2
  clear hs2
  go_loopw [4] (fun i wr => ∃ (k : Nat) (us : List Bl), k ≤ n ∧ i = .int .i64 k ∧ Hid (us.length = k) ∧ Hid (numsB us = (numsB ts).take k) ∧ Own wr w.heap.size 43 1 (some ⟨w.heap.size, 0, none⟩) n n (halfB us (n - k)) ∧
    Hid (∀ u ∈ us, Own wr w.heap.size 4 1 u.A u.xs.length u.c (bools u.xs) ∧ u.c = u.xs.length) ∧ us.Pairwise AptB ∧ Below w.heap.size w wr) (fun i _ => n - (intOf i).toNat)
  case atStart => exact ⟨0, [], by omega, rfl, rfl, by simp [numsB, Hid], ho2, fun _ h => absurd h (by simp), List.Pairwise.nil, hb2⟩
  case round =>
    obtain ⟨k, us, hk, rfl, hul, hnu, ho, hu, hp, hb⟩ := hrel
    by_cases hlt : k < n
    · obtain ⟨t, b, off, hT, htm, rfl, hbl, hc, hr⟩ := (hx.below hb).pick hlt
      have hrl := hns t htm
      go_wp2_with fail
      refine (toBo _ _ _ _ _ hr (by omega)).mono ?_
      rintro e w3 ⟨A3, rfl, ho3, hb3⟩
      have hwz : w.heap.size < wr.heap.size := ho.blk_lt w.heap.size rfl
      have ho4 := ho.below hb3
      have hkl : k < (halfB us (n - k)).length := by rw [halfB_len, hul.out]; omega
      obtain ⟨b', off', he, hlo, _, hc', hf'⟩ := ho4.at_ hkl
      simp only [Option.some.injEq, Addr.mk.injEq, and_true] at he
      obtain ⟨rfl, rfl⟩ := he
      have ho5 := ho4.set_ hkl (.slice A3 t.xs.length t.xs.length)
      have e5 : (halfB us (n - k)).set k (.slice A3 t.xs.length t.xs.length) = halfB (us ++ [⟨A3, t.xs.length, t.xs⟩]) (n - (k + 1)) := by
        have := halfB_next us (n - (k + 1)) ⟨A3, t.xs.length, t.xs⟩
        rw [hul.out, show n - (k + 1) + 1 = n - k from by omega] at this
        exact this
      rw [e5] at ho5
      simp only [Nat.zero_add] at hc' hf' ho5
      have hb5 := ((hb.trans (hb3.mono (by omega))).setCell (p := ⟨w.heap.size, k, none⟩) (Nat.le_refl _) (.slice A3 t.xs.length t.xs.length))
      have hu5 : Hid (∀ u ∈ us ++ [(⟨A3, t.xs.length, t.xs⟩ : Bl)], Own (w3.setCell ⟨w.heap.size, k, none⟩ (.slice A3 t.xs.length t.xs.length)) w.heap.size 4 1 u.A u.xs.length u.c (bools u.xs) ∧ u.c = u.xs.length) := by
        intro u hum
        rcases List.mem_append.1 hum with h | h
        · refine ⟨((hu.out u h).1.below hb3).far (p := ⟨w.heap.size, k, none⟩) (fun e => ?_) _, (hu.out u h).2⟩
          exact Own.blk_ne ((hu.out u h).1) ho (by decide) _ e rfl
        · simp only [List.mem_singleton] at h
          subst h
          refine ⟨(ho3.mono (by omega)).far (p := ⟨w.heap.size, k, none⟩) (fun e => ?_) _, rfl⟩
          have := ho3.blk_ge _ e
          simp only at this; omega
      have hp5 : (us ++ [(⟨A3, t.xs.length, t.xs⟩ : Bl)]).Pairwise AptB := AptB.snoc hp (fun u hum b hb1 hb2 => by
        have h1 := (hu.out u hum).1.blk_lt b hb1
        have h2 := ho3.blk_ge b hb2
        omega)
      have hnu5 : Hid (numsB (us ++ [(⟨A3, t.xs.length, t.xs⟩ : Bl)]) = (numsB ts).take (k + 1)) := numsB_takeB_next hT.out hnu.out rfl
      have hul5 : Hid ((us ++ [(⟨A3, t.xs.length, t.xs⟩ : Bl)]).length = k + 1) := by show _ = _; rw [List.length_append, hul.out]; rfl
      clear e5 ho4 ho
      go_wp2
      exact ⟨⟨k + 1, _, by omega, by go_num, hul5, hnu5, ho5, hu5, hp5, hb5⟩, by simp [intOf]; omega⟩
    · go_wp2
      go_ret
      have e1 : n - k = 0 := by omega
      have hoo := ho
      rw [e1, halfB_end] at hoo
      refine ⟨_, us, rfl, ⟨hoo, fun u h => (hu.out u h).1, hp⟩, ?_, fun u h => (hu.out u h).2, hb⟩
      rw [hnu.out, List.take_of_length_le (by simp [numsB]; omega)]
theorem totalB_take {ts : List Bl} {t : Bl} {k : Nat} (hT : ts[k]? = some t) : totalB (ts.take (k + 1)) = totalB (ts.take k) + t.xs.length := by
  obtain ⟨h, rfl⟩ := List.getElem?_eq_some_iff.1 hT
  unfold totalB; rw [List.take_succ_eq_append_getElem h, List.map_append, List.sum_append]; simp
theorem totalB_take_le (ts : List Bl) (k : Nat) : totalB (ts.take k) ≤ totalB ts := by
  have e : totalB ts = totalB (ts.take k) + totalB (ts.drop k) := by unfold totalB; rw [← List.sum_append, ← List.map_append, List.take_append_drop]
  omega
set_option maxHeartbeats 400000 in
theorem markBB_m (T : List TypeId) (A : Option Addr) (n c : Nat) (ts : List Bl) (m : Int) (w : World) (lo hi : Nat) (hx : MkBB w lo hi 43 4 A n c ts) (hT : 4 ∈ T) (hT2 : 43 ∉ T) (hn : n ≤ 9223372036854775807) (h0 : 0 ≤ m) (h1 : m + totalB ts ≤ 9223372036854775807) :
    Calls Try.prog 18 #[.slice A n c, .int .i64 m] w (MarkP T w lo hi (totalB ts) m) := by
  have hl : ts.length = n := by have := hx.1.1; simp at this; omega
  have HL := Lib.hid hl
  have HT := Lib.hid hT
  have HT2 := Lib.hid hT2
  clear hl hT hT2
  go_enter Try.func18, Try.ntmps18
  go_wp2
  go_loopw [1, 5] (fun q i wr => ∃ k : Nat, k ≤ n ∧ i = .int .i64 k ∧ q = .int .i64 (m + totalB (ts.take k)) ∧ MkBB wr lo hi 43 4 A n c ts ∧ MkF T lo hi w wr) (fun _ i _ => n - (intOf i).toNat)
  case atStart => exact ⟨0, by omega, rfl, by simp [totalB], hx, MkF.refl _ _ _ _⟩
  case round =>
    obtain ⟨k, hk, rfl, rfl, ho, ht⟩ := hrel
    by_cases hlt : k < n
    · have hkl : k < ts.length := by have := HL.out; omega
      obtain ⟨t, hT⟩ : ∃ t, ts[k]? = some t := ⟨ts[k], List.getElem?_eq_getElem hkl⟩
      have hmem : t ∈ ts := List.mem_of_getElem? hT
      have HTO := Lib.hid (totalB_take hT)
      have hle := totalB_take_le ts (k + 1)
      obtain ⟨b, off, rfl, _, _, hc, _⟩ := ho.1.at_ (k := k) (by simpa using hkl)
      have hcv : wr.cell? ⟨b, off + k, none⟩ = some (.slice t.A t.xs.length t.c) := by rw [hc]; obtain ⟨h, rfl⟩ := List.getElem?_eq_some_iff.1 hT; simp [Bl.val]
      have hle2 : (totalB (ts.take k) : Int) + t.xs.length ≤ totalB ts := by have := HTO.out; omega
      clear hc hT hle
      go_wp2_with (go_at_call 76; refine (markBo_m T _ _ _ _ _ lo hi (ho.2 t hmem) HT.out (by omega) (by omega)).mono ?_; rintro e w3 ⟨rfl, ht3⟩)
      refine ⟨⟨k + 1, by omega, by go_num, ?_, ho.mkf ht3 HT2.out, ht.trans ht3⟩, by simp [intOf]; omega⟩
      rw [HTO.out]; go_num
    · go_wp2
      go_ret
      refine ⟨ret_int ?_, ht⟩
      rw [List.take_of_length_le (by have := HL.out; omega)]
def offsB (us : List Bl) (k : Nat) : Nat := totalB (us.take k)
theorem offsB_zero (us : List Bl) : offsB us 0 = 0 := by simp [offsB, totalB]
theorem offsB_next {us : List Bl} {t : Bl} {k : Nat} (hT : us[k]? = some t) : offsB us (k + 1) = offsB us k + t.xs.length := totalB_take hT
theorem offsB_le (us : List Bl) (k : Nat) : offsB us k ≤ totalB us := totalB_take_le us k
theorem offsB_end {us : List Bl} {k : Nat} (h : us.length ≤ k) : offsB us k = totalB us := by unfold offsB; rw [List.take_of_length_le h]
/-- The rows hold marksB that run on from row to row. -/
def MarkedBB (w : World) (A : Option Addr) (n : Nat) (us : List Bl) (p : Int) : Prop := Rd w 1 A n (us.map Bl.val) ∧ ∀ k t, us[k]? = some t → SB w t.A t.xs.length (marksB (p + offsB us k) t.xs.length)
theorem MarkedBB.below {w w' : World} {A : Option Addr} {n : Nat} {us : List Bl} {p : Int} (h : MarkedBB w A n us p) (z : Below w.heap.size w w') : MarkedBB w' A n us p := ⟨h.1.below z, fun k t ht => (h.2 k t ht).below z⟩
def MarkBB (w : World) (lo hi : Nat) (A : Option Addr) (n : Nat) (us : List Bl) (p : Int) (e : Ending) (w' : World) : Prop := e = .returned (.int .i64 (p + totalB us)) ∧ MarkedBB w' A n us p ∧ Tch lo hi w w'
/-- What holds behind the first k rows. -/
def MarkToB (w : World) (lo hi : Nat) (A : Option Addr) (n c : Nat) (us : List Bl) (p : Int) (k : Nat) (wr : World) : Prop :=
  Own wr lo 43 1 A n c (us.map Bl.val) ∧ (∀ j t, us[j]? = some t → j < k → SB wr t.A t.xs.length (marksB (p + offsB us j) t.xs.length)) ∧ (∀ j t, us[j]? = some t → k ≤ j → Own wr lo 4 1 t.A t.xs.length t.c (bools t.xs)) ∧ Tch lo hi w wr
theorem aptB_of {us : List Bl} (h : us.Pairwise AptB) {i j : Nat} {t u : Bl} (hi : us[i]? = some t) (hj : us[j]? = some u) (hne : i ≠ j) : ∀ b, blk t.A = some b → blk u.A ≠ some b := by
  obtain ⟨hi1, rfl⟩ := List.getElem?_eq_some_iff.1 hi
  obtain ⟨hj1, rfl⟩ := List.getElem?_eq_some_iff.1 hj
  rw [List.pairwise_iff_getElem] at h
  rcases Nat.lt_or_gt_of_ne hne with hlt | hlt
  · exact h i j hi1 hj1 hlt
  · intro b h1 h2
    exact h j i hj1 hi1 hlt b h2 h1
theorem MarkToB.step {w wr w' : World} {lo hi : Nat} {A : Option Addr} {n c : Nat} {us : List Bl} {p : Int} {k : Nat} {t : Bl} (h : MarkToB w lo hi A n c us p k wr) (hap : us.Pairwise AptB) (hT : us[k]? = some t) (hne : 4 ≠ 43) (ho : OwnBo w' lo 4 t.A t.xs.length t.c (marksB (p + offsB us k) t.xs.length)) (ht : Tch lo hi wr w') (hs : ∀ b, blk t.A ≠ some b → w'.heap[b]? = wr.heap[b]?) : MarkToB w lo hi A n c us p (k + 1) w' := by
  obtain ⟨h1, h2, h3, h4⟩ := h
  have hrow := h3 k t hT (Nat.le_refl _)
  refine ⟨h1.kept fun b hb _ _ => hs b (fun e => hrow.blk_ne h1 hne b e hb), ?_, ?_, h4.trans ht⟩
  · intro j u hu hj
    by_cases e : j = k
    · subst e
      rw [hT] at hu
      cases hu
      exact ho.si
    · refine Rd.keep (h2 j u hu (by omega)) fun q hq hbq => ?_
      exact World.cell?_of_block (hs q.block (fun e2 => aptB_of hap hT hu (Ne.symm e) q.block e2 hbq.symm))
  · intro j u hu hj
    exact (h3 j u hu (by omega)).kept fun b hb _ _ => hs b (fun e2 => aptB_of hap hT hu (by omega) b e2 hb)

set_option maxHeartbeats 1000000 in
theorem markBB_c (A : Option Addr) (n c : Nat) (us : List Bl) (p : Int) (w : World) (lo hi : Nat) (o : OBB w lo 43 4 A n c us) (hh : ∀ t ∈ us, ∀ b, blk t.A = some b → b < hi) (hne : 4 ≠ 43) (hn : n ≤ 1048576) (ht : totalB us ≤ 1048576) (g0 : 0 ≤ p) (g1 : p ≤ 1000000000) :
    Calls Try.prog 18 #[.slice A n c, .int .i64 p] w (MarkBB w lo hi A n us p) := by
  have hl : us.length = n := by have := o.1.1; simp at this; omega
  have HL := Lib.hid hl
  have HO := Lib.hid o
  have HNE := Lib.hid hne
  have HH := Lib.hid hh
  clear hl hne hh
  have hst : MarkToB w lo hi A n c us p 0 w := ⟨o.1, fun j t _ hj => absurd hj (Nat.not_lt_zero j), fun j t hT _ => o.2.1 t (List.mem_of_getElem? hT), Tch.refl _ _ _⟩
  clear o
  go_enter Try.func18, Try.ntmps18
  go_wp2
  go_loopw [1, 5] (fun q i wr => ∃ k : Nat, k ≤ n ∧ i = .int .i64 k ∧ q = .int .i64 (p + offsB us k) ∧ MarkToB w lo hi A n c us p k wr) (fun _ i _ => n - (intOf i).toNat)
  case atStart => exact ⟨0, by omega, rfl, by simp [offsB_zero], hst⟩
  case round =>
    obtain ⟨k, hk, rfl, rfl, hM⟩ := hrel
    have hof := offsB_le us k
    by_cases hlt : k < n
    · have hkl : k < us.length := by have := HL.out; omega
      obtain ⟨t, hT⟩ : ∃ t, us[k]? = some t := ⟨us[k], List.getElem?_eq_getElem hkl⟩
      have hof1 := offsB_le us (k + 1)
      have HOF := Lib.hid (offsB_next hT)
      have hle : offsB us k + t.xs.length ≤ totalB us := by have := HOF.out; omega
      obtain ⟨b, off, rfl, _, _, hc, _⟩ := hM.1.at_ (k := k) (by simpa using hkl)
      have hcv : wr.cell? ⟨b, off + k, none⟩ = some (.slice t.A t.xs.length t.c) := by rw [hc]; obtain ⟨h, rfl⟩ := List.getElem?_eq_some_iff.1 hT; simp [Bl.val]
      have HT := Lib.hid hT
      have hrow := hM.2.2.1 k t hT (Nat.le_refl _)
      have HBL : Hid (∀ b, blk t.A = some b → b < hi) := fun b hb => HH.out t (List.mem_of_getElem? HT.out) b hb
      clear hc hT hof1
      go_wp2_with fail
      refine (markBo _ _ _ t.xs _ _ lo hi (.inr hrow) HBL.out (by omega) (by omega)).mono ?_
      rintro e w3 ⟨rfl, oo, t3, s3⟩
      have hM2 := MarkToB.step hM HO.out.2.2 HT.out HNE.out oo t3 s3
      go_wp2_with fail
      go_roundw
      case rel => exact ⟨k + 1, by omega, by go_num, by rw [HOF.out]; go_num, hM2⟩
      case measure => simp [intOf]; omega
    · have hkn : k = us.length := by have := HL.out; omega
      go_wp2
      go_ret
      refine ⟨ret_int ?_, ⟨hM.1.rd, fun j t hT => hM.2.1 j t hT ?_⟩, hM.2.2.2⟩
      · rw [offsB_end (by omega)]
      · have := (List.getElem?_eq_some_iff.1 hT).1; omega

set_option maxHeartbeats 1000000 in
theorem heldBB_c (A : Option Addr) (n c : Nat) (us : List Bl) (p : Int) (w : World) (h : MarkedBB w A n us p) (hn : n ≤ 1048576) (ht : totalB us ≤ 1048576) (g0 : 0 ≤ p) (g1 : p ≤ 1000000000) :
    Calls Try.prog 19 #[.slice A n c, .int .i64 p] w fun e w' => e = .returned (.int .i64 (p + totalB us)) ∧ Below w.heap.size w w' := by
  have hl : us.length = n := by have := h.1.1; simp at this; omega
  have HL := Lib.hid hl
  clear hl
  go_enter Try.func19, Try.ntmps19
  go_wp2
  go_loop [1, 5] (fun q i => ∃ k : Nat, k ≤ n ∧ i = .int .i64 k ∧ q = .int .i64 (p + offsB us k)) (fun _ i => n - (intOf i).toNat)
  case atStart => exact ⟨0, by omega, rfl, by simp [offsB_zero]⟩
  case round =>
    obtain ⟨k, hk, rfl, rfl⟩ := hrel
    have hof := offsB_le us k
    by_cases hlt : k < n
    · have hkl : k < us.length := by have := HL.out; omega
      obtain ⟨t, hT⟩ : ∃ t, us[k]? = some t := ⟨us[k], List.getElem?_eq_getElem hkl⟩
      have hof1 := offsB_le us (k + 1)
      have HOF := Lib.hid (offsB_next hT)
      have hle : offsB us k + t.xs.length ≤ totalB us := by have := HOF.out; omega
      obtain ⟨b, off, rfl, _, hc⟩ := h.1.at_ (k := k) (by simpa using hkl)
      have hcv : w.cell? ⟨b, off + k, none⟩ = some (.slice t.A t.xs.length t.c) := by rw [hc]; obtain ⟨h, rfl⟩ := List.getElem?_eq_some_iff.1 hT; simp [Bl.val]
      have hrow := h.2 k t hT
      have gneg : ¬ (p + (offsB us k : Int) + (t.xs.length : Int) < 0) := by omega
      clear hc hT hof1
      go_wp2_with fail
      refine (heldBo _ _ _ (marksB (p + offsB us k) t.xs.length) _ _ hrow (by omega) (by omega)).mono ?_
      rintro e w3 ⟨rfl, rfl⟩
      rw [heldBF_marks]
      go_wp2_with fail
      go_round
      case rel => exact ⟨k + 1, by omega, by go_num, by rw [HOF.out]; go_num⟩
      case measure => simp [intOf]; omega
    · have hkn : k = us.length := by have := HL.out; omega
      go_wp2
      go_ret
      exact ⟨ret_int (by rw [offsB_end (by omega)]), Below.refl _ _⟩
theorem totalB_of_nums (us : List Bl) : totalB us = ((numsB us).map List.length).sum := by unfold totalB numsB; rw [List.map_map]; rfl
theorem totalB_of {us : List Bl} {M : List (List Bool)} {b : Nat} (h : numsB us = M) (hl : (M.map List.length).sum ≤ b) : totalB us ≤ b := by rw [totalB_of_nums, h]; exact hl
end Go.Proofs.Ytfheepjfpgiaoaa
