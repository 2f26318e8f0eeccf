/-
  Contract of the reference's TagLengths.
-/
import Derived.Test.YtldgfgjaabphnaaTagLenI
import Derived.Test.YtldgfgjaabphnaaRunTagS
namespace Go.Proofs.Ytldgfgjaabphnaa
open Go.RowKit

theorem l00Min_any (a b : Int) (w : World) : Calls Try.prog 75 #[.int .i64 a, .int .i64 b] w fun e w' => e = .returned (.int .i64 (if a < b then a else b)) ∧ w = w' := by
  by_cases h : a < b
  · have e : (if a < b then a else b) = a := if_pos h
    rw [e]
    clear e
    go_enter Try.func75, Try.ntmps75
    go_wp2_with fail
    go_ret
    exact ⟨rfl, rfl⟩
  · have e : (if a < b then a else b) = b := if_neg h
    rw [e]
    clear e
    go_enter Try.func75, Try.ntmps75
    go_wp2_with fail
    go_ret
    exact ⟨rfl, rfl⟩
theorem l00Max_g (a b : Int) (w : World) : Calls Try.prog 76 #[.int .i64 a, .int .i64 b] w fun e w' => e = .returned (.int .i64 (if b < a then a else b)) ∧ w = w' := by
  by_cases h : b < a
  · have e : (if b < a then a else b) = a := if_pos h
    rw [e]
    clear e
    go_enter Try.func76, Try.ntmps76
    go_wp2_with fail
    go_ret
    exact ⟨rfl, rfl⟩
  · have e : (if b < a then a else b) = b := if_neg h
    rw [e]
    clear e
    go_enter Try.func76, Try.ntmps76
    go_wp2_with fail
    go_ret
    exact ⟨rfl, rfl⟩

set_option maxRecDepth 100000 in
set_option maxHeartbeats 4000000 in
theorem tagLengthsS_any (d : Int) (A : Option Addr) (n c : Nat) (ts : List Sl) (B : Option Addr) (m k : Nat) (hs : List Int) (C : Option Addr) (l r : Nat) (xs : List Int) (b : Int) (w : World) (hx : SII w A n ts) (hy : SI w B m hs) (hz : SI w C l xs) (hn : n ≤ 1048576) (hm : m ≤ 1048576) (hns : ∀ t ∈ ts, t.xs.length ≤ 1048576) (hl : l ≤ 1048576) :
    Calls Try.prog 28 #[.agg #[.int .i64 d, .slice A n c, .slice B m k], .slice C l r, .int .i64 b] w (Ints3 w (tagLengthsF d (nums ts) hs xs b)) := by
  obtain ⟨W, hW_⟩ : ∃ W, W = w.alloc (.cells #[.int .i64 d, .slice A n c, .slice B m k] 29) := ⟨_, rfl⟩
  have b0 : Blk W w.heap.size 29 #[.int .i64 d, .slice A n c, .slice B m k] := by rw [hW_]; exact Blk.new w _ _
  have y0 : Below w.heap.size w W := by rw [hW_]; exact (Below.refl _ _).alloc (Nat.le_refl _) _
  have HW := Lib.hid hW_
  clear hW_
  have ht : TagAt W w.heap.size d A n c B m k := ⟨b0.cell 0, b0.cell 1, b0.cell 2⟩
  obtain rfl : xs.length = l := hz.len
  have HNS := Lib.hid hns
  clear hns
  go_enter Try.func28, Try.ntmps28
  go_wp2_with fail
  rw [← HW.out]
  refine (l09Ask_any _ _ _ _ _ ts _ _ _ hs _ _ _ xs _ ht (hx.below y0) (hy.below y0) (hz.below y0) hn hm hl (fun t ht => by have := HNS.out t ht; omega)).mono ?_
  rintro e w' ⟨rfl, q, rfl⟩
  have y2 := below_drewN y0 q
  have t2 := ht.drewN q
  generalize W.drewN q = w2 at *
  rcases tagCode_01 d (nums ts) hs xs with hcode | hcode
  rotate_left
  · have HF := Lib.hid (tagLengthsF_bad (b := b) hcode)
    rw [hcode]
    clear hcode
    go_wp2_with fail
    exact bodyPost_ret (v := .tuple #[.int .i64 0, .int .i64 0, .int .i64 1]) (by simp [results, Try.results28, go_sem]) rfl (ints3 HF.out y2)
  have HC := Lib.hid hcode
  have hd1 := (tagCode_parts hcode).1
  rw [hcode]
  clear hcode
  cases a2 : inB b 1 20000
  · have HF := Lib.hid (tagLengthsF_range HC.out a2)
    have A2 := Lib.hid a2
    clear a2
    go_wp2_with (go_at_call 60; refine (l05Budget_is A2.out _).mono ?_; rintro e w' ⟨rfl, rfl⟩)
    exact bodyPost_ret (v := .tuple #[.int .i64 0, .int .i64 0, .int .i64 2]) (by simp [results, Try.results28, go_sem]) rfl (ints3 HF.out y2)
  have A2 := Lib.hid a2
  have hb := (inB_iff _ _ _).1 a2
  obtain ⟨N, rfl⟩ : ∃ N : Nat, b = (N : Int) := ⟨b.toNat, by omega⟩
  clear a2
  obtain ⟨s, hs_⟩ : ∃ s, s = tagSys d (nums ts) hs := ⟨_, rfl⟩
  have HS := Lib.hid hs_
  have HFE : Hid (∀ i, s.Ended xs N i → tagLengthsF d (nums ts) hs xs (N : Int) = (lenLo s xs i, lenHi s xs i, 0)) := Lib.hid (fun i hi => by rw [hs_] at hi ⊢; exact tagLengthsF_ended HC.out A2.out hi)
  have HFF : Hid (∀ i, s.Full xs N i → tagLengthsF d (nums ts) hs xs (N : Int) = (0, 0, 5)) := Lib.hid (fun i hi => by rw [hs_] at hi; exact tagLengthsF_full HC.out A2.out hi)
  have HG : Hid (∀ i, s.Alive xs i → tagCodeF d (nums ts) hs (s.it xs i) = 0 ∧ (s.it xs i).length ≤ 1000) := Lib.hid (fun i hi => by
    rw [HS.out] at hi ⊢
    have h1 := tagAlive_good HC.out hi
    exact ⟨h1, (tagCode_parts h1).2.2.2.1⟩)
  clear hs_
  go_wp2_with (go_at_call 60; refine (l05Budget_is A2.out _).mono ?_; rintro e w' ⟨rfl, rfl⟩)
  refine (l00Own_any _ _ _ xs _ (hz.below y2) (by omega)).mono ?_
  rintro e w3 ⟨A3, c3, rfl, ho3, hb3⟩
  have y3 := y2.trans (hb3.mono y2.size)
  have t3 := t2.below hb3
  go_wp2_with fail
  go_loopw [10, 11, 12, 13] (fun v lo hi n wr => ∃ (i : Nat) (D : Option Addr) (cd : Nat), n = .int .i64 (i : Int) ∧ v = .slice D (s.it xs i).length cd ∧ lo = .int .i64 (lenLo s xs i) ∧ hi = .int .i64 (lenHi s xs i) ∧ i ≤ N ∧ s.Alive xs i ∧ Own wr w2.heap.size 2 1 D (s.it xs i).length cd (ints (s.it xs i)) ∧ Below w2.heap.size w2 wr) (fun _ _ _ n _ => N - (intOf n).toNat)
  case atStart => exact ⟨0, A3, c3, rfl, rfl, rfl, rfl, Nat.zero_le _, Sys.Alive.zero _ _, ho3, hb3⟩
  case round =>
    obtain ⟨i, D, cd, rfl, rfl, rfl, rfl, hi, hal, ho, hbr⟩ := hrel
    obtain ⟨hcode, hlen⟩ := HG.out i hal
    have HAL := Lib.hid hal
    have HCODE := Lib.hid hcode
    clear hal hcode ho3 hb3 t3 y3
    have yr := y2.trans (hbr.mono y2.size)
    have hhalt := l09Halts_g (C := D) (r := cd) (xs := s.it xs i) (t2.below hbr) (hy.below yr) ho.rd hm (by omega) hd1
    have HHALT := Lib.hid hhalt
    have HSH : Hid (s.halt (s.it xs i) = haltsB d hs (s.it xs i)) := Lib.hid (by rw [HS.out]; rfl)
    clear hhalt
    by_cases hlt : i < N
    · go_wp2_with fail
      refine HHALT.out.mono ?_
      rintro e w' ⟨rfl, q', rfl⟩
      have ho2 := ho.drewN q'
      have hb2 := below_drewN hbr q'
      generalize wr.drewN q' = W2 at *
      have yr2 := y2.trans (hb2.mono y2.size)
      cases hh : haltsB d hs (s.it xs i) with
      | true =>
        have HF := Lib.hid (HFE.out i ⟨hi, HAL.out, .inr (HSH.out.trans hh)⟩)
        clear hh
        go_wp2_with fail
        exact bodyPost_ret (v := .tuple #[.int .i64 (lenLo s xs i), .int .i64 (lenHi s xs i), .int .i64 0]) (by simp [results, Try.results28, go_sem]) rfl (ints3 HF.out yr2)
      | false =>
        have HH := Lib.hid (HSH.out.trans hh)
        have hstep := l09Step_g (C := D) (r := cd) (xs := s.it xs i) (t2.below hb2) (hx.below yr2) ho2.rd HCODE.out hh
        rw [← HS.out] at hstep
        have HSTEP := Lib.hid hstep
        clear hh hstep
        go_wp2_with fail
        refine HSTEP.out.mono ?_
        rintro e W3 ⟨A4, c4, rfl, ho4, hb4⟩
        have hb5 : Below w2.heap.size w2 W3 := hb2.trans (hb4.mono hb2.size)
        cases hr : s.room (s.it xs i) with
        | true =>
          have HAL1 := Lib.hid (HAL.out.step HH.out hr)
          have HLO : Hid (lenLo s xs (i + 1) = if lenLo s xs i < ((s.it xs (i + 1)).length : Int) then lenLo s xs i else (s.it xs (i + 1)).length) := Lib.hid rfl
          have HHI : Hid (lenHi s xs (i + 1) = if ((s.it xs (i + 1)).length : Int) < lenHi s xs i then lenHi s xs i else (s.it xs (i + 1)).length) := Lib.hid rfl
          have hle := (HG.out (i + 1) HAL1.out).2
          have HNX : Hid (s.it xs (i + 1) = s.next (s.it xs i)) := Lib.hid rfl
          rw [← HNX.out] at ho4 ⊢
          clear hr
          go_wp2_with (first | (go_at_call 75; refine (l00Min_any _ _ _).mono ?_; rintro e w' ⟨rfl, rfl⟩) | (go_at_call 76; refine (l00Max_g _ _ _).mono ?_; rintro e w' ⟨rfl, rfl⟩))
          rw [← HLO.out, ← HHI.out]
          go_roundw
          case rel => exact ⟨i + 1, A4, c4, by go_num, rfl, rfl, rfl, by omega, HAL1.out, ho4.mono hb2.size, hb5⟩
          case measure => simp [intOf]; omega
        | false =>
          have HF := Lib.hid (HFF.out i ⟨hlt, HAL.out, HH.out, hr⟩)
          clear hr
          go_wp2_with fail
          exact bodyPost_ret (v := .tuple #[.int .i64 0, .int .i64 0, .int .i64 5]) (by simp [results, Try.results28, go_sem]) rfl (ints3 HF.out (y2.trans (hb5.mono y2.size)))
    · have hiN : i = N := by omega
      have HF := Lib.hid (HFE.out i ⟨hi, HAL.out, .inl hiN⟩)
      clear hiN
      go_wp2_with fail
      exact bodyPost_ret (v := .tuple #[.int .i64 (lenLo s xs i), .int .i64 (lenHi s xs i), .int .i64 0]) (by simp [results, Try.results28, go_sem]) rfl (ints3 HF.out yr)
end Go.Proofs.Ytldgfgjaabphnaa
