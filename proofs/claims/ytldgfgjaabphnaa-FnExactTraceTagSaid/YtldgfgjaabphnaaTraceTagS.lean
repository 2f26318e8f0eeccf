/-
  Contract of the reference's TraceTag.
-/
import Derived.Test.YtldgfgjaabphnaaTraceTagI
import Derived.Test.YtldgfgjaabphnaaRunTagS
namespace Go.Proofs.Ytldgfgjaabphnaa
open Go.RowKit

set_option maxRecDepth 100000 in
set_option maxHeartbeats 4000000 in
theorem traceTagS_any (d : Int) (A : Option Addr) (n c : Nat) (ts : List Sl) (B : Option Addr) (m k : Nat) (hs : List Int) (C : Option Addr) (l r : Nat) (xs : List Int) (b : Int) (w : World) (hx : SII w A n ts) (hy : SI w B m hs) (hz : SI w C l xs) (hn : n ≤ 1048576) (hm : m ≤ 1048576) (hns : ∀ t ∈ ts, t.xs.length ≤ 1048576) (hl : l ≤ 1048576) :
    Calls Try.prog 23 #[.agg #[.int .i64 d, .slice A n c, .slice B m k], .slice C l r, .int .i64 b] w (NewII w (traceTagF d (nums ts) hs xs b)) := by
  obtain ⟨W, hW_⟩ : ∃ W, W = w.alloc (.cells #[.int .i64 d, .slice A n c, .slice B m k] 29) := ⟨_, rfl⟩
  have b0 : Blk W w.heap.size 29 #[.int .i64 d, .slice A n c, .slice B m k] := by rw [hW_]; exact Blk.new w _ _
  have y0 : Below w.heap.size w W := by rw [hW_]; exact (Below.refl _ _).alloc (Nat.le_refl _) _
  have HW := Lib.hid hW_
  clear hW_
  have ht : TagAt W w.heap.size d A n c B m k := ⟨b0.cell 0, b0.cell 1, b0.cell 2⟩
  obtain rfl : xs.length = l := hz.len
  have HNS := Lib.hid hns
  clear hns
  go_enter Try.func23, Try.ntmps23
  go_wp2_with fail
  rw [← HW.out]
  refine (l09Ask_any _ _ _ _ _ ts _ _ _ hs _ _ _ xs _ ht (hx.below y0) (hy.below y0) (hz.below y0) hn hm hl (fun t ht => by have := HNS.out t ht; omega)).mono ?_
  rintro e w' ⟨rfl, q, rfl⟩
  have y2 := below_drewN y0 q
  have t2 := ht.drewN q
  generalize W.drewN q = w2 at *
  rcases tagCode_01 d (nums ts) hs xs with hcode | hcode
  rotate_left
  · have HF := Lib.hid (traceTagF_bad (b := b) hcode)
    rw [hcode]
    clear hcode
    go_wp2_with fail
    exact bodyPost_ret (v := .tuple #[.slice none 0 0, .int .i64 1]) (by simp [results, Try.results23, go_sem]) rfl (newII_nil HF.out y2)
  have HC := Lib.hid hcode
  have hd1 := (tagCode_parts hcode).1
  rw [hcode]
  clear hcode
  cases a2 : inB b 0 60
  · have HF := Lib.hid (traceTagF_range HC.out a2)
    have A2 := Lib.hid a2
    clear a2
    go_wp2_with (go_at_call 69; refine (l00In_is A2.out _).mono ?_; rintro e w' ⟨rfl, rfl⟩)
    exact bodyPost_ret (v := .tuple #[.slice none 0 0, .int .i64 2]) (by simp [results, Try.results23, go_sem]) rfl (newII_nil HF.out y2)
  have A2 := Lib.hid a2
  have hb := (inB_iff _ _ _).1 a2
  obtain ⟨N, rfl⟩ : ∃ N : Nat, b = (N : Int) := ⟨b.toNat, by omega⟩
  clear a2
  obtain ⟨s, hs_⟩ : ∃ s, s = tagSys d (nums ts) hs := ⟨_, rfl⟩
  have HS := Lib.hid hs_
  have HFE : Hid (∀ i, s.Ended xs N i → traceTagF d (nums ts) hs xs (N : Int) = (wordsTo s xs (i + 1), 0)) := Lib.hid (fun i hi => by rw [hs_] at hi ⊢; exact traceTagF_ended HC.out A2.out hi)
  have HFF : Hid (∀ i, s.Full xs N i → traceTagF d (nums ts) hs xs (N : Int) = ([], 5)) := Lib.hid (fun i hi => by rw [hs_] at hi; exact traceTagF_full HC.out A2.out hi)
  have HG : Hid (∀ i, s.Alive xs i → tagCodeF d (nums ts) hs (s.it xs i) = 0 ∧ (s.it xs i).length ≤ 1000) := Lib.hid (fun i hi => by
    rw [HS.out] at hi ⊢
    have h1 := tagAlive_good HC.out hi
    exact ⟨h1, (tagCode_parts h1).2.2.2.1⟩)
  clear hs_
  go_wp2_with (go_at_call 69; refine (l00In_is A2.out _).mono ?_; rintro e w' ⟨rfl, rfl⟩)
  refine (l00Own_any _ _ _ xs _ (hz.below y2) (by omega)).mono ?_
  rintro e w3 ⟨A3, c3, rfl, ho3, hb3⟩
  have y3 := y2.trans (hb3.mono y2.size)
  obtain ⟨W4, hW_⟩ : ∃ W_, W_ = w3.alloc (.cells #[.slice A3 xs.length c3] 23) := ⟨_, rfl⟩
  have b4 : Blk W4 w3.heap.size 23 #[.slice A3 xs.length c3] := by rw [hW_]; exact Blk.new w3 _ _
  have z4 : Below w3.heap.size w3 W4 := by rw [hW_]; exact (Below.refl _ _).alloc (Nat.le_refl _) _
  have HW4 := Lib.hid hW_
  clear hW_
  have y4 := y3.trans (z4.mono y3.size)
  have hb4 := hb3.trans (z4.mono hb3.size)
  have hI4 : OII W4 w2.heap.size 23 2 (some ⟨w3.heap.size, 0, none⟩) 1 1 [⟨A3, c3, xs⟩] := by
    refine OII.one ?_ (ho3.below z4)
    rw [HW4.out]
    exact Own.lit w3 #[.slice A3 xs.length c3] _ 1 1 w2.heap.size rfl (by simp [maxLen]) hb3.size
  have hnu4 : Hid (nums [(⟨A3, c3, xs⟩ : Sl)] = wordsTo s xs 1) := Lib.hid (by simp [nums, wordsTo, Sys.it])
  go_wp2_with fail
  rw [← HW4.out]
  clear HW4
  refine (l00Own_any _ _ _ xs _ (hz.below y4) (by omega)).mono ?_
  rintro e w5 ⟨A5, c5, rfl, ho5, hb5⟩
  have y5 := y4.trans (hb5.mono y4.size)
  have hb5' := hb4.trans (hb5.mono hb4.size)
  have hI5 := hI4.below hb5
  have ho5' := ho5.mono (show w2.heap.size ≤ W4.heap.size from hb4.size)
  generalize ([⟨A3, c3, xs⟩] : List Sl) = us0 at *
  clear ho3 hb3 y3 hI4 ho5 hb4 y4 hb5
  go_wp2_with fail
  go_loopw [2, 9, 10] (fun n out v wr => ∃ (i : Nat) (D : Option Addr) (cd : Nat) (E : Option Addr) (ce : Nat) (us : List Sl), n = .int .i64 ((N : Int) - (i : Int)) ∧ v = .slice D (s.it xs i).length cd ∧ out = .slice E (i + 1) ce ∧ i ≤ N ∧ s.Alive xs i ∧ Own wr w2.heap.size 2 1 D (s.it xs i).length cd (ints (s.it xs i)) ∧ OII wr w2.heap.size 23 2 E (i + 1) ce us ∧ Hid (nums us = wordsTo s xs (i + 1)) ∧ Below w2.heap.size w2 wr) (fun n _ _ _ => (intOf n).toNat)
  case atStart => exact ⟨0, A5, c5, _, 1, us0, by simp, rfl, rfl, Nat.zero_le _, Sys.Alive.zero _ _, ho5', hI5, hnu4, hb5'⟩
  case round =>
    obtain ⟨i, D, cd, E, ce, us, rfl, rfl, rfl, hi, hal, ho, hI, hnu, hbr⟩ := hrel
    obtain ⟨hcode, hlen⟩ := HG.out i hal
    have HAL := Lib.hid hal
    have HCODE := Lib.hid hcode
    clear hal hcode ho5' hI5 hnu4 hb5' y5
    have yr := y2.trans (hbr.mono y2.size)
    have hhalt := l09Halts_g (C := D) (r := cd) (xs := s.it xs i) (t2.below hbr) (hy.below yr) ho.rd hm (by omega) hd1
    have HHALT := Lib.hid hhalt
    have HSH : Hid (s.halt (s.it xs i) = haltsB d hs (s.it xs i)) := Lib.hid (by rw [HS.out]; rfl)
    clear hhalt
    by_cases hlt : i < N
    · have hgt : decide ((0 : Int) < (N : Int) - (i : Int)) = true := by simp; omega
      go_wp2_with fail
      refine HHALT.out.mono ?_
      rintro e w' ⟨rfl, q', rfl⟩
      have ho2 := ho.drewN q'
      have hI2 := hI.drewN q'
      have hb2 := below_drewN hbr q'
      generalize wr.drewN q' = W2 at *
      have yr2 := y2.trans (hb2.mono y2.size)
      cases hh : haltsB d hs (s.it xs i) with
      | true =>
        have HF := Lib.hid (HFE.out i ⟨hi, HAL.out, .inr (HSH.out.trans hh)⟩)
        clear hh
        go_wp2_with fail
        exact bodyPost_ret (v := .tuple #[.slice E (i + 1) ce, .int .i64 0]) (by simp [results, Try.results23, go_sem]) rfl (newII_of HF.out hnu.out (hI2.mono y2.size) yr2)
      | false =>
        have HH := Lib.hid (HSH.out.trans hh)
        have hstep := l09Step_g (C := D) (r := cd) (xs := s.it xs i) (t2.below hb2) (hx.below yr2) ho2.rd HCODE.out hh
        rw [← HS.out] at hstep
        have HSTEP := Lib.hid hstep
        clear hh hstep
        go_wp2_with fail
        refine HSTEP.out.mono ?_
        rintro e W3 ⟨A4, c4, rfl, ho4, hb4⟩
        have hI3 := hI2.below hb4
        have hb6 : Below w2.heap.size w2 W3 := hb2.trans (hb4.mono hb2.size)
        cases hr : s.room (s.it xs i) with
        | true =>
          have HAL1 := Lib.hid (HAL.out.step HH.out hr)
          have hle := (HG.out (i + 1) HAL1.out).2
          have HNX : Hid (s.it xs (i + 1) = s.next (s.it xs i)) := Lib.hid rfl
          have HWN := Lib.hid (wordsTo_next s xs (i + 1))
          rw [← HNX.out] at ho4 ⊢
          clear hr
          generalize s.it xs (i + 1) = ys at *
          go_wp2_with fail
          refine (l00Own_any _ _ _ ys _ ho4.rd (by omega)).mono ?_
          rintro e W5 ⟨A6, c6, rfl, ho6, hb7⟩
          have hI5 := hI3.below hb7
          have ho45 := ho4.below hb7
          have hb8 := hb6.trans (hb7.mono hb6.size)
          go_wp2_with (at_builtin; refine wpList_append_Own rfl (.tmp 47) (.tmp 50) rfl elII (lo := w2.heap.size) rfl (hI5.1.alloc _) rfl (Rd.new1 W5 _ _) (by simp [Value.oneCell']) (by omega) (by simp only [maxLen]; omega) (by have := hb8.size; simp; omega) ?_; intro A9 c9 w9 ho9 hg9 hw9)
          have hs9 := OII.snoc (u := ⟨A6, c6, ys⟩) hI3 (hI5.alloc _) ho9 hg9 (ho6.alloc _) (Nat.le_refl _) hb6.size (by decide)
          have hz9 : Below w2.heap.size w2 w9 := Own.below_of (hI5.1.alloc _) (hb8.alloc hb8.size _) hg9 (by have := hb8.size; simp; omega)
          have ho49 := ((ho45.alloc _).grown hg9 (fun g hg hb => Own.blk_ne (hI5.1.alloc (.cells #[.slice A6 ys.length c6] 23)) (ho45.alloc _) (by decide) g hg hb)).mono hb2.size
          have hnu9 : Hid (nums (us ++ [⟨A6, c6, ys⟩]) = wordsTo s xs (i + 1 + 1)) := Lib.hid (by rw [nums_append, hnu.out, HWN.out])
          go_wp2_with fail
          go_roundw
          case rel => exact ⟨i + 1, A4, c4, A9, c9, _, by go_num, by rw [HNX.out]; rfl, rfl, by omega, HAL1.out, by rw [show s.it xs (i + 1) = ys from HNX.out.symm]; exact ho49, hs9, hnu9, hz9⟩
          case measure => simp [intOf]; omega
        | false =>
          have HF := Lib.hid (HFF.out i ⟨hlt, HAL.out, HH.out, hr⟩)
          clear hr
          go_wp2_with fail
          exact bodyPost_ret (v := .tuple #[.slice none 0 0, .int .i64 5]) (by simp [results, Try.results23, go_sem]) rfl (newII_nil HF.out (y2.trans (hb6.mono y2.size)))
    · have hgt : decide ((0 : Int) < (N : Int) - (i : Int)) = false := by simp; omega
      have hiN : i = N := by omega
      have HF := Lib.hid (HFE.out i ⟨hi, HAL.out, .inl hiN⟩)
      clear hiN
      go_wp2_with fail
      exact bodyPost_ret (v := .tuple #[.slice E (i + 1) ce, .int .i64 0]) (by simp [results, Try.results23, go_sem]) rfl (newII_of HF.out hnu.out (hI.mono y2.size) yr)
end Go.Proofs.Ytldgfgjaabphnaa
