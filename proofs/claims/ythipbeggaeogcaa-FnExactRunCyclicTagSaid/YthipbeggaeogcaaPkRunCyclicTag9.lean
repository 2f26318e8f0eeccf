/-
  Contract of the reference's RunCyclicTag.
-/
import Derived.Test.YthipbeggaeogcaaPkRunCyclicTag1
import Derived.Test.YthipbeggaeogcaaPkRunCyclicTag3
import Derived.Test.YthipbeggaeogcaaPkRunCyclicTag6
import Derived.Test.YthipbeggaeogcaaPkRunCyclicTag7
import Derived.Test.YthipbeggaeogcaaPkRunCyclicTag8
import Derived.BigGuardPart
import Derived.Test.YthipbeggaeogcaaRows
namespace Go.Proofs.Ythipbeggaeogcaa
open Go.RowKit

set_option maxRecDepth 100000 in
set_option maxHeartbeats 8000000 in
theorem rctS_any (d : Int) (A : Option Addr) (n c : Nat) (ts : List Sl) (B : Option Addr) (m k : Nat) (hs : List Int) (C : Option Addr) (l r : Nat) (xs : List Int) (steps : Int) (w : World) (hx : SII w A n ts) (hy : SI w B m hs) (hz : SI w C l xs) (hn : n ≤ 1048576) (hm : m ≤ 1048576) (hns : ∀ t ∈ ts, t.xs.length ≤ 1048576) (hl : l ≤ 1048576) :
    Calls Try.prog 31 #[.agg #[.int .i64 d, .slice A n c, .slice B m k], .slice C l r, .int .i64 steps] w (NewWd3 w (rctF d (nums ts) hs xs steps)) := by
  have HLN : Hid ((nums ts).length = n) := Lib.hid (by have := hx.len; simpa [nums] using this)
  have HXL := Lib.hid hz.len
  have HNS := Lib.hid hns
  clear hns
  obtain ⟨W, hW_⟩ : ∃ W, W = w.alloc (.cells #[.int .i64 d, .slice A n c, .slice B m k] 51) := ⟨_, rfl⟩
  have b0 : Blk W w.heap.size 51 #[.int .i64 d, .slice A n c, .slice B m k] := by rw [hW_]; exact Blk.new w _ _
  have y0 : Below w.heap.size w W := by rw [hW_]; exact (Below.refl _ _).alloc (Nat.le_refl _) _
  have HW := Lib.hid hW_
  clear hW_
  have ht : TagAt W w.heap.size d A n c B m k := ⟨b0.cell 0, b0.cell 1, b0.cell 2⟩
  go_enter Try.func31, Try.ntmps31
  go_wp2_with fail
  rw [← HW.out]
  refine (l09Ask_any _ _ _ _ _ ts _ _ _ hs _ _ _ xs _ ht (hx.below y0) (hy.below y0) (hz.below y0) hn hm hl (fun t ht => by have := HNS.out t ht; omega)).mono ?_
  rintro e w' ⟨rfl, q, rfl⟩
  have y2 := below_drewN y0 q
  have t2 := ht.drewN q
  generalize W.drewN q = w2 at *
  rcases tagCode_01 d (nums ts) hs xs with hcode | hcode
  rotate_left
  · have HF := Lib.hid (rctF_bad (steps := steps) hcode)
    rw [hcode]
    clear hcode
    go_wp2_with fail
    exact bodyPost_ret (v := .tuple #[.slice none 0 0, .int .i64 0, .int .i64 1]) (by simp [results, Try.results31, go_sem]) rfl (wd3_nil HF.out y2)
  have HCODE := Lib.hid hcode
  rw [hcode]
  clear hcode
  cases a2 : inB steps 0 60
  · have HF := Lib.hid (rctF_range HCODE.out a2)
    have A2 := Lib.hid a2
    clear a2
    go_wp2_with (go_at_call 82; refine (l00In_is A2.out _).mono ?_; rintro e w' ⟨rfl, rfl⟩)
    exact bodyPost_ret (v := .tuple #[.slice none 0 0, .int .i64 0, .int .i64 2]) (by simp [results, Try.results31, go_sem]) rfl (wd3_nil HF.out y2)
  have A2 := Lib.hid a2
  have hb := (inB_iff _ _ _).1 a2
  obtain ⟨S, rfl⟩ : ∃ S : Nat, steps = (S : Int) := ⟨steps.toNat, by omega⟩
  obtain ⟨v1, v2, v3, v4, v5, v6, v7, v8⟩ := tagCode_parts HCODE.out
  obtain ⟨dn, rfl⟩ : ∃ dn : Nat, d = (dn : Int) := ⟨d.toNat, by omega⟩
  rw [HLN.out] at v5 v6 v7
  have V5 := Lib.hid v5
  have V3 := Lib.hid v3
  have V8 := Lib.hid v8
  clear a2 v3 v5 v8
  have HCY := Lib.hid (l15Cyclic_any w.heap.size dn A n c ts B m k hs w2 t2 (hx.below y2) (tagCode_zero.1 HCODE.out).1)
  go_wp2_with (go_at_call 82; refine (l00In_is A2.out _).mono ?_; rintro e w' ⟨rfl, rfl⟩)
  refine HCY.out.mono ?_
  rintro e w3 ⟨hc3, z3⟩
  obtain ⟨A3, m3, c3, fb, rfl, hfb, hT3⟩ : ∃ (A3 : Option Addr) (m3 c3 : Nat) (fb : Bool), e = .returned (.tuple #[.agg #[.slice A3 m3 c3], .bool fb]) ∧ fb = cycFitsB dn (nums ts) ∧ (fb = true → m3 = n * dn ∧ ∃ us, OII w3 w2.heap.size 25 2 A3 m3 c3 us ∧ nums us = cycWords dn (nums ts)) := by
    rcases hc3 with ⟨h1, A3, c3, us, rfl, h2, h3⟩ | ⟨h1, A3, m3, c3, rfl⟩
    · exact ⟨A3, _, c3, true, rfl, h1.symm, fun _ => ⟨rfl, us, h2, h3⟩⟩
    · exact ⟨A3, m3, c3, false, rfl, h1.symm, fun h => by cases h⟩
  have HFB := Lib.hid hfb
  have HT3 := Lib.hid hT3
  clear hc3 hfb hT3 HCY
  have y3 := y2.trans (z3.mono y2.size)
  obtain ⟨w4, hW_⟩ : ∃ W_, W_ = w3.alloc (.cells #[.slice A3 m3 c3] 33) := ⟨_, rfl⟩
  have b4 : Blk w4 w3.heap.size 33 #[.slice A3 m3 c3] := by rw [hW_]; exact Blk.new w3 _ _
  have z4 : Below w3.heap.size w3 w4 := by rw [hW_]; exact (Below.refl _ _).alloc (Nat.le_refl _) _
  have Hw4 := Lib.hid hW_
  clear hW_
  have y4 := y3.trans (z4.mono y3.size)
  have t4 : TagAt w4 w.heap.size dn A n c B m k := (t2.below z3).below z4
  obtain ⟨q0, q1, q2⟩ := id t4
  have HCO := Lib.hid (l15Codes_any C l r xs n w4 (hz.below y4) (by omega) hl (fun y hy => (V5.out y hy).1))
  go_upto_region 7 with fail
  rw [← Hw4.out]
  go_wp2_with fail
  refine HCO.out.mono ?_
  rintro e w5 ⟨(⟨hM, A5, c5, rfl, o5⟩ | ⟨hM, rfl⟩), z5⟩
  rotate_left
  · have y5 := y4.trans (z5.mono y4.size)
    have HF := Lib.hid (rctF_fits (steps := (S : Int)) HCODE.out A2.out (by rw [HLN.out]; simp; intro _; omega))
    clear HCO q0 q1 q2 HT3 HFB
    cases fb
    all_goals
      go_wp2_with fail
      exact bodyPost_ret (v := .tuple #[.slice none 0 0, .int .i64 0, .int .i64 5]) (by simp [results, Try.results31, go_sem]) rfl (wd3_nil HF.out y5)
  have y5 := y4.trans (z5.mono y4.size)
  cases fb
  · have HF := Lib.hid (rctF_fits (steps := (S : Int)) HCODE.out A2.out (by rw [Int.toNat_natCast, ← HFB.out]; rfl))
    clear HCO q0 q1 q2 HT3 HFB
    go_wp2_with fail
    exact bodyPost_ret (v := .tuple #[.slice none 0 0, .int .i64 0, .int .i64 5]) (by simp [results, Try.results31, go_sem]) rfl (wd3_nil HF.out y5)
  have HFIT : Hid ((cycFitsB dn (nums ts) && decide (xs.length * (nums ts).length ≤ 1000)) = true) := Lib.hid (by rw [← HFB.out, HLN.out]; simp; exact hM)
  obtain ⟨hm3, us, hO3, hnu⟩ := HT3.out rfl
  have HNU := Lib.hid hnu
  clear HCO q0 q1 q2 HT3 HFB hnu
  have b45 := b4.below' z5
  have hO5 := (hO3.below z4).below z5
  have hlo2 := y2.size
  have t5 := t4.below z5
  have hs23 := z3.size
  clear b4 hO3
  obtain rfl : xs.length = l := HXL.out
  have HOWN := Lib.hid (l00Own_any C xs.length r xs w5 (hz.below y5) (by omega))
  go_wp2_with fail
  refine HOWN.out.mono ?_
  rintro e w6 ⟨A6, c6, rfl, o6, z6⟩
  have y6 := y5.trans (z6.mono y5.size)
  clear HOWN
  obtain ⟨s, hs_⟩ : ∃ s, s = tagSys (dn : Int) (nums ts) hs := ⟨_, rfl⟩
  have HS := Lib.hid hs_
  clear hs_
  have hs5 := y5.size
  go_wp2_with fail
  go_loopw [15, 16] (fun v i wr => ∃ (j : Nat) (D : Option Addr) (cd : Nat), i = .int .i64 (j : Int) ∧ v = .slice D (s.it xs j).length cd ∧ j ≤ S ∧ s.Alive xs j ∧ Own wr w5.heap.size 2 1 D (s.it xs j).length cd (ints (s.it xs j)) ∧ Below w5.heap.size w5 wr) (fun _ i _ => S - (intOf i).toNat)
  case atStart => exact ⟨0, A6, c6, rfl, rfl, Nat.zero_le _, Sys.Alive.zero _ _, o6, z6⟩
  case round =>
    obtain ⟨j, D, cd, rfl, rfl, hj, hal, ho, hb6⟩ := hrel
    have hcode := tagAlive_good HCODE.out (by rw [← HS.out]; exact hal)
    rw [← HS.out] at hcode
    have hlen := (tagCode_parts hcode).2.2.2.1
    have HAL := Lib.hid hal
    have HCJ := Lib.hid hcode
    have yr := y5.trans (hb6.mono hs5)
    clear hal hcode o6
    by_cases hlt : j < S
    · have hlt' : (j : Int) < (S : Int) := by omega
      have hhalt := l09Halts_g (C := D) (r := cd) (xs := s.it xs j) (t5.below hb6) (hy.below yr) ho.rd hm (by omega) v1
      have HHALT := Lib.hid hhalt
      have HSH : Hid (s.halt (s.it xs j) = haltsB dn hs (s.it xs j)) := Lib.hid (by rw [HS.out]; rfl)
      clear hhalt
      go_wp2_with fail
      refine HHALT.out.mono ?_
      rintro e w' ⟨rfl, q, rfl⟩
      have ho2 := ho.drewN q
      have hb2 := below_drewN hb6 q
      have yr2 := below_drewN yr q
      generalize wr.drewN q = W2 at *
      cases hh : haltsB dn hs (s.it xs j) with
      | true =>
        have hcf : (tagSys (dn : Int) (nums ts) hs).code S xs = 6 := by rw [← HS.out]; exact Sys.code_halt hlt HAL.out (HSH.out.trans hh)
        have HF := Lib.hid (rctF_code (steps := (S : Int)) HCODE.out A2.out HFIT.out (by rw [Int.toNat_natCast, hcf]; decide))
        rw [Int.toNat_natCast, hcf] at HF
        clear hh hcf
        go_wp2_with fail
        exact bodyPost_ret (v := .tuple #[.slice none 0 0, .int .i64 0, .int .i64 6]) (by simp [results, Try.results31, go_sem]) rfl (wd3_nil HF.out yr2)
      | false =>
        have HH := Lib.hid (HSH.out.trans hh)
        have hstep := l09Step_g (C := D) (r := cd) (xs := s.it xs j) (t5.below hb2) (hx.below yr2) ho2.rd HCJ.out hh
        rw [← HS.out] at hstep
        have HSTEP := Lib.hid hstep
        clear hh hstep
        go_wp2_with fail
        refine HSTEP.out.mono ?_
        rintro e W3 ⟨A9, c9, rfl, ho3, hb3⟩
        have hb4 := hb2.trans (hb3.mono hb2.size)
        have yr3 := yr2.trans (hb3.mono yr2.size)
        cases hr : s.room (s.it xs j) with
        | true =>
          have HR := Lib.hid hr
          clear hr
          go_wp2_with fail
          go_roundw
          case rel => exact ⟨j + 1, A9, c9, by go_num, rfl, by omega, HAL.out.step HH.out HR.out, ho3.mono hb2.size, hb4⟩
          case measure => simp [intOf]; omega
        | false =>
          have hcf : (tagSys (dn : Int) (nums ts) hs).code S xs = 5 := by rw [← HS.out]; exact Sys.code_full hlt HAL.out HH.out hr
          have HF := Lib.hid (rctF_code (steps := (S : Int)) HCODE.out A2.out HFIT.out (by rw [Int.toNat_natCast, hcf]; decide))
          rw [Int.toNat_natCast, hcf] at HF
          clear hr hcf
          go_wp2_with fail
          exact bodyPost_ret (v := .tuple #[.slice none 0 0, .int .i64 0, .int .i64 5]) (by simp [results, Try.results31, go_sem]) rfl (wd3_nil HF.out yr3)
    · have hjS : j = S := by omega
      subst hjS
      obtain ⟨N, hN⟩ : ∃ N, N = n * dn := ⟨_, rfl⟩
      have hN4 : N ≤ 400 := by
        have := HFIT.out
        unfold cycFitsB at this
        simp only [Bool.and_eq_true, decide_eq_true_eq] at this
        rw [HLN.out, ← hN] at this
        exact this.1.1
      have w1 : IntKind.i64.wrap ((n : Int) * (dn : Int)) = (N : Int) := by rw [IntWalk.i64_in _ (by rw [← Int.natCast_mul, ← hN]; omega), hN]; simp
      rw [← hN] at hm3
      have HN := Lib.hid hN
      clear hN
      subst hm3
      obtain ⟨T, hT⟩ : ∃ T, T = m3 * j := ⟨_, rfl⟩
      have hT1 : T ≤ 400 * 60 := by rw [hT]; exact Nat.mul_le_mul hN4 (by omega)
      have w2' : IntKind.i64.wrap ((m3 : Int) * (j : Int)) = (T : Int) := by rw [IntWalk.i64_in _ (by rw [← Int.natCast_mul, ← hT]; omega), hT]; simp
      have HT := Lib.hid hT
      clear hT
      obtain ⟨w7, hW_⟩ : ∃ W_, W_ = wr.alloc (.cells #[.int .i64 0, .slice A5 (codesL n xs).length c5] 30) := ⟨_, rfl⟩
      have b7 : Blk w7 wr.heap.size 30 #[.int .i64 0, .slice A5 (codesL n xs).length c5] := by rw [hW_]; exact Blk.new wr _ _
      have z7 : Below wr.heap.size wr w7 := by rw [hW_]; exact (Below.refl _ _).alloc (Nat.le_refl _) _
      have Hw7 := Lib.hid hW_
      clear hW_
      have t7 := (t5.below hb6).below z7
      obtain ⟨q0, q1, q2⟩ := id t7
      go_upto_region 22 with fail
      rw [← Hw7.out]
      go_wp2_with fail
      clear q0 q1 q2
      have HCD : Hid ((tagSys (dn : Int) (nums ts) hs).code j xs = 0) := Lib.hid (by rw [← HS.out]; exact Sys.code_ok HAL.out)
      obtain ⟨s2, hs2_⟩ : ∃ s2, s2 = cycSys (nums us) := ⟨_, rfl⟩
      obtain ⟨x, hx_⟩ : ∃ x : Tu, x = ⟨0, codesL n xs⟩ := ⟨_, rfl⟩
      have HS2 := Lib.hid hs2_
      have HXX := Lib.hid hx_
      clear hs2_ hx_
      have hTT : T = j * ((nums ts).length * dn) := by rw [HT.out, HN.out, HLN.out, Nat.mul_comm]
      have hxx : x = ⟨0, codesL (nums ts).length xs⟩ := by rw [HXX.out, HLN.out]
      have hss : s2 = cycSys (cycWords dn (nums ts)) := by rw [HS2.out, HNU.out]
      have hval : validTurnB (nums us) x = true := by
        rw [HNU.out, hxx]
        exact cyc_valid (by omega) (by rw [HLN.out]; exact v6) HFIT.out
      have hsteps := cyc_steps (d := dn) (by omega) HCODE.out j (Sys.code_alive HCD.out)
      rw [← hTT, ← hxx, ← hss] at hsteps
      have HEND := Lib.hid hsteps.1
      have HNE : Hid (∀ q, q < T → s2.halt (s2.it x q) = false) := Lib.hid (fun q hq => by rw [hss]; exact decide_eq_false (by have := hsteps.2 q hq; rwa [hss] at this))
      have HRCT : Hid (∀ v, s2.code T x = v → (cycSys (cycWords dn (nums ts))).code (j * ((nums ts).length * dn)) ⟨0, codesL (nums ts).length xs⟩ = v) := Lib.hid (fun v hv => by rw [← hTT, ← hxx, ← hss]; exact hv)
      have HGD : Hid (∀ q, s2.Alive x q → validTurnB (nums us) (s2.it x q) = true) := Lib.hid (fun q hq => by rw [HS2.out] at hq ⊢; exact cycAlive_good hval hq)
      have HTT := Lib.hid hTT
      clear hTT hxx hss hval hsteps
      have b4r := (b45.below' hb6).below' z7
      have hO7 := (hO5.below hb6).below z7
      have o7 := (o5.below hb6).below z7
      have yw7 := yr.trans (z7.mono yr.size)
      have hw5r := hb6.size
      have hw45 := z5.size
      have hlo : w.heap.size ≤ w4.heap.size := y4.size
      have b4l := b4r.lt
      have hkne : w3.heap.size < wr.heap.size := by have := (b45.below' hb6).lt; exact this
      obtain ⟨k7, hk7⟩ : ∃ k7, k7 = wr.heap.size := ⟨_, rfl⟩
      rw [← hk7] at b7 z7 hkne ⊢
      have HZ : Below k7 w7 w7 := Below.refl _ _
      have hb7 : Blk w7 k7 30 #[.int .i64 (s2.it x 0).at_, .slice A5 (s2.it x 0).word.length c5] := by
        show Blk w7 k7 _ #[.int .i64 x.at_, .slice A5 x.word.length c5]
        rw [HXX.out]; exact b7
      have ho7 : Own w7 w4.heap.size 2 1 A5 (s2.it x 0).word.length c5 (ints (s2.it x 0).word) := by
        show Own _ _ _ _ _ x.word.length _ (ints x.word)
        rw [HXX.out]; exact o7
      have HKEEP : Hid (∀ wv, Below k7 w7 wv → SII wv A3 m3 us ∧ Blk wv w3.heap.size 33 #[.slice A3 m3 c3] ∧ Below w.heap.size w wv) := Lib.hid (fun wv h => by
        have z : Below wr.heap.size wr wv := by rw [hk7] at z7 h; exact z7.trans h
        exact ⟨(hO5.below hb6).sii.below z, (b45.below' hb6).below' z, yr.trans (z.mono yr.size)⟩)
      have hwk : w.heap.size ≤ k7 := by rw [hk7]; exact yr.size
      have hw4k : w4.heap.size ≤ k7 := by rw [hk7]; omega
      clear hk7
      go_loopw [21] (fun i wv => ∃ (q : Nat) (Q : Option Addr) (cq : Nat), i = .int .i64 (q : Int) ∧ q ≤ T ∧ s2.Alive x q ∧ Blk wv k7 30 #[.int .i64 (s2.it x q).at_, .slice Q (s2.it x q).word.length cq] ∧ Own wv w4.heap.size 2 1 Q (s2.it x q).word.length cq (ints (s2.it x q).word) ∧ Below k7 w7 wv) (fun i _ => T - (intOf i).toNat)
      case atStart => exact ⟨0, A5, c5, rfl, Nat.zero_le _, Sys.Alive.zero _ _, hb7, ho7, HZ⟩
      case round =>
        obtain ⟨q, Q, cq, rfl, hq, hal2, hbk, hoq, hzv⟩ := hrel
        have HAL2 := Lib.hid hal2
        have HVI := Lib.hid (HGD.out q hal2)
        clear hal2 hb7 ho7 HZ
        have hcap := hoq.le
        obtain ⟨hSv, hBv, yv⟩ := HKEEP.out _ hzv
        by_cases hlt2 : q < T
        · have hlt2' : (q : Int) < (T : Int) := by omega
          have hstep := l09Next_g (f := k7) (C := Q) (r := cq) (x := s2.it x q) (show CyclAt _ w3.heap.size A3 m3 c3 from hBv.cell 0) ⟨hbk.cell 0, hbk.cell 1⟩ hSv hoq.rd HVI.out (by rw [← HS2.out]; exact HNE.out q hlt2) hcap
          rw [← HS2.out] at hstep
          have HSTEP := Lib.hid hstep
          clear hstep
          go_wp2_with fail
          refine HSTEP.out.mono ?_
          rintro e W3 ⟨Q3, c3', rfl, ho3, hb3⟩
          have hk3 := hbk.below' hb3
          have hzv3 : Below k7 w7 W3 := hzv.trans (hb3.mono (Nat.le_of_lt hbk.lt))
          have hnx : s2.it x (q + 1) = s2.next (s2.it x q) := rfl
          have HNX := Lib.hid hnx
          clear hnx
          generalize s2.next (s2.it x q) = nx at *
          obtain ⟨w9, hW_⟩ : ∃ W_, W_ = W3.alloc (.cells #[.int .i64 nx.at_, .slice Q3 nx.word.length c3'] 30) := ⟨_, rfl⟩
          have b9 : Blk w9 W3.heap.size 30 #[.int .i64 nx.at_, .slice Q3 nx.word.length c3'] := by rw [hW_]; exact Blk.new W3 _ _
          have z9 : Below W3.heap.size W3 w9 := by rw [hW_]; exact (Below.refl _ _).alloc (Nat.le_refl _) _
          have Hw9 := Lib.hid hW_
          clear hW_
          have hk9 := hk3.below' z9
          have hkl := hbk.lt
          have hs3 := hb3.size
          have hzv9 : Below k7 w7 w9 := hzv3.trans (z9.mono (by omega))
          have yv9 := (HKEEP.out _ hzv9).2.2
          have z0 : w9.cell? ⟨W3.heap.size, 0, none⟩ = some (.int .i64 nx.at_) := b9.cell 0
          have z1 : w9.cell? ⟨W3.heap.size, 1, none⟩ = some (.slice Q3 nx.word.length c3') := b9.cell 1
          have yy0 : w9.cell? ⟨k7, 0, none⟩ = some (.int .i64 (s2.it x q).at_) := hk9.cell 0
          have yy1 : w9.cell? ⟨k7, 1, none⟩ = some (.slice Q (s2.it x q).word.length cq) := hk9.cell 1
          have fk0 := hk9.frozen 0
          have fk1 := hk9.frozen 1
          cases hr : s2.room (s2.it x q) with
          | true =>
            have HR := Lib.hid hr
            clear hr
            go_upto_region 27 with fail
            rw [← Hw9.out]
            go_wp2_with fail
            go_roundw
            case rel =>
              refine ⟨q + 1, Q3, c3', by go_num, by omega, HAL2.out.step (HNE.out q hlt2) HR.out, ?_, ?_, turn_below hzv9 (Nat.le_refl _) _ _⟩
              · rw [HNX.out]; exact turn_set hk9 _ _
              · rw [HNX.out]; exact turn_far2 hk9 ((ho3.below z9).mono (by omega)) _ _
            case measure => simp [intOf]; omega
          | false =>
            have hcf := HRCT.out _ (Sys.code_full hlt2 HAL2.out (HNE.out q hlt2) hr)
            have HF := Lib.hid (rctF_full HCODE.out A2.out HFIT.out (by rw [Int.toNat_natCast]; exact HCD.out) (by rw [Int.toNat_natCast, Int.toNat_natCast]; rw [hcf]; decide))
            clear hr hcf
            go_upto_region 27 with fail
            rw [← Hw9.out]
            go_wp2_with fail
            exact bodyPost_ret (v := .tuple #[.slice none 0 0, .int .i64 0, .int .i64 5]) (by simp [results, Try.results31, go_sem]) rfl (wd3_nil HF.out yv9)
        · have hqT : q = T := by omega
          subst hqT
          have HF := Lib.hid (rctF_ok HCODE.out A2.out HFIT.out (by rw [Int.toNat_natCast]; exact HCD.out) (by rw [Int.toNat_natCast, Int.toNat_natCast]; exact HRCT.out _ (Sys.code_ok HAL2.out)))
          rw [Int.toNat_natCast, Int.toNat_natCast, ← HTT.out] at HF
          have he := HEND.out
          rw [he] at hbk hoq
          rw [HLN.out] at hbk hoq
          have hgood := tagAlive_good HCODE.out (Sys.code_alive HCD.out)
          generalize (tagSys (dn : Int) (nums ts) hs).it xs j = zs at *
          obtain ⟨p1, p2, p3, p4, p5, p6, p7, p8⟩ := tagCode_parts hgood
          rw [HLN.out] at p5
          dsimp only at hbk hoq
          have hcl : (codesL n zs).length ≤ 1048576 := by
            rw [codesL_len]
            have := Nat.mul_le_mul p4 v7
            omega
          have HBK := Lib.hid (l15Back_codes n Q (codesL n zs).length cq zs _ hoq.rd v6 hcl p5)
          have z1 := hbk.cell 1
          have z1' : wr.cell? ⟨k7, 1, none⟩ = wr.cell? ⟨k7, 1, none⟩ := rfl
          clear p1 p2 p3 p6 p7 p8 hgood he z1'
          go_wp2_with fail
          refine HBK.out.mono ?_
          rintro e w10 ⟨Q10, r10, rfl, o10, z10⟩
          have hsv := yv.size
          go_wp2_with fail
          refine bodyPost_ret (v := .tuple #[.slice Q10 zs.length r10, .int .i64 (q : Int), .int .i64 0]) (by simp [results, Try.results31, go_sem]) rfl ?_
          rw [HF.out]
          exact ⟨Q10, r10, rfl, o10.mono hsv, yv.trans (z10.mono hsv)⟩
end Go.Proofs.Ythipbeggaeogcaa

/-
  Contracts of the laws' helpers over Tag: szTag, toTag, eqTag, markTag.
-/
namespace Go.Proofs.Ythipbeggaeogcaa
open Go.RowKit

set_option maxHeartbeats 400000 in
theorem szTag_any (d0 : Int) (A0 : Option Addr) (n0 c0 : Nat) (x0 : List Sl) (A1 : Option Addr) (n1 c1 : Nat) (left : Int) (w : World) (h0 : n0 ≤ 9223372036854775807) (r0 : SII w A0 n0 x0) (hr0 : ∀ t ∈ x0, t.xs.length ≤ 9223372036854775807) (h1 : n1 ≤ 9223372036854775807) (g0 : 0 ≤ left) (g1 : left ≤ 1048576) :
    Calls Try.prog 30 #[.agg #[.int .i64 d0, .slice A0 n0 c0, .slice A1 n1 c1], .int .i64 left] w (SzP w left (((n0 + total x0 : Nat) : Int) + (n1 : Int))) := by
  obtain ⟨W, hW⟩ : ∃ W, W = w.alloc (.cells #[.int .i64 d0, .slice A0 n0 c0, .slice A1 n1 c1] 47) := ⟨_, rfl⟩
  have b0 : Blk W w.heap.size 47 #[.int .i64 d0, .slice A0 n0 c0, .slice A1 n1 c1] := by rw [hW]; exact Blk.new w _ _
  have z0 : Below w.heap.size w W := by rw [hW]; exact (Below.refl _ _).alloc (Nat.le_refl _) _
  have HW := Lib.hid hW
  clear hW
  go_enter Try.func30, Try.ntmps30
  go_wp2_with fail
  rw [← HW.out]
  refine (szII_p A0 n0 c0 x0 left W (r0.below z0) h0 hr0 (by omega) (by omega)).mono ?_
  rintro e w1 ⟨z1, rfl, l1, u1, e1, b1⟩
  have E1 := Lib.hid e1
  clear e1
  have y1 : Below w.heap.size w w1 := z0.trans (b1.mono z0.size)
  have q1 : w1.cell? ⟨w.heap.size, 2, none⟩ = some (.slice A1 n1 c1) := (b1.cell (p := ⟨w.heap.size, 2, none⟩) (b0.lt)).trans (b0.cell 2)
  by_cases hneg1 : z1 < 0
  · go_wp2_with fail
    go_ret
    exact ⟨-1, rfl, by omega, by omega, by omega, y1⟩
  have b0 := b0.below' b1
  clear q1
  have q1 : w1.cell? ⟨w.heap.size, 2, none⟩ = some (.slice A1 n1 c1) := b0.cell 2
  go_wp2_with fail
  refine (szI_p A1 n1 c1 z1 w1 h1 (by omega) (by omega)).mono ?_
  rintro e w2 ⟨z2, rfl, l2, u2, e2, b2⟩
  have E2 := Lib.hid e2
  clear e2
  have y2 : Below w.heap.size w w2 := y1.trans (b2.mono y1.size)
  by_cases hneg2 : z2 < 0
  · go_wp2_with fail
    go_ret
    exact ⟨-1, rfl, by omega, by omega, by omega, y2⟩
  go_wp2_with fail
  go_ret
  exact ⟨z2, rfl, by omega, by omega, fun _ => by have t1 := E1.out (by omega); have t2 := E2.out (by omega); omega, y2⟩

def ToTag (w : World) (d0 : Int) (n0 : Nat) (x0 : List (List Int)) (n1 : Nat) (x1 : List Int) (e : Ending) (w' : World) : Prop :=
  ∃ B0 us0 B1, e = .returned (.agg #[.int .i64 d0, .slice B0 n0 n0, .slice B1 n1 n1]) ∧ OII w' w.heap.size 25 2 B0 n0 n0 us0 ∧ nums us0 = x0 ∧ Own w' w.heap.size 2 1 B1 n1 n1 (ints x1) ∧ Below w.heap.size w w'

set_option maxHeartbeats 1000000 in
theorem toTag_any (d0 : Int) (A0 : Option Addr) (n0 c0 : Nat) (x0 : List Sl) (A1 : Option Addr) (n1 c1 : Nat) (x1 : List Int) (w : World) (r0 : SII w A0 n0 x0) (h0 : n0 ≤ 1048576) (hr0 : ∀ t ∈ x0, t.xs.length ≤ 1048576) (r1 : SI w A1 n1 x1) (h1 : n1 ≤ 1048576) :
    Calls Try.prog 32 #[.agg #[.int .i64 d0, .slice A0 n0 c0, .slice A1 n1 c1]] w (ToTag w d0 n0 (nums x0) n1 x1) := by
  obtain ⟨W, hW⟩ : ∃ W, W = ((w.alloc (.cells #[.int .i64 d0, .slice A0 n0 c0, .slice A1 n1 c1] 47)).alloc (.cells #[.int .i64 0, .slice none 0 0, .slice none 0 0] 51)).alloc (.cells #[.int .i64 d0, .slice none 0 0, .slice none 0 0] 51) := ⟨_, rfl⟩
  have s1 : (w.alloc (.cells #[.int .i64 d0, .slice A0 n0 c0, .slice A1 n1 c1] 47)).heap.size = w.heap.size + 1 := by simp
  have s2 : ((w.alloc (.cells #[.int .i64 d0, .slice A0 n0 c0, .slice A1 n1 c1] 47)).alloc (.cells #[.int .i64 0, .slice none 0 0, .slice none 0 0] 51)).heap.size = w.heap.size + 1 + 1 := by simp
  have b0 : Blk W w.heap.size 47 #[.int .i64 d0, .slice A0 n0 c0, .slice A1 n1 c1] := by rw [hW]; exact ((Blk.new w _ _).alloc _).alloc _
  have b1 : Blk W (w.heap.size + 1) 51 #[.int .i64 0, .slice none 0 0, .slice none 0 0] := by rw [hW, ← s1]; exact (Blk.new _ _ _).alloc _
  have b2 : Blk W (w.heap.size + 1 + 1) 51 #[.int .i64 d0, .slice none 0 0, .slice none 0 0] := by rw [hW, ← s2]; exact Blk.new _ _ _
  have y0 : Below w.heap.size w W := by rw [hW]; exact (((Below.refl _ _).alloc (Nat.le_refl _) _).alloc (by simp) _).alloc (by simp; omega) _
  have hz : w.heap.size + 1 + 1 < W.heap.size := b2.lt
  have HW := Lib.hid hW
  clear hW s1 s2
  go_enter Try.func32, Try.ntmps32
  go_wp2_with fail
  rw [← HW.out]
  clear HW
  refine (toII _ _ _ x0 _ (r0.below y0) h0 hr0).mono ?_
  rintro e w0 ⟨B0, us0, rfl, o0, hnu0, hcu0, bz0⟩
  have HN0 := Lib.hid hnu0
  clear hnu0 hcu0
  have b0 := b0.below' bz0
  have b1 := b1.below' bz0
  have b2 := b2.below' bz0
  have yc0 : Below w.heap.size w w0 := y0.trans (bz0.mono y0.size)
  have hw0 : W.heap.size ≤ w0.heap.size := by have := bz0.size; omega
  have p0 : w0.cell? ⟨w.heap.size + 1 + 1, 1, none⟩ = some (.slice none 0 0) := b2.cell 1
  have pf0 := b2.frozen 1
  have pn0 : w0.cell? ⟨w.heap.size, 2, none⟩ = some (.slice A1 n1 c1) := b0.cell 2
  go_wp2_with fail
  have b2 : Blk (w0.setCell ⟨w.heap.size + 1 + 1, 1, none⟩ (.slice B0 n0 n0)) (w.heap.size + 1 + 1) 51 #[.int .i64 d0, .slice B0 n0 n0, .slice none 0 0] := b2.set_ 1 _
  have b1 := b1.far (p := ⟨w.heap.size + 1 + 1, 1, none⟩) (by simp) (.slice B0 n0 n0)
  have b0 := b0.far (p := ⟨w.heap.size + 1 + 1, 1, none⟩) (by simp; omega) (.slice B0 n0 n0)
  have o0 := o0.far (p := ⟨w.heap.size + 1 + 1, 1, none⟩) (by intro b h; simp; omega) (.slice B0 n0 n0)
  have y1 : Below w.heap.size w (w0.setCell ⟨w.heap.size + 1 + 1, 1, none⟩ (.slice B0 n0 n0)) := yc0.setCell (by simp; omega) _
  have hz1 : W.heap.size ≤ (w0.setCell ⟨w.heap.size + 1 + 1, 1, none⟩ (.slice B0 n0 n0)).heap.size := by have := hw0; simpa [World.setCell] using this
  generalize w0.setCell ⟨w.heap.size + 1 + 1, 1, none⟩ (.slice B0 n0 n0) = v1 at *
  refine (toI _ _ _ x1 _ (r1.below y1) h1).mono ?_
  rintro e w1 ⟨B1, rfl, o1, bz1⟩
  have b0 := b0.below' bz1
  have b1 := b1.below' bz1
  have b2 := b2.below' bz1
  have o0 := o0.below bz1
  have yc1 : Below w.heap.size w w1 := y1.trans (bz1.mono y1.size)
  have hw1 : W.heap.size ≤ w1.heap.size := by have := bz1.size; omega
  have o1 := o1.mono (show W.heap.size ≤ v1.heap.size by omega)
  have p1 : w1.cell? ⟨w.heap.size + 1 + 1, 2, none⟩ = some (.slice none 0 0) := b2.cell 2
  have pf1 := b2.frozen 2
  have a0 : w1.cell? ⟨w.heap.size + 1 + 1, 0, none⟩ = some (.int .i64 d0) := b2.cell 0
  have a1 : w1.cell? ⟨w.heap.size + 1 + 1, 1, none⟩ = some (.slice B0 n0 n0) := b2.cell 1
  have c0_ : w1.cell? ⟨w.heap.size + 1, 0, none⟩ = some (.int .i64 0) := b1.cell 0
  have f0_ := b1.frozen 0
  have c1_ : w1.cell? ⟨w.heap.size + 1, 1, none⟩ = some (.slice none 0 0) := b1.cell 1
  have f1_ := b1.frozen 1
  have c2_ : w1.cell? ⟨w.heap.size + 1, 2, none⟩ = some (.slice none 0 0) := b1.cell 2
  have f2_ := b1.frozen 2
  go_wp2_with fail
  have dB : Blk ((((w1.setCell ⟨w.heap.size + 1 + 1, 2, none⟩ (.slice B1 n1 n1)).setCell ⟨w.heap.size + 1, 0, none⟩ (.int .i64 d0)).setCell ⟨w.heap.size + 1, 1, none⟩ (.slice B0 n0 n0)).setCell ⟨w.heap.size + 1, 2, none⟩ (.slice B1 n1 n1)) (w.heap.size + 1) 51 #[.int .i64 d0, .slice B0 n0 n0, .slice B1 n1 n1] := (((b1.far (p := ⟨w.heap.size + 1 + 1, 2, none⟩) (by simp) _).set_ 0 _).set_ 1 _).set_ 2 _
  have m0 : OII ((((w1.setCell ⟨w.heap.size + 1 + 1, 2, none⟩ (.slice B1 n1 n1)).setCell ⟨w.heap.size + 1, 0, none⟩ (.int .i64 d0)).setCell ⟨w.heap.size + 1, 1, none⟩ (.slice B0 n0 n0)).setCell ⟨w.heap.size + 1, 2, none⟩ (.slice B1 n1 n1)) W.heap.size 25 2 B0 n0 n0 us0 := (((o0.far (by intro b h; simp; omega) _).far (by intro b h; simp; omega) _).far (by intro b h; simp; omega) _).far (by intro b h; simp; omega) _
  have m1 : Own ((((w1.setCell ⟨w.heap.size + 1 + 1, 2, none⟩ (.slice B1 n1 n1)).setCell ⟨w.heap.size + 1, 0, none⟩ (.int .i64 d0)).setCell ⟨w.heap.size + 1, 1, none⟩ (.slice B0 n0 n0)).setCell ⟨w.heap.size + 1, 2, none⟩ (.slice B1 n1 n1)) W.heap.size 2 1 B1 n1 n1 (ints x1) := (((o1.far (fun e => by have := o1.blk_ge _ e; simp at this; omega) _).far (fun e => by have := o1.blk_ge _ e; simp at this; omega) _).far (fun e => by have := o1.blk_ge _ e; simp at this; omega) _).far (fun e => by have := o1.blk_ge _ e; simp at this; omega) _
  have yf : Below w.heap.size w ((((w1.setCell ⟨w.heap.size + 1 + 1, 2, none⟩ (.slice B1 n1 n1)).setCell ⟨w.heap.size + 1, 0, none⟩ (.int .i64 d0)).setCell ⟨w.heap.size + 1, 1, none⟩ (.slice B0 n0 n0)).setCell ⟨w.heap.size + 1, 2, none⟩ (.slice B1 n1 n1)) := (((yc1.setCell (by simp; omega) _).setCell (by simp) _).setCell (by simp) _).setCell (by simp) _
  generalize (((w1.setCell ⟨w.heap.size + 1 + 1, 2, none⟩ (.slice B1 n1 n1)).setCell ⟨w.heap.size + 1, 0, none⟩ (.int .i64 d0)).setCell ⟨w.heap.size + 1, 1, none⟩ (.slice B0 n0 n0)).setCell ⟨w.heap.size + 1, 2, none⟩ (.slice B1 n1 n1) = wf at *
  have g0_ : wf.cell? ⟨w.heap.size + 1, 0, none⟩ = some (.int .i64 d0) := dB.cell 0
  have g1_ : wf.cell? ⟨w.heap.size + 1, 1, none⟩ = some (.slice B0 n0 n0) := dB.cell 1
  have g2_ : wf.cell? ⟨w.heap.size + 1, 2, none⟩ = some (.slice B1 n1 n1) := dB.cell 2
  have hres : ToTag w d0 n0 (nums x0) n1 x1 (.returned (.agg #[.int .i64 d0, .slice B0 n0 n0, .slice B1 n1 n1])) wf := ⟨B0, us0, B1, rfl, ⟨m0.1.mono (by omega), fun u hu => (m0.2.1 u hu).mono (by omega), m0.2.2⟩, HN0.out, m1.mono (by omega), yf⟩
  exact bodyPost_ret (v := .agg #[.int .i64 d0, .slice B0 n0 n0, .slice B1 n1 n1]) (by simp [results, Try.results32, go_sem, g0_, g1_, g2_]) rfl hres

def sameTagB (d0 d0' : Int) (x0 x0' : List (List Int)) (x1 x1' : List Int) : Bool :=
  decide (d0 = d0') && sameII x0 x0' && sameI x1 x1'
theorem sameTagB_self (d0 : Int) (x0 : List (List Int)) (x1 : List Int) : sameTagB d0 d0 x0 x0 x1 x1 = true := by simp [sameTagB, sameI, sameII]

set_option maxHeartbeats 1000000 in
theorem eqTag_any (d0 : Int) (A0 : Option Addr) (n0 c0 : Nat) (x0 : List Sl) (A1 : Option Addr) (n1 c1 : Nat) (x1 : List Int) (d0' : Int) (A0' : Option Addr) (n0' c0' : Nat) (x0' : List Sl) (A1' : Option Addr) (n1' c1' : Nat) (x1' : List Int) (w : World) (r0 : SII w A0 n0 x0) (r0' : SII w A0' n0' x0') (h0 : n0 ≤ 1048576) (hr0 : ∀ t ∈ x0, t.xs.length ≤ 1048576) (r1 : SI w A1 n1 x1) (r1' : SI w A1' n1' x1') (h1 : n1 ≤ 1048576) :
    Calls Try.prog 36 #[.agg #[.int .i64 d0, .slice A0 n0 c0, .slice A1 n1 c1], .agg #[.int .i64 d0', .slice A0' n0' c0', .slice A1' n1' c1']] w fun e w' => e = .returned (.bool (sameTagB d0 d0' (nums x0) (nums x0') x1 x1')) ∧ Below w.heap.size w w' := by
  obtain ⟨W, hW⟩ : ∃ W, W = (w.alloc (.cells #[.int .i64 d0, .slice A0 n0 c0, .slice A1 n1 c1] 51)).alloc (.cells #[.int .i64 d0', .slice A0' n0' c0', .slice A1' n1' c1'] 51) := ⟨_, rfl⟩
  have s1 : (w.alloc (.cells #[.int .i64 d0, .slice A0 n0 c0, .slice A1 n1 c1] 51)).heap.size = w.heap.size + 1 := by simp
  have b0 : Blk W w.heap.size 51 #[.int .i64 d0, .slice A0 n0 c0, .slice A1 n1 c1] := by rw [hW]; exact (Blk.new w _ _).alloc _
  have b1 : Blk W (w.heap.size + 1) 51 #[.int .i64 d0', .slice A0' n0' c0', .slice A1' n1' c1'] := by rw [hW, ← s1]; exact Blk.new _ _ _
  have y0 : Below w.heap.size w W := by rw [hW]; exact ((Below.refl _ _).alloc (Nat.le_refl _) _).alloc (by simp) _
  have HW := Lib.hid hW
  clear hW s1
  cases hd_d0 : (d0 != d0')
  · skip
    have HD_d0 := Lib.hid (show d0 = d0' by simpa using hd_d0)
    go_enter Try.func36, Try.ntmps36
    go_wp2_with fail
    rw [← HW.out]
    clear hd_d0
    refine (eqII _ _ _ _ _ _ x0 x0' _ (r0.below y0) (r0'.below y0) (by omega) (fun t ht => by have := hr0 t ht; omega)).mono ?_
    rintro e w0' ⟨rfl, q0, rfl⟩
    have bz0 : Below W.heap.size W (W.drewN q0) := below_drewN (Below.refl _ _) _
    generalize W.drewN q0 = w0 at *
    have yy0 : Below w.heap.size w w0 := y0.trans (bz0.mono y0.size)
    have b0 := b0.below' bz0
    have b1 := b1.below' bz0
    have k0 : w0.cell? ⟨w.heap.size, 2, none⟩ = some (.slice A1 n1 c1) := b0.cell 2
    have k0' : w0.cell? ⟨w.heap.size + 1, 2, none⟩ = some (.slice A1' n1' c1') := b1.cell 2
    cases hs0 : sameII (nums x0) (nums x0')
    · have HS := Lib.hid hs0
      clear hs0
      go_wp2_with fail
      go_ret
      exact ⟨ret_bool (by unfold sameTagB; rw [HS.out]; simp), yy0⟩
    · skip
      have HS0 := Lib.hid hs0
      clear hs0
      go_wp2_with fail
      refine (eqI _ _ _ _ _ _ x1 x1' _ (r1.below yy0) (r1'.below yy0) (by omega)).mono ?_
      rintro e w1' ⟨rfl, q1, rfl⟩
      have bz1 : Below w0.heap.size w0 (w0.drewN q1) := below_drewN (Below.refl _ _) _
      generalize w0.drewN q1 = w1 at *
      have yy1 : Below w.heap.size w w1 := yy0.trans (bz1.mono yy0.size)
      have b0 := b0.below' bz1
      have b1 := b1.below' bz1
      cases hs1 : sameI x1 x1'
      · have HS := Lib.hid hs1
        clear hs1
        go_wp2_with fail
        go_ret
        exact ⟨ret_bool (by unfold sameTagB; rw [HS.out]; simp), yy1⟩
      · skip
        have HS1 := Lib.hid hs1
        clear hs1
        go_wp2_with fail
        go_ret
        exact ⟨ret_bool (by unfold sameTagB; rw [HS0.out, HS1.out]; simp [HD_d0.out]), yy1⟩
  · have HD := Lib.hid (show ¬ d0 = d0' by simpa using hd_d0)
    go_enter Try.func36, Try.ntmps36
    go_wp2_with fail
    rw [← HW.out]
    go_ret
    exact ⟨ret_bool (by unfold sameTagB; simp [HD.out]), y0⟩

set_option maxHeartbeats 400000 in
theorem markTag_m (T : List TypeId) (d0 : Int) (A0 : Option Addr) (n0 c0 : Nat) (x0 : List Sl) (A1 : Option Addr) (n1 c1 : Nat) (p : Int) (w : World) (lo hi : Nat) (m0 : MkII w lo hi 25 2 A0 n0 c0 x0) (h0 : n0 ≤ 1048576) (ht0 : total x0 ≤ 1048576) (m1 : Mk w lo hi 2 1 A1 n1) (h1 : n1 ≤ 1048576) (tI : 2 ∈ T) (tII : 25 ∉ T) (tX : 51 ∉ T) (g0 : 0 ≤ p) (g1 : p ≤ 9223372036800000000) :
    Calls Try.prog 37 #[.agg #[.int .i64 d0, .slice A0 n0 c0, .slice A1 n1 c1], .int .i64 p] w (MarkP T w lo hi (total x0 + n1) p) := by
  obtain ⟨W, hW⟩ : ∃ W, W = w.alloc (.cells #[.int .i64 d0, .slice A0 n0 c0, .slice A1 n1 c1] 51) := ⟨_, rfl⟩
  have b0 : Blk W w.heap.size 51 #[.int .i64 d0, .slice A0 n0 c0, .slice A1 n1 c1] := by rw [hW]; exact Blk.new w _ _
  have z0 : Below w.heap.size w W := by rw [hW]; exact (Below.refl _ _).alloc (Nat.le_refl _) _
  have HW := Lib.hid hW
  clear hW
  have TI := Lib.hid tI
  have TII := Lib.hid tII
  have TX := Lib.hid tX
  clear tI tII tX
  go_enter Try.func37, Try.ntmps37
  have f0 : MkF T lo hi w W := MkF.of_below z0
  go_wp2_with fail
  rw [← HW.out]
  refine (markII_m T _ _ _ x0 _ _ lo hi (m0.mkf f0 TII.out) TI.out TII.out (by omega) (by omega) (by omega)).mono ?_
  rintro e w0 ⟨rfl, ff0⟩
  have f1 := f0.trans ff0
  have b0 := b0.mkf ff0 TX.out
  have q0 : w0.cell? ⟨w.heap.size, 2, none⟩ = some (.slice A1 n1 c1) := b0.cell 2
  go_wp2_with fail
  refine (markI_m T _ _ _ _ _ lo hi (m1.mkf f1) TI.out (by omega) (by omega)).mono ?_
  rintro e w1 ⟨rfl, ff1⟩
  have f2 := f1.trans ff1
  have b0 := b0.mkf ff1 TX.out
  go_wp2_with fail
  go_ret
  exact ⟨ret_int (by omega), f2⟩
end Go.Proofs.Ythipbeggaeogcaa

/-
  The walk of the law FnExactRunCyclicTag: it returns true, and nothing that was there before has turned.
-/
namespace Go.Proofs.Ythipbeggaeogcaa
open Go.RowKit

set_option maxRecDepth 100000 in
set_option maxHeartbeats 16000000 in
theorem lawRunCyclicTag (d0_0 : Int) (A0_0 : Option Addr) (n0_0 c0_0 : Nat) (x0_0 : List Sl) (A0_1 : Option Addr) (n0_1 c0_1 : Nat) (x0_1 : List Int) (A1 : Option Addr) (n1 c1 : Nat) (xs1 : List Int) (b2 : Int) (w : World) (h0_0 : SII w A0_0 n0_0 x0_0) (h0_1 : SI w A0_1 n0_1 x0_1) (hx1 : SI w A1 n1 xs1)  (hb0_0 : n0_0 ≤ 9223372036854775807) (hb0_1 : n0_1 ≤ 9223372036854775807) (hbr0_0 : ∀ t ∈ x0_0, t.xs.length ≤ 9223372036854775807) (hb1 : n1 ≤ 9223372036854775807)  :
    Calls Try.prog 5 #[.agg #[.int .i64 d0_0, .slice A0_0 n0_0 c0_0, .slice A0_1 n0_1 c0_1], .slice A1 n1 c1, .int .i64 b2] w fun e w' => e = .returned (.bool true) ∧ Below w.heap.size w w' := by
  obtain ⟨W0, hW0⟩ : ∃ W, W = w.alloc (.cells #[.int .i64 d0_0, .slice A0_0 n0_0 c0_0, .slice A0_1 n0_1 c0_1] 47) := ⟨_, rfl⟩
  have bb0 : Blk W0 w.heap.size 47 #[.int .i64 d0_0, .slice A0_0 n0_0 c0_0, .slice A0_1 n0_1 c0_1] := by rw [hW0]; exact Blk.new w _ _
  have z0 : Below w.heap.size w W0 := by rw [hW0]; exact (Below.refl _ _).alloc (Nat.le_refl _) _
  have HW0 := Lib.hid hW0
  clear hW0
  have HBR0_0 := Lib.hid hbr0_0
  clear hbr0_0
  by_cases hbig1 : 1048576 < n1
  · have hbig' : (1048576 : Int) < (n1 : Int) := by omega
    go_enter Try.func5, Try.ntmps5
    go_wp2_with fail
    rw [← HW0.out]
    go_ret
    exact ⟨rfl, z0⟩
  have hbig1' : ¬ (1048576 : Int) < (n1 : Int) := by omega
  have p1 : n1 ≤ 1048576 := by omega
  go_enter Try.func5, Try.ntmps5
  go_wp2_with fail
  rw [← HW0.out]
  refine (szTag_any _ _ _ _ x0_0 _ _ _ _ _ hb0_0 (h0_0.below z0) HBR0_0.out hb0_1 (by omega) (by omega)).mono ?_
  rintro e W1 ⟨v1, rfl, va1, vb1, vc1, z1⟩
  have VC1 := Lib.hid vc1
  clear vc1
  have yw_W1 : Below w.heap.size w W1 := z0.trans (z1.mono z0.size)
  by_cases hneg1 : v1 < 0
  · go_wp2_with fail
    go_ret
    exact ⟨rfl, yw_W1⟩
  have hsm : n0_0 ≤ 1048576 ∧ n0_1 ≤ 1048576 ∧ total x0_0 ≤ 1048576 := by
    have t1 := VC1.out (by omega)
    omega
  obtain ⟨p0_0, p0_1, pt0_0⟩ := hsm
  have HR0_0 : Hid (∀ t ∈ x0_0, t.xs.length ≤ 1048576) := fun t ht => by have := row_total ht; omega
  clear HBR0_0
  clear VC1
  have uc2 : W1.cell? ⟨w.heap.size, 0, none⟩ = some (.int .i64 d0_0) := (bb0.below' z1).cell 0
  have uc3 : W1.cell? ⟨w.heap.size, 1, none⟩ = some (.slice A0_0 n0_0 c0_0) := (bb0.below' z1).cell 1
  have uc4 : W1.cell? ⟨w.heap.size, 2, none⟩ = some (.slice A0_1 n0_1 c0_1) := (bb0.below' z1).cell 2
  go_wp2_with fail
  refine (toTag_any _ _ _ _ x0_0 _ _ _ x0_1 _ (h0_0.below yw_W1) p0_0 HR0_0.out (h0_1.below yw_W1) p0_1).mono ?_
  rintro e W5 ⟨B5_0, us5_0, B5_1, rfl, o5_0, hn5_0, o5_1, z5⟩
  have HN5_0 := Lib.hid hn5_0; clear hn5_0
  clear uc2 uc3 uc4
  go_wp2_with fail
  have yw_W5 : Below w.heap.size w W5 := yw_W1.trans (z5.mono yw_W1.size)
  refine (toI _ _ _ xs1 _ (hx1.below yw_W5) p1).mono ?_
  rintro e W6 ⟨B6, rfl, o6, z6⟩
  go_wp2_with fail
  refine (rctS_any _ _ _ _ us5_0 _ _ _ x0_1 _ _ _ xs1 _ _ (o5_0.below z6).sii (o5_1.below z6).asI o6.asI p0_0 p0_1 (rows_le HN5_0.out HR0_0.out) p1).mono ?_
  rw [HN5_0.out]
  obtain ⟨res, hres⟩ : ∃ res, res = rctF d0_0 (nums x0_0) x0_1 xs1 b2 := ⟨_, rfl⟩
  rw [← hres]
  have HRES := Lib.hid hres
  clear hres
  rintro e W7 ⟨A7r, c7r, rfl, oR7, z7⟩
  have hlen : res.1.length ≤ 1048576 := by rw [HRES.out]; exact rctF_len d0_0 (nums x0_0) x0_1 xs1 b2
  have lx0 := hlen
  have yW0_W5 : Below W0.heap.size W0 W5 := z1.trans (z5.mono z1.size)
  have yW0_W6 : Below W0.heap.size W0 W6 := yW0_W5.trans (z6.mono yW0_W5.size)
  have yW0_W7 : Below W0.heap.size W0 W7 := yW0_W6.trans (z7.mono yW0_W6.size)
  have uc8 : W7.cell? ⟨w.heap.size, 0, none⟩ = some (.int .i64 d0_0) := (bb0.below' yW0_W7).cell 0
  have uc9 : W7.cell? ⟨w.heap.size, 1, none⟩ = some (.slice A0_0 n0_0 c0_0) := (bb0.below' yW0_W7).cell 1
  have uc10 : W7.cell? ⟨w.heap.size, 2, none⟩ = some (.slice A0_1 n0_1 c0_1) := (bb0.below' yW0_W7).cell 2
  go_wp2_with fail
  have yw_W6 : Below w.heap.size w W6 := yw_W5.trans (z6.mono yw_W5.size)
  have yw_W7 : Below w.heap.size w W7 := yw_W6.trans (z7.mono yw_W6.size)
  refine (toTag_any _ _ _ _ x0_0 _ _ _ x0_1 _ (h0_0.below yw_W7) p0_0 HR0_0.out (h0_1.below yw_W7) p0_1).mono ?_
  rintro e W11 ⟨B11_0, us11_0, B11_1, rfl, o11_0, hn11_0, o11_1, z11⟩
  have HN11_0 := Lib.hid hn11_0; clear hn11_0
  clear uc8 uc9 uc10
  obtain ⟨W12, hW12⟩ : ∃ W, W = W11.alloc (.cells #[.int .i64 d0_0, .slice B11_0 n0_0 n0_0, .slice B11_1 n0_1 n0_1] 51) := ⟨_, rfl⟩
  have cb0 : Blk W12 W11.heap.size 51 #[.int .i64 d0_0, .slice B11_0 n0_0 n0_0, .slice B11_1 n0_1 n0_1] := by rw [hW12]; exact Blk.new W11 _ _
  have z12 : Below W11.heap.size W11 W12 := by rw [hW12]; exact (Below.refl _ _).alloc (Nat.le_refl _) _
  have HW12 := Lib.hid hW12
  clear hW12
  go_upto_region 10 with fail
  rw [← HW12.out]
  go_wp2_with fail
  have yw_W11 : Below w.heap.size w W11 := yw_W7.trans (z11.mono yw_W7.size)
  have yw_W12 : Below w.heap.size w W12 := yw_W11.trans (z12.mono yw_W11.size)
  refine (toI _ _ _ xs1 _ (hx1.below yw_W12) p1).mono ?_
  rintro e W13 ⟨B13, rfl, o13, z13⟩
  have uc14 : W13.cell? ⟨W11.heap.size, 0, none⟩ = some (.int .i64 d0_0) := (cb0.below' z13).cell 0
  have uc15 : W13.cell? ⟨W11.heap.size, 1, none⟩ = some (.slice B11_0 n0_0 n0_0) := (cb0.below' z13).cell 1
  have uc16 : W13.cell? ⟨W11.heap.size, 2, none⟩ = some (.slice B11_1 n0_1 n0_1) := (cb0.below' z13).cell 2
  go_wp2_with fail
  have yW11_W13 : Below W11.heap.size W11 W13 := z12.trans (z13.mono z12.size)
  refine (rctI_any _ _ _ _ us11_0 _ _ _ x0_1 _ _ _ xs1 _ _ (o11_0.below yW11_W13).sii (o11_1.below yW11_W13).asI o13.asI p0_0 p0_1 (rows_le HN11_0.out HR0_0.out) p1).mono ?_
  rw [HN11_0.out, ← HRES.out]
  rintro e W17 ⟨A17r, c17r, rfl, oR17, z17⟩
  clear uc14 uc15 uc16
  have yW7_W12 : Below W7.heap.size W7 W12 := z11.trans (z12.mono z11.size)
  have yW7_W13 : Below W7.heap.size W7 W13 := yW7_W12.trans (z13.mono yW7_W12.size)
  have yW7_W17 : Below W7.heap.size W7 W17 := yW7_W13.trans (z17.mono yW7_W13.size)
  go_wp2_with fail
  refine (eqI_b _ _ _ _ _ _ res.1 res.1 _ oR17.rd (oR7.below yW7_W17).rd (by omega)).mono ?_
  rintro e W18 ⟨rfl, z18⟩
  rw [sameI_self]
  have yW12_W17 : Below W12.heap.size W12 W17 := z13.trans (z17.mono z13.size)
  have yW12_W18 : Below W12.heap.size W12 W18 := yW12_W17.trans (z18.mono yW12_W17.size)
  have uc19 : W18.cell? ⟨W11.heap.size, 0, none⟩ = some (.int .i64 d0_0) := (cb0.below' yW12_W18).cell 0
  have uc20 : W18.cell? ⟨W11.heap.size, 1, none⟩ = some (.slice B11_0 n0_0 n0_0) := (cb0.below' yW12_W18).cell 1
  have uc21 : W18.cell? ⟨W11.heap.size, 2, none⟩ = some (.slice B11_1 n0_1 n0_1) := (cb0.below' yW12_W18).cell 2
  have yW0_W11 : Below W0.heap.size W0 W11 := yW0_W7.trans (z11.mono yW0_W7.size)
  have yW0_W12 : Below W0.heap.size W0 W12 := yW0_W11.trans (z12.mono yW0_W11.size)
  have yW0_W13 : Below W0.heap.size W0 W13 := yW0_W12.trans (z13.mono yW0_W12.size)
  have yW0_W17 : Below W0.heap.size W0 W17 := yW0_W13.trans (z17.mono yW0_W13.size)
  have yW0_W18 : Below W0.heap.size W0 W18 := yW0_W17.trans (z18.mono yW0_W17.size)
  have uc22 : W18.cell? ⟨w.heap.size, 0, none⟩ = some (.int .i64 d0_0) := (bb0.below' yW0_W18).cell 0
  have uc23 : W18.cell? ⟨w.heap.size, 1, none⟩ = some (.slice A0_0 n0_0 c0_0) := (bb0.below' yW0_W18).cell 1
  have uc24 : W18.cell? ⟨w.heap.size, 2, none⟩ = some (.slice A0_1 n0_1 c0_1) := (bb0.below' yW0_W18).cell 2
  have yw_W13 : Below w.heap.size w W13 := yw_W12.trans (z13.mono yw_W12.size)
  have yw_W17 : Below w.heap.size w W17 := yw_W13.trans (z17.mono yw_W13.size)
  have yw_W18 : Below w.heap.size w W18 := yw_W17.trans (z18.mono yw_W17.size)
  have yW11_W17 : Below W11.heap.size W11 W17 := yW11_W13.trans (z17.mono yW11_W13.size)
  have yW11_W18 : Below W11.heap.size W11 W18 := yW11_W17.trans (z18.mono yW11_W17.size)
  go_wp2_with fail
  go_region_held3 (fun w' => w'.cell? ⟨W11.heap.size, 0, none⟩ = some (.int .i64 d0_0) ∧ w'.cell? ⟨W11.heap.size, 1, none⟩ = some (.slice B11_0 n0_0 n0_0) ∧ w'.cell? ⟨W11.heap.size, 2, none⟩ = some (.slice B11_1 n0_1 n0_1) ∧ w'.cell? ⟨w.heap.size, 0, none⟩ = some (.int .i64 d0_0) ∧ w'.cell? ⟨w.heap.size, 1, none⟩ = some (.slice A0_0 n0_0 c0_0) ∧ w'.cell? ⟨w.heap.size, 2, none⟩ = some (.slice A0_1 n0_1 c0_1))
    (first
      | (go_keep; done)
      | (exact ⟨((cb0.below' yW12_W18).below' zz26).cell 0, ((cb0.below' yW12_W18).below' zz26).cell 1, ((cb0.below' yW12_W18).below' zz26).cell 2, ((bb0.below' yW0_W18).below' zz26).cell 0, ((bb0.below' yW0_W18).below' zz26).cell 1, ((bb0.below' yW0_W18).below' zz26).cell 2⟩)
      | (exact ⟨((cb0.below' yW12_W18).below' zz25).cell 0, ((cb0.below' yW12_W18).below' zz25).cell 1, ((cb0.below' yW12_W18).below' zz25).cell 2, ((bb0.below' yW0_W18).below' zz25).cell 0, ((bb0.below' yW0_W18).below' zz25).cell 1, ((bb0.below' yW0_W18).below' zz25).cell 2⟩))
    (first
      | (go_at_call 32; refine (toTag_any _ _ _ _ x0_0 _ _ _ x0_1 _ ((h0_0.below yw_W18).drewN 1) p0_0 HR0_0.out ((h0_1.below yw_W18).drewN 1) p0_1).mono ?_; rintro e W25 ⟨B25_0, us25_0, B25_1, rfl, o25_0, hn25_0, o25_1, z25⟩; have zz25 : Below W18.heap.size W18 W25 := below_undrew z25; have HN25_0 := Lib.hid hn25_0; clear hn25_0)
      | (go_at_call 36; refine (eqTag_any _ _ _ _ us11_0 _ _ _ x0_1 _ _ _ _ us25_0 _ _ _ x0_1 _ ((o11_0.below yW11_W18).below zz25).sii o25_0.sii p0_0 (rows_le HN11_0.out HR0_0.out) ((o11_1.below yW11_W18).below zz25).asI o25_1.asI p0_1).mono ?_; rintro e W26 ⟨rfl, z26⟩; have zz26 : Below W18.heap.size W18 W26 := zz25.trans (z26.mono zz25.size)))
  rw [HN11_0.out, HN25_0.out, sameTagB_self]
  clear uc19 uc20 uc21 uc22 uc23 uc24
  clear o25_0 o25_1 z25 zz25 z26
  have yw_W26 : Below w.heap.size w W26 := yw_W18.trans (zz26.mono yw_W18.size)
  go_wp2_with fail
  refine (toI _ _ _ xs1 _ (hx1.below yw_W26) p1).mono ?_
  rintro e W27 ⟨B27, rfl, o27, z27⟩
  have yW13_W18 : Below W13.heap.size W13 W18 := z17.trans (z18.mono z17.size)
  have yW13_W26 : Below W13.heap.size W13 W26 := yW13_W18.trans (zz26.mono yW13_W18.size)
  have yW13_W27 : Below W13.heap.size W13 W27 := yW13_W26.trans (z27.mono yW13_W26.size)
  go_wp2_with fail
  refine (eqI_b _ _ _ _ _ _ xs1 xs1 _ (o13.below yW13_W27).rd o27.rd (by omega)).mono ?_
  rintro e W28 ⟨rfl, z28⟩
  rw [sameI_self]
  have TI0 : Hid (2 ∈ [2]) := Lib.hid (by decide)
  have TN_SS : Hid (25 ∉ [2]) := Lib.hid (by decide)
  have TN_Tag : Hid (51 ∉ [2]) := Lib.hid (by decide)
  have TL_Tag : Hid (47 ∉ [2]) := Lib.hid (by decide)
  have hs_W1 : W0.heap.size ≤ W1.heap.size := z1.size
  have hs_W5 : W1.heap.size ≤ W5.heap.size := z5.size
  have hs_W6 : W5.heap.size ≤ W6.heap.size := z6.size
  have hs_W7 : W6.heap.size ≤ W7.heap.size := z7.size
  have hs_W11 : W7.heap.size ≤ W11.heap.size := z11.size
  have hs_W12 : W11.heap.size ≤ W12.heap.size := z12.size
  have hs_W13 : W12.heap.size ≤ W13.heap.size := z13.size
  have hs_W17 : W13.heap.size ≤ W17.heap.size := z17.size
  have hs_W18 : W17.heap.size ≤ W18.heap.size := z18.size
  have hs_W26 : W18.heap.size ≤ W26.heap.size := zz26.size
  have hs_W27 : W26.heap.size ≤ W27.heap.size := z27.size
  have hs_W28 : W27.heap.size ≤ W28.heap.size := z28.size
  have yW11_W26 : Below W11.heap.size W11 W26 := yW11_W18.trans (zz26.mono yW11_W18.size)
  have yW11_W27 : Below W11.heap.size W11 W27 := yW11_W26.trans (z27.mono yW11_W26.size)
  have yW11_W28 : Below W11.heap.size W11 W28 := yW11_W27.trans (z28.mono yW11_W27.size)
  have m0_0 : MkII W28 W7.heap.size W13.heap.size 25 2 B11_0 n0_0 n0_0 us11_0 := by
    have h1 := (o11_0.below yW11_W28)
    exact ⟨h1.1.mono (by omega), fun t ht => ((h1.2.1 t ht).mono (by omega)).mk (fun b hb => by have := (o11_0.2.1 t ht).blk_lt b hb; omega)⟩
  have pu0_0 : total us11_0 ≤ 1048576 := by rw [total_same HN11_0.out]; exact pt0_0
  have m0_1 : Mk W28 W7.heap.size W13.heap.size 2 1 B11_1 n0_1 := (((o11_1.below yW11_W28)).mono (by omega)).mk (fun b hb => by have := o11_1.blk_lt b hb; omega)
  have yW13_W28 : Below W13.heap.size W13 W28 := yW13_W27.trans (z28.mono yW13_W27.size)
  have m1 : Mk W28 W7.heap.size W13.heap.size 2 1 B13 n1 := (((o13.below yW13_W28)).mono (by omega)).mk (fun b hb => by have := o13.blk_lt b hb; omega)
  have yW0_W26 : Below W0.heap.size W0 W26 := yW0_W18.trans (zz26.mono yW0_W18.size)
  have yW0_W27 : Below W0.heap.size W0 W27 := yW0_W26.trans (z27.mono yW0_W26.size)
  have yW0_W28 : Below W0.heap.size W0 W28 := yW0_W27.trans (z28.mono yW0_W27.size)
  have yW12_W26 : Below W12.heap.size W12 W26 := yW12_W18.trans (zz26.mono yW12_W18.size)
  have yW12_W27 : Below W12.heap.size W12 W27 := yW12_W26.trans (z27.mono yW12_W26.size)
  have yW12_W28 : Below W12.heap.size W12 W28 := yW12_W27.trans (z28.mono yW12_W27.size)
  have yw_W27 : Below w.heap.size w W27 := yw_W26.trans (z27.mono yw_W26.size)
  have yw_W28 : Below w.heap.size w W28 := yw_W27.trans (z28.mono yw_W27.size)
  have yW17_W26 : Below W17.heap.size W17 W26 := z18.trans (zz26.mono z18.size)
  have yW17_W27 : Below W17.heap.size W17 W27 := yW17_W26.trans (z27.mono yW17_W26.size)
  have yW17_W28 : Below W17.heap.size W17 W28 := yW17_W27.trans (z28.mono yW17_W27.size)
  have yW7_W18 : Below W7.heap.size W7 W18 := yW7_W17.trans (z18.mono yW7_W17.size)
  have yW7_W26 : Below W7.heap.size W7 W26 := yW7_W18.trans (zz26.mono yW7_W18.size)
  have yW7_W27 : Below W7.heap.size W7 W27 := yW7_W26.trans (z27.mono yW7_W26.size)
  have yW7_W28 : Below W7.heap.size W7 W28 := yW7_W27.trans (z28.mono yW7_W27.size)
  have io0 := (oR17.below yW17_W28)
  have so0 := (oR7.below yW7_W28)
  have bm0 := (bb0.below' yW0_W28)
  have cm0 := (cb0.below' yW12_W28)
  have cq0 := cm0
  have uc29 : W28.cell? ⟨W11.heap.size, 0, none⟩ = some (.int .i64 d0_0) := cq0.cell 0
  have uc30 : W28.cell? ⟨W11.heap.size, 1, none⟩ = some (.slice B11_0 n0_0 n0_0) := cq0.cell 1
  have uc31 : W28.cell? ⟨W11.heap.size, 2, none⟩ = some (.slice B11_1 n0_1 n0_1) := cq0.cell 2
  go_wp2_with fail
  refine (markTag_m [2] _ _ _ _ us11_0 _ _ _ _ _ W7.heap.size W13.heap.size m0_0 p0_0 pu0_0 m0_1 p0_1 TI0.out TN_SS.out TN_Tag.out (by omega) (by omega)).mono ?_
  rintro e W32 ⟨rfl, f32⟩
  clear uc29 uc30 uc31
  go_wp2_with fail
  refine (markI_m [2] _ _ _ _ _ W7.heap.size W13.heap.size (m1.mkf f32) TI0.out (by omega) (by omega)).mono ?_
  rintro e W33 ⟨rfl, f33⟩
  have ff33 := f32.trans f33
  have io0 := io0.mkf_far ff33 (fun b hb => .inr (oR17.blk_ge b hb))
  have so0 := so0.mkf_far ff33 (fun b hb => .inl (by have := oR7.blk_lt b hb; omega))
  have bm0 := bm0.mkf ff33 TL_Tag.out
  have yM : Below w.heap.size w W33 := yw_W28.trans (ff33.below yw_W7.size yw_W28.size)
  have hs_W33 : W28.heap.size ≤ W33.heap.size := ff33.size
  clear ff33
  have gneg : ¬ ((1 : Int) + ((total us11_0 + n0_1 : Nat) : Int) + (n1 : Int) < 0) := by omega
  go_wp2_with fail
  refine (eqI_b _ _ _ _ _ _ res.1 res.1 _ io0.rd so0.rd (by omega)).mono ?_
  rintro e W34 ⟨rfl, z34⟩
  rw [sameI_self]
  clear gneg
  have hs_W34 : W33.heap.size ≤ W34.heap.size := z34.size
  go_wp2_with fail
  refine (markI _ _ _ res.1 _ _ W13.heap.size W17.heap.size (.inr (io0.below z34)) (fun b hb => oR17.blk_lt b hb) (by omega) (by omega)).mono ?_
  rintro e W35 ⟨rfl, eR, t35, _⟩
  have so0 := (so0.below z34).touch t35 (fun b hb => .inl (by have := oR7.blk_lt b hb; omega))
  have bm0 := (bm0.below' z34).touch t35 (.inl (by have := bb0.lt; omega))
  have yw_W34 : Below w.heap.size w W34 := yM.trans (z34.mono yM.size)
  have hlow : w.heap.size ≤ W13.heap.size := by have := yw_W7.size; omega
  have yN : Below w.heap.size w W35 := yw_W34.trans (t35.below hlow yw_W34.size)
  have hs_W35 : W34.heap.size ≤ W35.heap.size := t35.size
  clear t35
  go_wp2_with fail
  refine (heldI_b _ _ _ (marks 1 res.1.length) _ _ eR.si (by omega) (by omega)).mono ?_
  rintro e W36 ⟨rfl, z36⟩
  rw [heldF_marks]
  have gneg : ¬ ((1 : Int) + (res.1.length : Int) < 0) := by omega
  have uc37 : W36.cell? ⟨w.heap.size, 0, none⟩ = some (.int .i64 d0_0) := (bm0.below' z36).cell 0
  have uc38 : W36.cell? ⟨w.heap.size, 1, none⟩ = some (.slice A0_0 n0_0 c0_0) := (bm0.below' z36).cell 1
  have uc39 : W36.cell? ⟨w.heap.size, 2, none⟩ = some (.slice A0_1 n0_1 c0_1) := (bm0.below' z36).cell 2
  have yw_W36 : Below w.heap.size w W36 := yN.trans (z36.mono yN.size)
  go_wp2_with fail
  refine (toTag_any _ _ _ _ x0_0 _ _ _ x0_1 _ (h0_0.below yw_W36) p0_0 HR0_0.out (h0_1.below yw_W36) p0_1).mono ?_
  rintro e W40 ⟨B40_0, us40_0, B40_1, rfl, o40_0, hn40_0, o40_1, z40⟩
  have HN40_0 := Lib.hid hn40_0; clear hn40_0
  clear uc37 uc38 uc39
  go_wp2_with fail
  have yw_W40 : Below w.heap.size w W40 := yw_W36.trans (z40.mono yw_W36.size)
  refine (toI _ _ _ xs1 _ (hx1.below yw_W40) p1).mono ?_
  rintro e W41 ⟨B41, rfl, o41, z41⟩
  go_wp2_with fail
  refine (rctI_any _ _ _ _ us40_0 _ _ _ x0_1 _ _ _ xs1 _ _ (o40_0.below z41).sii (o40_1.below z41).asI o41.asI p0_0 p0_1 (rows_le HN40_0.out HR0_0.out) p1).mono ?_
  rw [HN40_0.out]
  rw [← HRES.out]
  rintro e W42 ⟨A42r, c42r, rfl, oR42, z42⟩
  have yW35_W40 : Below W35.heap.size W35 W40 := z36.trans (z40.mono z36.size)
  have yW35_W41 : Below W35.heap.size W35 W41 := yW35_W40.trans (z41.mono yW35_W40.size)
  have yW35_W42 : Below W35.heap.size W35 W42 := yW35_W41.trans (z42.mono yW35_W41.size)
  go_wp2_with fail
  refine (eqI_b _ _ _ _ _ _ res.1 res.1 _ oR42.rd (so0.below yW35_W42).rd (by omega)).mono ?_
  rintro e W43 ⟨rfl, z43⟩
  rw [sameI_self]
  go_wp2_with fail
  have yW35_W43 : Below W35.heap.size W35 W43 := yW35_W42.trans (z43.mono yW35_W42.size)
  refine (heldI_b _ _ _ (marks 1 res.1.length) _ _ (eR.below yW35_W43).si (by omega) (by omega)).mono ?_
  rintro e W44 ⟨rfl, z44⟩
  rw [heldF_marks]
  have yw_W41 : Below w.heap.size w W41 := yw_W40.trans (z41.mono yw_W40.size)
  have yw_W42 : Below w.heap.size w W42 := yw_W41.trans (z42.mono yw_W41.size)
  have yw_W43 : Below w.heap.size w W43 := yw_W42.trans (z43.mono yw_W42.size)
  have yw_W44 : Below w.heap.size w W44 := yw_W43.trans (z44.mono yw_W43.size)
  go_wp2_with fail
  go_ret
  exact ⟨rfl, yw_W44⟩
end Go.Proofs.Ythipbeggaeogcaa

/-
  For every input, FnExactRunCyclicTag returns true, and each argument reads afterwards as it read before. No conditions.
-/
namespace Go.Proofs.Ythipbeggaeogcaa.lawRunCyclicTagRow
open Go.ChangeShapes Go.WideShapes Go.ChangeAt Go.RowKit Go.Joins Go.Proofs.Ythipbeggaeogcaa

theorem own : ownKnob Try.prog.godebug = none := by kernel_rfl
theorem laidOut : laidOutB Try.prog = true := by kernel_rfl
theorem readable : ∀ t ∈ Try.f5.params.toList, Try.prog.readableRec t = true ∧ t < Try.prog.types.size := by
  have h : (Try.f5.params.toList.all fun t => Try.prog.readableRec t && decide (t < Try.prog.types.size)) = true := by kernel_rfl
  intro t ht
  have := List.all_eq_true.1 h t ht
  simpa using this

set_option maxRecDepth 100000 in
theorem lifted (os : Os) (started : os.Started) (H : Type) (enc : TypeId × Value → H) :
    ReturnsInHanded {} Try.checked os 5 .any (Rows.fnExactRunCyclicTagSpec.pre6 enc Try.prog Try.f5 Rows.fnExactRunCyclicTagRow.domain false) (Rows.fnExactRunCyclicTagSpec.post enc Try.prog Try.f5 false true false false) := by
  refine returnsInHanded_of_change (C := Try.checked) own started (by kernel_rfl) Try.func5
    (ChangeSpec.witness6 (enc := enc) (C := Try.checked) false ⟨#[], #[.agg #[.int .i64 0, .slice none 0 0, .slice none 0 0], .slice none 0 0, .int .i64 0], []⟩ 8 (by kernel_rfl) (by kernel_rfl) (by kernel_rfl) (by kernel_rfl)) ?_
  intro W base args ds gs before hval0 hW hcnd _
  have hval : ∀ (j : Nat) t v, Try.f5.params[j]? = some t → args[j]? = some v → Value.okWide Try.prog W .any base t v := hval0
  have hW' := hW
  obtain ⟨p, q, hA0, hV, hbef, hfz, hnd⟩ := hW
  have hA : DataW.TrodAll enc Try.prog W 0 (fun _ => true) true Try.f5.params.toList args.toList ds p := hA0
  rw [Try.params5] at hA hval
  obtain ⟨v0, vs0, d0, ds0, p0, q0, hargs, rfl, rfl, h0, r0⟩ := trodAll_cons hA
  obtain ⟨v1, vs1, d1, ds1, p1, q1, rfl, rfl, rfl, h1, r1⟩ := trodAll_cons r0
  obtain ⟨v2, vs2, d2, ds2, p2, q2, rfl, rfl, rfl, h2, r2⟩ := trodAll_cons r1
  obtain ⟨rfl, rfl, rfl⟩ := trodAll_nil r2
  obtain rfl : args = #[v0, v1, v2] := by cases args; simp_all
  obtain ⟨rfl, rfl⟩ := trodVars_none hV
  obtain ⟨c00, c01, c02, y00, y01, y02, nn0, rfl, _, _, e00, e01, e02⟩ := open_agg3 Try.underlying47 (by kernel_rfl) (by kernel_rfl) (hval 0 47 v0 rfl rfl) h0
  obtain ⟨z00, ez, _, _⟩ := DataW.trod_int Try.underlying2 e00
  simp only [List.cons.injEq, and_true] at ez
  subst ez
  obtain ⟨A01, n01, k01, x01, rfl, S01, l01, m01, hr01, _⟩ := sii_of_trod Try.underlying22 Try.underlying25 Try.underlying2 (by kernel_rfl) (by kernel_rfl) e01
  obtain ⟨A02, n02, k02, x02, rfl, S02, l02, m02, _⟩ := si_of_trod Try.underlying25 Try.underlying2 (by kernel_rfl) e02
  obtain ⟨Aa1, na1, ka1, rfl⟩ := okWide_slice Try.underlying25 (hval 1 25 v1 rfl rfl)
  obtain ⟨fuel1, hf1⟩ := h1
  obtain ⟨Aa1', na1', ka1', xa1, ee1, Sa1, la1, ma1, _⟩ := si_of_trod (v := .slice Aa1 na1 ka1) Try.underlying25 Try.underlying2 (by kernel_rfl) (by simpa [Value.cells] using hf1)
  simp only [Value.slice.injEq] at ee1
  obtain ⟨rfl, rfl, rfl⟩ := ee1
  obtain ⟨b2, rfl⟩ := okWide_int Try.underlying2 (hval 2 2 v2 rfl rfl)
  refine (lawRunCyclicTag z00 A01 n01 k01 x01 A02 n02 k02 x02 Aa1 na1 ka1 xa1 b2 W S01 S02 Sa1 (by omega) (by omega) (fun t ht => by have := hr01 t ht; omega) (by omega)).mono fun e W' ⟨he, hb⟩ => ?_
  subst he
  exact ⟨_, rfl, law_post laidOut readable rfl (by kernel_rfl) Try.underlying4 rfl rfl rfl hW' hb⟩

theorem proved : Rows.FnExactRunCyclicTagSaid :=
  OpenClaim.holds_of_wide 5 Try.f5 rfl rfl rfl rfl rfl rfl rfl ⟨rfl, rfl, rfl, rfl, rfl⟩ rfl rfl rfl rfl rfl (by kernel_rfl) Try.func5 (by kernel_rfl)
    (of_decide_eq_true (by kernel_rfl)) (by unfold Func.isWrapper; first | (rw [if_pos (by decide +kernel)]; kernel_rfl) | (rw [if_neg (by decide +kernel)]; exact ⟨rfl, rfl⟩))
    (fun os started H enc _ => lifted os started H enc)
end Go.Proofs.Ythipbeggaeogcaa.lawRunCyclicTagRow
