/-
  Contract of the reference's CollatzNumbers.
-/
import Derived.Test.YtldgfgjaabphnaaCollL
import Derived.Test.YtldgfgjaabphnaaRunTagS
import Derived.Test.YtldgfgjaabphnaaNewI
namespace Go.Proofs.Ytldgfgjaabphnaa
open Go.RowKit

theorem all_zero {xs : List Int} (h : ∀ x ∈ xs, 0 ≤ x) : xs.all (fun x => decide (x < 1)) = zeroB xs := by
  unfold zeroB allIn
  rw [Bool.eq_iff_iff, List.all_eq_true, List.all_eq_true]
  constructor
  · intro k x hx; have h1 := k x hx; have h2 := h x hx; simp at h1; rw [inB_iff]; omega
  · intro k x hx; have h1 := k x hx; rw [inB_iff] at h1; simp; omega

set_option maxRecDepth 100000 in
set_option maxHeartbeats 4000000 in
theorem collNumbersS_any (n b : Int) (w : World) : Calls Try.prog 48 #[.int .i64 n, .int .i64 b] w (NewI2 w (collF n b)) := by
  cases a1 : inB n 1 1000
  · have HF := Lib.hid (collF_n (b := b) a1)
    have A1 := Lib.hid a1
    clear a1
    go_enter Try.func48, Try.ntmps48
    go_wp2_with (go_at_call 69; refine (l00In_is A1.out _).mono ?_; rintro e w' ⟨rfl, rfl⟩)
    exact bodyPost_ret (v := .tuple #[.slice none 0 0, .int .i64 2]) (by simp [results, Try.results48, go_sem]) rfl (i2_nil HF.out (Below.refl _ _))
  cases a2 : inB b 1 20000
  · have HF := Lib.hid (collF_b (n := n) a2)
    have A1 := Lib.hid a1
    have A2 := Lib.hid a2
    clear a1 a2
    go_enter Try.func48, Try.ntmps48
    go_wp2_with (first | (go_at_call 69; refine (l00In_is A1.out _).mono ?_; rintro e w' ⟨rfl, rfl⟩) | (go_at_call 60; refine (l05Budget_is A2.out _).mono ?_; rintro e w' ⟨rfl, rfl⟩))
    exact bodyPost_ret (v := .tuple #[.slice none 0 0, .int .i64 2]) (by simp [results, Try.results48, go_sem]) rfl (i2_nil HF.out (Below.refl _ _))
  have hn := (inB_iff _ _ _).1 a1
  have hb := (inB_iff _ _ _).1 a2
  obtain ⟨m, rfl⟩ : ∃ m : Nat, n = (m : Int) := ⟨n.toNat, by omega⟩
  obtain ⟨N, rfl⟩ : ∃ N : Nat, b = (N : Int) := ⟨b.toNat, by omega⟩
  have A1 := Lib.hid a1
  have A2 := Lib.hid a2
  clear a1 a2
  have HFH : Hid (∀ i, collSys.Ended (zeros m) N i → collSys.halt (collSys.it (zeros m) i) = true → collF (m : Int) (N : Int) = (zlens collSys (zeros m) (i + 1), 0)) := Lib.hid (fun i h1 h2 => collF_halt A1.out A2.out h1 h2)
  have HFR : Hid (∀ i, collSys.Ended (zeros m) N i → collSys.halt (collSys.it (zeros m) i) = false → collF (m : Int) (N : Int) = ([], 5)) := Lib.hid (fun i h1 h2 => collF_runs A1.out A2.out h1 h2)
  have HFF : Hid (∀ i, collSys.Full (zeros m) N i → collF (m : Int) (N : Int) = ([], 5)) := Lib.hid (fun i h1 => collF_full A1.out A2.out h1)
  have HG : Hid (∀ i, collSys.Alive (zeros m) i → tagCodeF 2 collWords [] (collSys.it (zeros m) i) = 0 ∧ (collSys.it (zeros m) i).length ≤ 1000 ∧ 1 ≤ (collSys.it (zeros m) i).length ∧ ∀ x ∈ collSys.it (zeros m) i, 0 ≤ x) := Lib.hid (fun i hi => by
    have h1 : tagCodeF 2 collWords [] (collSys.it (zeros m) i) = 0 := tagAlive_good (coll_code A1.out) hi
    have h2 := tagCode_parts h1
    exact ⟨h1, h2.2.2.2.1, coll_pos A1.out hi, fun x hx => (h2.2.2.2.2.1 x hx).1⟩)
  go_enter Try.func48, Try.ntmps48
  go_wp2_with (first | (go_at_call 69; refine (l00In_is A1.out _).mono ?_; rintro e w' ⟨rfl, rfl⟩) | (go_at_call 60; refine (l05Budget_is A2.out _).mono ?_; rintro e w' ⟨rfl, rfl⟩))
  refine (collTagS_any _).mono ?_
  rintro e w2 ⟨A, B, k, ts, rfl, hS, hnu, z2⟩
  have HN := Lib.hid hnu
  clear hnu
  obtain ⟨Wb, hW_⟩ : ∃ W_, W_ = w2.alloc (.cells #[.int .i64 2, .slice A 3 3, .slice B 0 k] 29) := ⟨_, rfl⟩
  have bb : Blk Wb w2.heap.size 29 #[.int .i64 2, .slice A 3 3, .slice B 0 k] := by rw [hW_]; exact Blk.new w2 _ _
  have zb : Below w2.heap.size w2 Wb := by rw [hW_]; exact (Below.refl _ _).alloc (Nat.le_refl _) _
  have HWb := Lib.hid hW_
  clear hW_
  have tb : TagAt Wb w2.heap.size 2 A 3 3 B 0 k := ⟨bb.cell 0, bb.cell 1, bb.cell 2⟩
  have hSb := hS.below zb
  have yb := z2.trans (zb.mono z2.size)
  obtain ⟨W4, hW_⟩ : ∃ W_, W_ = Wb.alloc (.cells #[.int .i64 0] 2) := ⟨_, rfl⟩
  have b4 : Blk W4 Wb.heap.size 2 #[.int .i64 0] := by rw [hW_]; exact Blk.new Wb _ _
  have z4 : Below Wb.heap.size Wb W4 := by rw [hW_]; exact (Below.refl _ _).alloc (Nat.le_refl _) _
  have HW4 := Lib.hid hW_
  clear hW_
  have hI4 : SI W4 (some ⟨Wb.heap.size, 0, none⟩) 1 [0] := by rw [HW4.out]; exact Rd.new1 Wb _ _
  have hsb : Wb.heap.size = w2.heap.size + 1 := by rw [HWb.out]; simp
  rw [hsb] at hI4
  go_wp2_with fail
  rw [← HWb.out, ← HW4.out]
  refine (l03Power_any _ _ m _ hI4 (by omega)).mono ?_
  rintro e W5 ⟨A5, c5, rfl, ho5, hb5⟩
  have z5 := z4.trans (hb5.mono z4.size)
  have o6 := (Own.lit0 W5 2 1).mono z5.size
  have z6 := z5.alloc z5.size (.cells #[] 2)
  have ho6 := (ho5.alloc (.cells #[] 2)).mono z4.size
  rw [zeros_len] at ho6
  have HAP0 : Hid (∀ b, blk A5 = some b → blk (some (⟨W5.heap.size, 0, none⟩ : Addr)) ≠ some b) := Lib.hid (fun b h1 h2 => by
    have h3 := ho5.blk_lt b h1
    simp [blk] at h2
    omega)
  rw [zeros_len]
  go_wp2_with fail
  generalize W5.alloc (.cells #[] 2) = W6 at *
  have hlen0 : (collSys.it (zeros m) 0).length = m := zeros_len m
  have HL0 := Lib.hid hlen0
  clear hlen0 ho5 hI4
  go_loopw [1, 7, 8] (fun q v out wr => ∃ (i : Nat) (D : Option Addr) (cd : Nat) (E : Option Addr) (ln ce : Nat) (vs : List Int), q = .int .i64 ((N : Int) - (i : Int)) ∧ v = .slice D (collSys.it (zeros m) i).length cd ∧ out = .slice E ln ce ∧ i ≤ N ∧ collSys.Alive (zeros m) i ∧ Own wr Wb.heap.size 2 1 D (collSys.it (zeros m) i).length cd (ints (collSys.it (zeros m) i)) ∧ Own wr Wb.heap.size 2 1 E ln ce (ints vs) ∧ Hid (zlens collSys (zeros m) i = vs) ∧ Hid (∀ b, blk D = some b → blk E ≠ some b) ∧ Below Wb.heap.size Wb wr) (fun q _ _ _ => (intOf q).toNat)
  case atStart => exact ⟨0, A5, c5, _, 0, 0, [], by simp, by rw [HL0.out], rfl, Nat.zero_le _, Sys.Alive.zero _ _, by rw [HL0.out]; exact ho6, o6, Lib.hid rfl, HAP0, z6⟩
  case round =>
    obtain ⟨i, D, cd, E, ln, ce, vs, rfl, rfl, rfl, hi, hal, hoV, hoE, hzl, HAP, hbV⟩ := hrel
    obtain ⟨hcode, hlen, hpos, hnn⟩ := HG.out i hal
    have HAL := Lib.hid hal
    have HCODE := Lib.hid hcode
    have HP := Lib.hid hpos
    have HZA := Lib.hid (all_zero hnn)
    have hvl : vs.length = ln := by have := hoE.len; rw [length_ints] at this; omega
    have hvi : ln ≤ i := by rw [← hvl, ← hzl.out]; exact zlens_le _ _ _
    clear hal hcode hpos hnn ho6 o6 z6 HAP0
    cases hz : zeroB (collSys.it (zeros m) i) with
    | false =>
      have HZ := Lib.hid hz
      have HV := Lib.hid ((zlens_no hz).trans hzl.out)
      clear hz hzl
      have HLN := Lib.hid hvl
      clear hvl HAP
      have hone : ∀ v, decide (((collSys.it (zeros m) i).length : Int) = 1) = v → (((collSys.it (zeros m) i).length : Int) == 1) = v := fun v h => h
      cases h1 : decide (((collSys.it (zeros m) i).length : Int) = 1) with
      | true =>
        have HH := Lib.hid ((coll_halt _ HP.out).trans h1)
        have HF := Lib.hid (HFH.out i ⟨hi, HAL.out, .inr HH.out⟩ HH.out)
        have hd := hone _ h1
        clear h1 hone
        go_wp2_with (go_at_call 97; refine (l03Over_any _ _ _ (collSys.it (zeros m) i) _ _ hoV.rd (by omega)).mono ?_; rw [HZA.out, HZ.out]; rintro e w' ⟨rfl, rfl⟩)
        exact bodyPost_ret (v := .tuple #[.slice E ln ce, .int .i64 0]) (by simp [results, Try.results48, go_sem]) rfl (i2_of (HF.out.trans (by rw [HV.out])) HLN.out.symm (hoE.mono yb.size) (yb.trans (hbV.mono yb.size)))
      | false =>
        have HH := Lib.hid ((coll_halt _ HP.out).trans h1)
        have hd := hone _ h1
        clear h1 hone
        by_cases hlt : i < N
        rotate_left
        · have hd2 : (((N : Int) - (i : Int)) == 0) = true := by simp; omega
          have HF := Lib.hid (HFR.out i ⟨hi, HAL.out, .inl (by omega)⟩ HH.out)
          go_wp2_with (go_at_call 97; refine (l03Over_any _ _ _ (collSys.it (zeros m) i) _ _ hoV.rd (by omega)).mono ?_; rw [HZA.out, HZ.out]; rintro e w' ⟨rfl, rfl⟩)
          exact bodyPost_ret (v := .tuple #[.slice none 0 0, .int .i64 5]) (by simp [results, Try.results48, go_sem]) rfl (i2_nil HF.out (yb.trans (hbV.mono yb.size)))
        have hd2 : (((N : Int) - (i : Int)) == 0) = false := by simp; omega
        go_wp2_with (go_at_call 97; refine (l03Over_any _ _ _ (collSys.it (zeros m) i) _ _ hoV.rd (by omega)).mono ?_; rw [HZA.out, HZ.out]; rintro e w' ⟨rfl, rfl⟩)
        have hstep := l09Step_g (C := D) (r := cd) (xs := collSys.it (zeros m) i) (tb.below hbV) ((hSb.below hbV).sii) hoV.rd (by rw [HN.out]; exact HCODE.out) (hs := []) HH.out
        rw [HN.out] at hstep
        have HSTEP : Hid (Calls Try.prog 72 #[.pointer (some ⟨w2.heap.size, 0, none⟩), .slice D (collSys.it (zeros m) i).length cd] wr (SpecStep wr (collSys.next (collSys.it (zeros m) i)) (collSys.room (collSys.it (zeros m) i)))) := Lib.hid hstep
        clear hstep
        refine HSTEP.out.mono ?_
        rintro e W3 ⟨A4, c4, rfl, ho4, hb4⟩
        have hoE3 := hoE.below hb4
        have hb6 : Below Wb.heap.size Wb W3 := hbV.trans (hb4.mono hbV.size)
        cases hr : collSys.room (collSys.it (zeros m) i) with
        | true =>
          have HR := Lib.hid hr
          clear hr
          go_wp2_with fail
          go_roundw
          case rel => exact ⟨i + 1, A4, c4, E, ln, ce, vs, by go_num, rfl, rfl, by omega, HAL.out.step HH.out HR.out, ho4.mono hbV.size, hoE3, HV, Lib.hid (fun b h1 h2 => by have h3 := ho4.blk_ge b h1; have h4 := hoE.blk_lt b h2; omega), hb6⟩
          case measure => simp [intOf]; omega
        | false =>
          have HF := Lib.hid (HFF.out i ⟨hlt, HAL.out, HH.out, hr⟩)
          clear hr
          go_wp2_with fail
          exact bodyPost_ret (v := .tuple #[.slice none 0 0, .int .i64 5]) (by simp [results, Try.results48, go_sem]) rfl (i2_nil HF.out (yb.trans (hb6.mono yb.size)))
    | true =>
      have HZ := Lib.hid hz
      have HV' := Lib.hid (zlens_yes hz)
      clear hz
      have hone : ∀ v, decide (((collSys.it (zeros m) i).length : Int) = 1) = v → (((collSys.it (zeros m) i).length : Int) == 1) = v := fun v h => h
      cases h1 : decide (((collSys.it (zeros m) i).length : Int) = 1) with
      | true =>
        have HH := Lib.hid ((coll_halt _ HP.out).trans h1)
        have HF := Lib.hid (HFH.out i ⟨hi, HAL.out, .inr HH.out⟩ HH.out)
        have hd := hone _ h1
        clear h1 hone
        go_wp2_with (first
          | (go_at_call 97; refine (l03Over_any _ _ _ (collSys.it (zeros m) i) _ _ hoV.rd (by omega)).mono ?_; rw [HZA.out, HZ.out]; rintro e w' ⟨rfl, rfl⟩)
          | (at_builtin; refine wpList_append_Own rfl (.tmp 28) (.tmp 31) rfl elI (lo := Wb.heap.size) rfl (hoE.alloc _) rfl (Rd.new1 _ _ _) (by simp [Value.oneCell']) (by omega) (by simp only [maxLen]; omega) (by have := hbV.size; simp; omega) ?_; intro E2 ce2 V ho9 hg9 hw9))
        have hbV2 : Below Wb.heap.size Wb V := Own.below_of (hoE.alloc _) (hbV.alloc hbV.size _) hg9 (by have := hbV.size; simp; omega)
        have hoV2 := (hoV.alloc (.cells #[.int .i64 ((collSys.it (zeros m) i).length : Int)] 2)).grown hg9 (fun g hgE hD => HAP.out g hD hgE)
        have hoE2 : Own V Wb.heap.size 2 1 E2 (ln + 1) ce2 (ints (vs ++ [((collSys.it (zeros m) i).length : Int)])) := by rw [← ints_append]; exact ho9
        have HV := Lib.hid (HV'.out.trans (by rw [hzl.out]))
        have hln2 : (vs ++ [((collSys.it (zeros m) i).length : Int)]).length = ln + 1 := by rw [List.length_append, hvl]; rfl
        have HLN := Lib.hid hln2
        clear hln2 ho9 hg9 hw9 hoV hoE hbV HV' HAP
        generalize (vs ++ [((collSys.it (zeros m) i).length : Int)]) = vs2 at *
        have hoV := hoV2
        have hoE := hoE2
        have hbV := hbV2
        clear hoV2 hoE2 hbV2
        obtain ⟨ln2, hq⟩ : ∃ q, q = ln + 1 := ⟨_, rfl⟩
        rw [← hq] at hoE HLN ⊢
        clear hq
        exact bodyPost_ret (v := .tuple #[.slice E2 ln2 ce2, .int .i64 0]) (by simp [results, Try.results48, go_sem]) rfl (i2_of (HF.out.trans (by rw [HV.out])) HLN.out.symm (hoE.mono yb.size) (yb.trans (hbV.mono yb.size)))
      | false =>
        have HH := Lib.hid ((coll_halt _ HP.out).trans h1)
        have hd := hone _ h1
        clear h1 hone
        by_cases hlt : i < N
        rotate_left
        · have hd2 : (((N : Int) - (i : Int)) == 0) = true := by simp; omega
          have HF := Lib.hid (HFR.out i ⟨hi, HAL.out, .inl (by omega)⟩ HH.out)
          go_wp2_with (first
            | (go_at_call 97; refine (l03Over_any _ _ _ (collSys.it (zeros m) i) _ _ hoV.rd (by omega)).mono ?_; rw [HZA.out, HZ.out]; rintro e w' ⟨rfl, rfl⟩)
            | (at_builtin; refine wpList_append_Own rfl (.tmp 28) (.tmp 31) rfl elI (lo := Wb.heap.size) rfl (hoE.alloc _) rfl (Rd.new1 _ _ _) (by simp [Value.oneCell']) (by omega) (by simp only [maxLen]; omega) (by have := hbV.size; simp; omega) ?_; intro E2 ce2 V ho9 hg9 hw9))
          have hbV2 : Below Wb.heap.size Wb V := Own.below_of (hoE.alloc _) (hbV.alloc hbV.size _) hg9 (by have := hbV.size; simp; omega)
          have hoV2 := (hoV.alloc (.cells #[.int .i64 ((collSys.it (zeros m) i).length : Int)] 2)).grown hg9 (fun g hgE hD => HAP.out g hD hgE)
          have hoE2 : Own V Wb.heap.size 2 1 E2 (ln + 1) ce2 (ints (vs ++ [((collSys.it (zeros m) i).length : Int)])) := by rw [← ints_append]; exact ho9
          have HV := Lib.hid (HV'.out.trans (by rw [hzl.out]))
          have hln2 : (vs ++ [((collSys.it (zeros m) i).length : Int)]).length = ln + 1 := by rw [List.length_append, hvl]; rfl
          have HLN := Lib.hid hln2
          clear hln2 ho9 hg9 hw9 hoV hoE hbV HV' HAP
          generalize (vs ++ [((collSys.it (zeros m) i).length : Int)]) = vs2 at *
          have hoV := hoV2
          have hoE := hoE2
          have hbV := hbV2
          clear hoV2 hoE2 hbV2
          obtain ⟨ln2, hq⟩ : ∃ q, q = ln + 1 := ⟨_, rfl⟩
          rw [← hq] at hoE HLN ⊢
          clear hq
          exact bodyPost_ret (v := .tuple #[.slice none 0 0, .int .i64 5]) (by simp [results, Try.results48, go_sem]) rfl (i2_nil HF.out (yb.trans (hbV.mono yb.size)))
        have hd2 : (((N : Int) - (i : Int)) == 0) = false := by simp; omega
        go_wp2_with (first
          | (go_at_call 97; refine (l03Over_any _ _ _ (collSys.it (zeros m) i) _ _ hoV.rd (by omega)).mono ?_; rw [HZA.out, HZ.out]; rintro e w' ⟨rfl, rfl⟩)
          | (at_builtin; refine wpList_append_Own rfl (.tmp 28) (.tmp 31) rfl elI (lo := Wb.heap.size) rfl (hoE.alloc _) rfl (Rd.new1 _ _ _) (by simp [Value.oneCell']) (by omega) (by simp only [maxLen]; omega) (by have := hbV.size; simp; omega) ?_; intro E2 ce2 V ho9 hg9 hw9))
        have hbV2 : Below Wb.heap.size Wb V := Own.below_of (hoE.alloc _) (hbV.alloc hbV.size _) hg9 (by have := hbV.size; simp; omega)
        have hoV2 := (hoV.alloc (.cells #[.int .i64 ((collSys.it (zeros m) i).length : Int)] 2)).grown hg9 (fun g hgE hD => HAP.out g hD hgE)
        have hoE2 : Own V Wb.heap.size 2 1 E2 (ln + 1) ce2 (ints (vs ++ [((collSys.it (zeros m) i).length : Int)])) := by rw [← ints_append]; exact ho9
        have HV := Lib.hid (HV'.out.trans (by rw [hzl.out]))
        have hln2 : (vs ++ [((collSys.it (zeros m) i).length : Int)]).length = ln + 1 := by rw [List.length_append, hvl]; rfl
        have HLN := Lib.hid hln2
        clear hln2 ho9 hg9 hw9 hoV hoE hbV HV' HAP
        generalize (vs ++ [((collSys.it (zeros m) i).length : Int)]) = vs2 at *
        have hoV := hoV2
        have hoE := hoE2
        have hbV := hbV2
        clear hoV2 hoE2 hbV2
        obtain ⟨ln2, hq⟩ : ∃ q, q = ln + 1 := ⟨_, rfl⟩
        rw [← hq] at hoE HLN ⊢
        clear hq
        have hstep := l09Step_g (C := D) (r := cd) (xs := collSys.it (zeros m) i) (tb.below hbV) ((hSb.below hbV).sii) hoV.rd (by rw [HN.out]; exact HCODE.out) (hs := []) HH.out
        rw [HN.out] at hstep
        have HSTEP : Hid (Calls Try.prog 72 #[.pointer (some ⟨w2.heap.size, 0, none⟩), .slice D (collSys.it (zeros m) i).length cd] V (SpecStep V (collSys.next (collSys.it (zeros m) i)) (collSys.room (collSys.it (zeros m) i)))) := Lib.hid hstep
        clear hstep
        refine HSTEP.out.mono ?_
        rintro e W3 ⟨A4, c4, rfl, ho4, hb4⟩
        have hoE3 := hoE.below hb4
        have hb6 : Below Wb.heap.size Wb W3 := hbV.trans (hb4.mono hbV.size)
        cases hr : collSys.room (collSys.it (zeros m) i) with
        | true =>
          have HR := Lib.hid hr
          clear hr
          go_wp2_with fail
          go_roundw
          case rel => exact ⟨i + 1, A4, c4, E2, ln2, ce2, vs2, by go_num, rfl, rfl, by omega, HAL.out.step HH.out HR.out, ho4.mono hbV.size, hoE3, HV, Lib.hid (fun b h1 h2 => by have h3 := ho4.blk_ge b h1; have h4 := hoE.blk_lt b h2; omega), hb6⟩
          case measure => simp [intOf]; omega
        | false =>
          have HF := Lib.hid (HFF.out i ⟨hlt, HAL.out, HH.out, hr⟩)
          clear hr
          go_wp2_with fail
          exact bodyPost_ret (v := .tuple #[.slice none 0 0, .int .i64 5]) (by simp [results, Try.results48, go_sem]) rfl (i2_nil HF.out (yb.trans (hb6.mono yb.size)))
end Go.Proofs.Ytldgfgjaabphnaa
