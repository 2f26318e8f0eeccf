/-
  Contract of the reference's UsedRules.
-/
import Derived.Test.YtbedghebckflmaaUsedP
import Derived.Test.YtbedghebckflmaaNewI
import Derived.Test.YtbedghebckflmaaRunT
import Derived.Test.YtbedghebckflmaaNodeS
namespace Go.Proofs.Ytbedghebckflmaa
open Go.RowKit

/-- A configuration's box, and a store into another block. -/
theorem ConfC.far_set {w : World} {lo f g i : Nat} {c : Conf} {t : TypeId} {cur : Array Value} (h : ConfC w lo f c) (hb : Blk w g t cur) (h1 : t ≠ 38) (h2 : t ≠ 2) (u : Value) : ConfC (w.setCell ⟨g, i, none⟩ u) lo f c := by
  obtain ⟨L, a, R, d, h3, h4, h5, h6⟩ := h
  have hne : f ≠ g := by
    intro e
    subst e
    unfold Blk at h3 hb
    rw [h3] at hb
    simp at hb
    exact h1 hb.2.symm
  exact ⟨L, a, R, d, h3.far (p := ⟨g, i, none⟩) hne u, h4.far (p := ⟨g, i, none⟩) (by
    intro e
    rcases h4.2 with ⟨rfl, _⟩ | ⟨b', off, cur', rfl, _, hg, _⟩
    · simp [blk] at e
    · simp [blk] at e; subst e; unfold Blk at hb; rw [hg] at hb; simp at hb; exact h2 hb.2.symm) u, h5.far (p := ⟨g, i, none⟩) (by
    intro e
    rcases h5.2 with ⟨rfl, _⟩ | ⟨b', off, cur', rfl, _, hg, _⟩
    · simp [blk] at e
    · simp [blk] at e; subst e; unfold Blk at hb; rw [hg] at hb; simp at hb; exact h2 hb.2.symm) u, h6⟩

theorem Blk.ne {w : World} {g g' : Nat} {t t' : TypeId} {c c' : Array Value} (h : Blk w g t c) (h' : Blk w g' t' c') (hne : t ≠ t') : g ≠ g' := by
  intro e
  subst e
  unfold Blk at h h'
  rw [h] at h'
  simp at h'
  exact hne h'.2
theorem Blk.aptb {w : World} {g : Nat} {t e : TypeId} {cur : Array Value} {lo n c s : Nat} {A : Option Addr} {cs : List Value} (h : Blk w g t cur) (h' : Own w lo e s A n c cs) (hne : t ≠ e) : blk A ≠ some g := by
  intro hb
  rcases h'.2 with ⟨rfl, _⟩ | ⟨b, off, cur2, rfl, _, hg, _⟩
  · simp [blk] at hb
  · simp [blk] at hb; subst hb
    exact Blk.ne h (show Blk w _ e cur2 from hg) hne rfl
theorem Own.grownb {w w2 : World} {lo lo' n n' c c' s s' : Nat} {e e' : TypeId} {A A' : Option Addr} {cs cs' : List Value} (h : Own w lo' e' s' A' n' c' cs') (h0 : Own w lo e s A n c cs) (hg : w.grownBy w2 (blk A)) (hne : e' ≠ e) : Own w2 lo' e' s' A' n' c' cs' :=
  h.grown hg (fun g hg' hb => Own.blk_ne h0 h (fun he => hne he.symm) g hg' hb)

set_option maxRecDepth 100000 in
set_option maxHeartbeats 8000000 in
theorem usedRulesS_any (sy st : Int) (A : Option Addr) (n k : Nat) (rs : List R3) (q : Int) (B : Option Addr) (m c : Nat) (xs : List Int) (C : Option Addr) (l d : Nat) (ys : List Int) (b : Int) (w : World) (hr : S3 w A n rs) (hx : SI w B m xs) (hy : SI w C l ys) (hn : n ≤ 1048576) (hm : m ≤ 1048576) (hl : l ≤ 1048576) :
    Calls Try.prog 28 #[.agg #[.int .i64 sy, .int .i64 st, .slice A n k], .agg #[.int .i64 q, .slice B m c, .slice C l d], .int .i64 b] w (NewI2 w (usedRulesF sy st rs q xs ys b)) := by
  obtain ⟨W, hW_⟩ : ∃ W, W = (w.alloc (.cells #[.int .i64 sy, .int .i64 st, .slice A n k] 30)).alloc (.cells #[.int .i64 q, .slice B m c, .slice C l d] 38) := ⟨_, rfl⟩
  have s_1 : (w.alloc (.cells #[.int .i64 sy, .int .i64 st, .slice A n k] 30)).heap.size = w.heap.size + 1 := by simp
  have b0 : Blk W w.heap.size 30 #[.int .i64 sy, .int .i64 st, .slice A n k] := by rw [hW_]; exact (Blk.new w _ _).alloc _
  have b1 : Blk W (w.heap.size + 1) 38 #[.int .i64 q, .slice B m c, .slice C l d] := by rw [hW_, ← s_1]; exact Blk.new _ _ _
  have y0 : Below w.heap.size w W := by rw [hW_]; exact ((Below.refl _ _).alloc (Nat.le_refl _) _).alloc (by simp) _
  have HW := Lib.hid hW_
  clear hW_ s_1
  have hM := b0.machAt
  have hC := b1.confAt
  go_enter Try.func28, Try.ntmps28
  go_wp2_with fail
  rw [← HW.out]
  refine (l05Is_any _ _ _ _ _ _ rs _ hM (hr.below y0) hn).mono ?_
  rintro e w2 ⟨rfl, z2⟩
  have y2 : Below w.heap.size w w2 := y0.trans (z2.mono y0.size)
  have hM2 := hM.below z2
  have hC2 := hC.below z2
  cases a0 : machB sy st rs
  · have HF := Lib.hid (usedRulesF_bad (q := q) (xs := xs) (ys := ys) (b := b) (by unfold validConfB; rw [a0]; rfl))
    clear a0
    go_wp2_with fail
    exact bodyPost_ret (v := .tuple #[.slice none 0 0, .int .i64 1]) (by simp [results, Try.results28, go_sem]) rfl (i2_nil HF.out y2)
  obtain ⟨k1, k2, k3, k4, _, _⟩ := machB_parts a0
  have A0 := Lib.hid a0
  clear a0
  go_wp2_with fail
  refine (l05Good_any _ _ _ _ _ _ _ _ _ _ _ xs _ _ _ ys _ hM2 hC2 (hx.below y2) (hy.below y2) hm hl k1 k2 k3 k4).mono ?_
  rintro e w3' ⟨rfl, nq, rfl⟩
  have y3 : Below w.heap.size w (w2.drewN nq) := below_drewN y2 nq
  have hM3 := hM2.drewN nq
  have hC3 := hC2.drewN nq
  have b03 := (b0.below' z2).drewN nq
  generalize w2.drewN nq = w3 at *
  cases a1 : confB sy st q xs ys
  · have HF := Lib.hid (usedRulesF_bad (rs := rs) (b := b) (by unfold validConfB; rw [A0.out, a1]; rfl))
    clear a1
    go_wp2_with fail
    exact bodyPost_ret (v := .tuple #[.slice none 0 0, .int .i64 1]) (by simp [results, Try.results28, go_sem]) rfl (i2_nil HF.out y3)
  have hgc : goodC sy st rs ⟨q, xs, ys⟩ := by show validConfB _ _ _ _ _ _ = true; unfold validConfB; rw [A0.out, a1]; rfl
  have A1 : Hid (validConfB sy st rs q xs ys = true) := Lib.hid hgc
  clear a1
  cases a2 : inB b 1 20000
  · have HF := Lib.hid (usedRulesF_range A1.out a2)
    have A2 := Lib.hid a2
    clear a2
    go_wp2_with (go_at_call 68; refine (l05Budget_is A2.out _).mono ?_; rintro e w' ⟨rfl, rfl⟩)
    exact bodyPost_ret (v := .tuple #[.slice none 0 0, .int .i64 2]) (by simp [results, Try.results28, go_sem]) rfl (i2_nil HF.out y3)
  have hb := (inB_iff _ _ _).1 a2
  obtain ⟨N, rfl⟩ : ∃ N : Nat, b = (N : Int) := ⟨b.toNat, by omega⟩
  have A2 := Lib.hid a2
  clear a2
  have HG := Lib.hid hgc
  obtain ⟨cf, hcf⟩ : ∃ cf : Conf, cf = ⟨q, xs, ys⟩ := ⟨_, rfl⟩
  have HFE : Hid (∀ i, Ended sy rs cf N i → usedRulesF sy st rs q xs ys (N : Int) = (trueF (usedL sy rs cf n i), 0)) := Lib.hid (fun i hi => by rw [hcf] at hi ⊢; rw [usedRulesF_ended A1.out A2.out hi, hr.len])
  have HFF : Hid (∀ i, Full sy rs cf N i → usedRulesF sy st rs q xs ys (N : Int) = ([], 5)) := Lib.hid (fun i hi => by rw [hcf] at hi; exact usedRulesF_full A1.out A2.out hi)
  have HGC : Hid (goodC sy st rs cf) := Lib.hid (by rw [hcf]; exact hgc)
  have HCF := Lib.hid hcf
  clear hgc hcf
  obtain ⟨m0, m1, m2⟩ := id hM3
  go_wp2_with (first | (go_at_call 68; refine (l05Budget_is A2.out _).mono ?_; rintro e w' ⟨rfl, rfl⟩) | (at_make; refine wpList_make_Own rfl (.tmp 26) (.tmp 26) rfl elBool (n := n) (lo := w.heap.size) rfl rfl (by omega) (by simp only [maxLen]; omega) (by have := y3.size; omega) ?_; intro w4 ho4 z4 s4))
  rw [made_bools] at ho4
  have S4 := Lib.hid s4
  clear s4
  have y4 := y3.trans (z4.mono y3.size)
  have hM4 := hM3.below z4
  have hC4 := hC3.below z4
  clear m0 m1 m2
  go_wp2_with fail
  refine (l05OwnConfig_any _ _ _ _ _ xs _ _ _ ys _ hC4 (hx.below y4) (hy.below y4) hm hl).mono ?_
  rintro e W5 ⟨L5, a5, R5, d5, rfl, o5, o5', hap5, z5⟩
  have HAP5 := Lib.hid hap5
  clear hap5
  have y5 := y4.trans (z5.mono y4.size)
  obtain ⟨W6, hW_⟩ : ∃ W, W = W5.alloc (.cells #[.int .i64 q, .slice L5 xs.length a5, .slice R5 ys.length d5] 38) := ⟨_, rfl⟩
  have b6 : Blk W6 W5.heap.size 38 #[.int .i64 q, .slice L5 xs.length a5, .slice R5 ys.length d5] := by rw [hW_]; exact Blk.new W5 _ _
  have z6 : Below W5.heap.size W5 W6 := by rw [hW_]; exact (Below.refl _ _).alloc (Nat.le_refl _) _
  have HW6 := Lib.hid hW_
  clear hW_
  have y6 := y5.trans (z6.mono y5.size)
  have hC6 : ConfC W6 w.heap.size W5.heap.size cf := by rw [HCF.out]; exact ⟨L5, a5, R5, d5, b6, (o5.below z6).mono y4.size, (o5'.below z6).mono y4.size, HAP5.out⟩
  have ho6 := (ho4.below z5).below z6
  have hM6 := ((b03.below' z4).below' z5).below' z6
  go_wp2_with fail
  rw [← HW6.out]
  clear HW6 b6 o5 o5' HAP5
  obtain ⟨f, hf⟩ : ∃ f, f = W5.heap.size := ⟨_, rfl⟩
  have hf1 : w.heap.size ≤ f := by have := y5.size; omega
  rw [← hf] at hC6
  rw [← hf]
  clear hf
  have hO0 : Own W6 w.heap.size 4 1 (some ⟨w3.heap.size, 0, none⟩) n n (bools (usedL sy rs cf n 0)) := ho6
  go_loopw [10] (fun s wr => ∃ i : Nat, s = .int .i64 (i : Int) ∧ i ≤ N ∧ Alive sy rs cf i ∧ ConfC wr w.heap.size f (itC sy rs cf i) ∧ Own wr w.heap.size 4 1 (some ⟨w3.heap.size, 0, none⟩) n n (bools (usedL sy rs cf n i)) ∧ Blk wr w.heap.size 30 #[.int .i64 sy, .int .i64 st, .slice A n k] ∧ Below w.heap.size w wr) (fun s _ => N - (intOf s).toNat)
  case atStart => exact ⟨0, rfl, Nat.zero_le _, Alive.zero _ _ _, hC6, hO0, hM6, y6⟩
  case round =>
    obtain ⟨i, rfl, hi, hal, hCr, hO, hMr, hY⟩ := hrel
    have HGOOD := Lib.hid (hal.good HGC.out)
    have HAL := Lib.hid hal
    clear hal hC6 hO0 hM6 y6 y5 ho6 ho4 hM4 hC4 hM3 hC3 hM hC hM2 hC2 y0 y2 b0 b1 b03
    have hMm := hMr.machAt
    have hhalt := l05Halts_c hMm (hr.below hY) hCr HGOOD.out hn
    have HHALT := Lib.hid hhalt
    clear hhalt
    cases hgo : (decide (i < N) && !haltC sy rs (itC sy rs cf i)) with
    | true =>
      simp only [Bool.and_eq_true, decide_eq_true_eq, Bool.not_eq_true'] at hgo
      obtain ⟨hlt, hh⟩ := hgo
      have HH := Lib.hid hh
      rw [hh] at HHALT
      clear hh
      go_wp2_with fail
      refine HHALT.out.mono ?_
      rintro e W7 ⟨rfl, z7⟩
      have hC7 := hCr.below z7
      have hO7 := hO.below z7
      have hM7 := hMr.below' z7
      have hY7 := hY.trans (z7.mono hY.size)
      obtain ⟨hidx, hat⟩ := idxC_lt HGOOD.out
      have hatc := l05At_c hM7.machAt hC7 HGOOD.out
      rw [hat] at hatc
      have HATC := Lib.hid hatc
      have hidn : idxC sy (itC sy rs cf i) < n := by rw [hr.len] at hidx; exact hidx
      have HUS : Hid (usedL sy rs cf n (i + 1) = (usedL sy rs cf n i).set (idxC sy (itC sy rs cf i)) true) := Lib.hid rfl
      clear hat hatc hidx HHALT
      generalize hix : idxC sy (itC sy rs cf i) = ix at *
      clear hix
      go_wp2_with fail
      refine HATC.out.mono ?_
      rintro e w' ⟨rfl, nq, rfl⟩
      have hC8 := hC7.drewN nq
      have hO8 := hO7.drewN nq
      have hM8 := hM7.drewN nq
      have hY8 := below_drewN hY7 nq
      generalize W7.drewN nq = W8 at *
      have hlu : ix < (bools (usedL sy rs cf n i)).length := by rw [length_bools, usedL_len]; exact hidn
      obtain ⟨b', off', hab, hlo8, hb8, hcc, hff⟩ := hO8.at_ hlu
      simp only [Option.some.injEq, Addr.mk.injEq, and_true] at hab
      obtain ⟨rfl, rfl⟩ := hab
      have hO9 := hO8.set_ hlu (.bool true)
      rw [bools_set, ← HUS.out] at hO9
      simp only [Nat.zero_add] at hcc hff hO9
      have i1 : (0 : Int) ≤ (ix : Int) := by omega
      have i2 : (ix : Int) < (n : Int) := by omega
      obtain ⟨ucur, hub⟩ : ∃ cur, Blk W8 w3.heap.size 4 cur := by
        rcases hO8.2 with ⟨h, _⟩ | ⟨b2, o2, cur, h, _, hg, _⟩
        · cases h
        · simp only [Option.some.injEq, Addr.mk.injEq, and_true] at h
          obtain ⟨rfl, rfl⟩ := h
          exact ⟨cur, hg⟩
      have hC9 := hC8.far_set hub (by decide) (by decide) (.bool true) (i := ix)
      have hM9 := hM8.far (p := ⟨w3.heap.size, ix, none⟩) (hM8.ne hub (by decide)) (.bool true)
      have hY9 : Below w.heap.size w (W8.setCell ⟨w3.heap.size, ix, none⟩ (.bool true)) := hY8.setCell (p := ⟨w3.heap.size, ix, none⟩) hlo8 _
      go_upto_region 11 with fail
      generalize W8.setCell ⟨w3.heap.size, ix, none⟩ (.bool true) = W9 at *
      clear hcc hff hub hlu hO8 hM8 hC8 hY8 hO7 hM7 hC7 hY7
      have hstep := l05Step_c hM9.machAt (hr.below hY9) hC9 HGOOD.out hn
      have HSTEP := Lib.hid hstep
      clear hstep
      go_wp2_with fail
      refine HSTEP.out.mono ?_
      rintro e W10 ⟨L10, a10, R10, d10, rfl, ol10, or10, hap10, z10⟩
      have HAP10 := Lib.hid hap10
      clear hap10 HSTEP
      have hY10 := hY9.trans (z10.mono hY9.size)
      obtain ⟨W11, hW_⟩ : ∃ W, W = W10.alloc (.cells #[.int .i64 (nextC sy rs (itC sy rs cf i)).q, .slice L10 (nextC sy rs (itC sy rs cf i)).xs.length a10, .slice R10 (nextC sy rs (itC sy rs cf i)).ys.length d10] 38) := ⟨_, rfl⟩
      have b11 : Blk W11 W10.heap.size 38 #[.int .i64 (nextC sy rs (itC sy rs cf i)).q, .slice L10 (nextC sy rs (itC sy rs cf i)).xs.length a10, .slice R10 (nextC sy rs (itC sy rs cf i)).ys.length d10] := by rw [hW_]; exact Blk.new W10 _ _
      have z11 : Below W10.heap.size W10 W11 := by rw [hW_]; exact (Below.refl _ _).alloc (Nat.le_refl _) _
      have HW11 := Lib.hid hW_
      clear hW_
      have hY11 := hY10.trans (z11.mono hY10.size)
      have hO11 := (hO9.below z10).below z11
      have hM11 := (hM9.below' z10).below' z11
      have hC11 := (hC9.below z10).below z11
      obtain ⟨L5', a5', R5', d5', bc11, _, _, _⟩ := hC11
      have hfW : f < W10.heap.size := by obtain ⟨_, _, _, _, b4, _⟩ := hC9.below z10; exact b4.lt
      go_upto_region 12 with fail
      rw [← HW11.out]
      clear HW11
      cases hro : roomC (nextC sy rs (itC sy rs cf i)) with
      | true =>
        have HRO := Lib.hid hro
        clear hro
        have c0 : W11.cell? ⟨W10.heap.size, 0, none⟩ = some (.int .i64 (nextC sy rs (itC sy rs cf i)).q) := b11.cell 0
        have c1 : W11.cell? ⟨W10.heap.size, 1, none⟩ = some (.slice L10 (nextC sy rs (itC sy rs cf i)).xs.length a10) := b11.cell 1
        have c2 : W11.cell? ⟨W10.heap.size, 2, none⟩ = some (.slice R10 (nextC sy rs (itC sy rs cf i)).ys.length d10) := b11.cell 2
        have u0 : W11.cell? ⟨f, 0, none⟩ = some (.int .i64 (itC sy rs cf i).q) := bc11.cell 0
        have u1 : W11.cell? ⟨f, 1, none⟩ = some (.slice L5' (itC sy rs cf i).xs.length a5') := bc11.cell 1
        have u2 : W11.cell? ⟨f, 2, none⟩ = some (.slice R5' (itC sy rs cf i).ys.length d5') := bc11.cell 2
        have f0 := bc11.frozen 0
        have f1 := bc11.frozen 1
        have f2 := bc11.frozen 2
        have hC12 := ConfC.set3 (c := nextC sy rs (itC sy rs cf i)) rfl bc11 ((ol10.below z11).mono hY9.size) ((or10.below z11).mono hY9.size) HAP10.out
        have hY12 := conf_below hY11 hf1 (.int .i64 (nextC sy rs (itC sy rs cf i)).q) (.slice L10 (nextC sy rs (itC sy rs cf i)).xs.length a10) (.slice R10 (nextC sy rs (itC sy rs cf i)).ys.length d10)
        have hO12 := ((hO11.far (p := ⟨f, 0, none⟩) (bc11.aptb hO11 (by decide)) (.int .i64 (nextC sy rs (itC sy rs cf i)).q)).far (p := ⟨f, 1, none⟩) (bc11.aptb hO11 (by decide)) (.slice L10 (nextC sy rs (itC sy rs cf i)).xs.length a10)).far (p := ⟨f, 2, none⟩) (bc11.aptb hO11 (by decide)) (.slice R10 (nextC sy rs (itC sy rs cf i)).ys.length d10)
        have hfn : w.heap.size ≠ f := hM11.ne bc11 (by decide)
        have hM12 := ((hM11.far (p := ⟨f, 0, none⟩) hfn (.int .i64 (nextC sy rs (itC sy rs cf i)).q)).far (p := ⟨f, 1, none⟩) hfn (.slice L10 (nextC sy rs (itC sy rs cf i)).xs.length a10)).far (p := ⟨f, 2, none⟩) hfn (.slice R10 (nextC sy rs (itC sy rs cf i)).ys.length d10)
        go_wp2_with fail
        go_roundw
        case rel => exact ⟨i + 1, by go_num, by omega, HAL.out.next HH.out HRO.out, hC12, hO12, hM12, hY12⟩
        case measure => simp [intOf]; omega
      | false =>
        have HF := Lib.hid (HFF.out i ⟨hlt, HAL.out, HH.out, hro⟩)
        clear hro
        go_wp2_with fail
        exact bodyPost_ret (v := .tuple #[.slice none 0 0, .int .i64 5]) (by simp [results, Try.results28, go_sem]) rfl (i2_nil HF.out hY11)
    | false =>
      have hE : Ended sy rs cf N i := by
        simp only [Bool.and_eq_false_iff, decide_eq_false_iff_not, Bool.not_eq_false'] at hgo
        rcases hgo with h | h
        · exact ⟨hi, HAL.out, .inl (by omega)⟩
        · exact ⟨hi, HAL.out, .inr h⟩
      have HF := Lib.hid (HFE.out i hE)
      have HHT : Hid (i < N → haltC sy rs (itC sy rs cf i) = true) := Lib.hid (fun h => by
        rcases hE.2.2 with h1 | h1
        · omega
        · exact h1)
      clear hgo hE
      have hul : (usedL sy rs cf n i).length = n := usedL_len _ _ _ _ _
      by_cases hlt : i < N
      · rw [HHT.out hlt] at HHALT
        go_wp2_with fail
        refine HHALT.out.mono ?_
        rintro e W7 ⟨rfl, z7⟩
        have hOx := hO.below z7
        have hYx := hY.trans (z7.mono hY.size)
        generalize W7 = Wx at *
        generalize usedL sy rs cf n i = bs at *
        have HBL := Lib.hid hul
        clear hul
        obtain ⟨W8, hW_⟩ : ∃ W, W = Wx.alloc (.cells #[] 2) := ⟨_, rfl⟩
        have b8 : Blk W8 Wx.heap.size 2 #[] := by rw [hW_]; exact Blk.new Wx _ _
        have z8 : Below Wx.heap.size Wx W8 := by rw [hW_]; exact (Below.refl _ _).alloc (Nat.le_refl _) _
        have HW8 := Lib.hid hW_
        clear hW_
        have y8 := hYx.trans (z8.mono hYx.size)
        have hb8 := hOx.below z8
        go_wp2_with fail
        rw [← HW8.out]
        clear HW8
        have ho0 : Own W8 w.heap.size 2 1 (some ⟨Wx.heap.size, 0, none⟩) (trueTo bs 0).length 0 (ints (trueTo bs 0)) := i2_lit0 b8 hYx.size
        go_loopw [13, 14] (fun v j wr => ∃ (j' : Nat) (D : Option Addr) (cd : Nat), j' ≤ n ∧ j = .int .i64 (j' : Int) ∧ v = .slice D (trueTo bs j').length cd ∧ Own wr w.heap.size 2 1 D (trueTo bs j').length cd (ints (trueTo bs j')) ∧ Own wr w.heap.size 4 1 (some ⟨w3.heap.size, 0, none⟩) n n (bools bs) ∧ Below w.heap.size w wr) (fun _ j _ => n - (intOf j).toNat)
        case atStart => exact ⟨0, _, 0, Nat.zero_le _, rfl, by simp [trueTo], ho0, hb8, y8⟩
        case round =>
          obtain ⟨j, D, cd, hj, rfl, rfl, ho, hsb, hz⟩ := hrel
          clear ho0 y8 z8 b8
          have hfl := trueTo_len bs j
          by_cases hlt : j < n
          · obtain ⟨x, bb, off, HT, hab, hbl, e0⟩ := SB.pick (bs := bs) hsb.rd hlt
            simp only [Option.some.injEq, Addr.mk.injEq, and_true] at hab
            obtain ⟨rfl, rfl⟩ := hab
            simp only [Nat.zero_add] at e0
            cases x with
            | true =>
              have HNX := Lib.hid (trueTo_yes HT.out)
              go_wp2_with (at_builtin; refine wpList_append_Own rfl (.tmp 59) (.tmp 61) rfl elI (lo := w.heap.size) rfl (ho.alloc _) rfl (Rd.new1 _ _ _) (by simp [Value.oneCell']) (by omega) (by simp only [maxLen]; omega) (by have := hz.size; simp; omega) ?_; intro A9 c9 w9 ho9 hg9 hw9)
              have hz9 : Below w.heap.size w w9 := Own.below_of (ho.alloc _) (hz.alloc hz.size _) hg9 (by have := hz.size; simp; omega)
              have hsb9 := (hsb.alloc _).grownb (ho.alloc _) hg9 (by decide)
              rw [ints_snoc, ← HNX.out] at ho9
              have HLEN : Hid ((trueTo bs j).length + 1 = (trueTo bs (j + 1)).length) := Lib.hid (by rw [HNX.out]; simp)
              go_wp2_with fail
              go_roundw
              case rel => exact ⟨j + 1, A9, c9, by omega, by go_num, by rw [← HLEN.out], by rw [← HLEN.out]; exact ho9, hsb9, hz9⟩
              case measure => simp [intOf]; omega
            | false =>
              have HNX := Lib.hid (trueTo_no HT.out)
              go_wp2_with fail
              go_roundw
              case rel => exact ⟨j + 1, D, cd, by omega, by go_num, by rw [HNX.out], by rw [HNX.out]; exact ho, hsb, hz⟩
              case measure => simp [intOf]; omega
          · have HE2 : Hid (trueTo bs j = trueF bs) := Lib.hid (by unfold trueF; rw [HBL.out]; congr 1; omega)
            go_wp2_with fail
            exact bodyPost_ret (v := .tuple #[.slice D (trueTo bs j).length cd, .int .i64 0]) (by simp [results, Try.results28, go_sem]) rfl (i2_of HF.out (by rw [HE2.out]) (by rw [← HE2.out]; exact ho) hz)
      · have hOx := hO
        have hYx := hY
        generalize usedL sy rs cf n i = bs at *
        generalize wr = Wx at *
        have HBL := Lib.hid hul
        clear hul
        obtain ⟨W8, hW_⟩ : ∃ W, W = Wx.alloc (.cells #[] 2) := ⟨_, rfl⟩
        have b8 : Blk W8 Wx.heap.size 2 #[] := by rw [hW_]; exact Blk.new Wx _ _
        have z8 : Below Wx.heap.size Wx W8 := by rw [hW_]; exact (Below.refl _ _).alloc (Nat.le_refl _) _
        have HW8 := Lib.hid hW_
        clear hW_
        have y8 := hYx.trans (z8.mono hYx.size)
        have hb8 := hOx.below z8
        go_wp2_with fail
        rw [← HW8.out]
        clear HW8
        have ho0 : Own W8 w.heap.size 2 1 (some ⟨Wx.heap.size, 0, none⟩) (trueTo bs 0).length 0 (ints (trueTo bs 0)) := i2_lit0 b8 hYx.size
        go_loopw [13, 14] (fun v j wr => ∃ (j' : Nat) (D : Option Addr) (cd : Nat), j' ≤ n ∧ j = .int .i64 (j' : Int) ∧ v = .slice D (trueTo bs j').length cd ∧ Own wr w.heap.size 2 1 D (trueTo bs j').length cd (ints (trueTo bs j')) ∧ Own wr w.heap.size 4 1 (some ⟨w3.heap.size, 0, none⟩) n n (bools bs) ∧ Below w.heap.size w wr) (fun _ j _ => n - (intOf j).toNat)
        case atStart => exact ⟨0, _, 0, Nat.zero_le _, rfl, by simp [trueTo], ho0, hb8, y8⟩
        case round =>
          obtain ⟨j, D, cd, hj, rfl, rfl, ho, hsb, hz⟩ := hrel
          clear ho0 y8 z8 b8
          have hfl := trueTo_len bs j
          by_cases hlt : j < n
          · obtain ⟨x, bb, off, HT, hab, hbl, e0⟩ := SB.pick (bs := bs) hsb.rd hlt
            simp only [Option.some.injEq, Addr.mk.injEq, and_true] at hab
            obtain ⟨rfl, rfl⟩ := hab
            simp only [Nat.zero_add] at e0
            cases x with
            | true =>
              have HNX := Lib.hid (trueTo_yes HT.out)
              go_wp2_with (at_builtin; refine wpList_append_Own rfl (.tmp 59) (.tmp 61) rfl elI (lo := w.heap.size) rfl (ho.alloc _) rfl (Rd.new1 _ _ _) (by simp [Value.oneCell']) (by omega) (by simp only [maxLen]; omega) (by have := hz.size; simp; omega) ?_; intro A9 c9 w9 ho9 hg9 hw9)
              have hz9 : Below w.heap.size w w9 := Own.below_of (ho.alloc _) (hz.alloc hz.size _) hg9 (by have := hz.size; simp; omega)
              have hsb9 := (hsb.alloc _).grownb (ho.alloc _) hg9 (by decide)
              rw [ints_snoc, ← HNX.out] at ho9
              have HLEN : Hid ((trueTo bs j).length + 1 = (trueTo bs (j + 1)).length) := Lib.hid (by rw [HNX.out]; simp)
              go_wp2_with fail
              go_roundw
              case rel => exact ⟨j + 1, A9, c9, by omega, by go_num, by rw [← HLEN.out], by rw [← HLEN.out]; exact ho9, hsb9, hz9⟩
              case measure => simp [intOf]; omega
            | false =>
              have HNX := Lib.hid (trueTo_no HT.out)
              go_wp2_with fail
              go_roundw
              case rel => exact ⟨j + 1, D, cd, by omega, by go_num, by rw [HNX.out], by rw [HNX.out]; exact ho, hsb, hz⟩
              case measure => simp [intOf]; omega
          · have HE2 : Hid (trueTo bs j = trueF bs) := Lib.hid (by unfold trueF; rw [HBL.out]; congr 1; omega)
            go_wp2_with fail
            exact bodyPost_ret (v := .tuple #[.slice D (trueTo bs j).length cd, .int .i64 0]) (by simp [results, Try.results28, go_sem]) rfl (i2_of HF.out (by rw [HE2.out]) (by rw [← HE2.out]; exact ho) hz)
end Go.Proofs.Ytbedghebckflmaa
