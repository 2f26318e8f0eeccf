/-
  The reference's predecessor of a partial configuration by a rule (l26Before).
-/
import Derived.Test.YtokglpdlhacnaaaDoorPbBackAll1
import Derived.Test.YtokglpdlhacnaaaDoorPbBackAll2
import Derived.Test.YtokglpdlhacnaaaDoorPbBackAll5
import Derived.Test.YtokglpdlhacnaaaDoorPbBackAll6
import Derived.Lib.QuietBelow
namespace Go.Proofs.YtokglpdlhacnaaaDoor
open Go.RowKit

/-- A partial configuration's cells, somewhere. -/
def PartAt (w : World) (b o : Nat) (q p : Int) (A : Option Addr) (n c : Nat) : Prop :=
  w.cell? ⟨b, o, none⟩ = some (.int .i64 q) ∧ w.cell? ⟨b, o + 1, none⟩ = some (.int .i64 p) ∧ w.cell? ⟨b, o + 2, none⟩ = some (.slice A n c)
theorem PartAt.lt {w : World} {b o : Nat} {q p : Int} {A : Option Addr} {n c : Nat} (h : PartAt w b o q p A n c) : b < w.heap.size := World.block_lt_of_cell? w _ h.1
theorem PartAt.below {w w' : World} {b o : Nat} {q p : Int} {A : Option Addr} {n c : Nat} (h : PartAt w b o q p A n c) (hb : Below w.heap.size w w') : PartAt w' b o q p A n c :=
  ⟨(hb.cell (p := ⟨b, o, none⟩) h.lt).trans h.1, (hb.cell (p := ⟨b, o + 1, none⟩) h.lt).trans h.2.1, (hb.cell (p := ⟨b, o + 2, none⟩) h.lt).trans h.2.2⟩
set_option maxRecDepth 100000 in
set_option maxHeartbeats 8000000 in
theorem l26Before_any (g : Nat) (sy st : Int) (B : Option Addr) (m k : Nat) (rs : List R3) (b o : Nat) (q at_ : Int) (A : Option Addr) (n c : Nat) (xs : List Int) (i : Nat) (w : World) (hM : MachAt w g sy st B m k) (hr : S3 w B m rs) (hP : PartAt w b o q at_ A n c) (hx : SI w A n xs) (hm : machB sy st rs = true) (hok : PaOk sy st ⟨q, at_, xs⟩) (hn : n ≤ 1000) (hi : i < m) :
    Calls Tryd.prog 124 #[.pointer (some ⟨g, 0, none⟩), .pointer (some ⟨b, o, none⟩), .int .i64 (i : Int)] w (PredPost w (predK sy rs ⟨q, at_, xs⟩ i)) := by
  have HL := Lib.hid hx.len
  have HRL := Lib.hid hr.len
  have HM := Lib.hid hm
  have hml := (machB_parts hm)
  obtain ⟨p1, p2, p3, p4, _, _⟩ := hml
  obtain ⟨r, rb, ro, hrj, hrm, rfl, hrbl, r0, r1, r2⟩ := hr.pick hi
  have hmv := rule_move HM.out hrm
  have a0 : 0 ≤ at_ := hok.a0
  have a1 : at_ < (n : Int) := by have := hok.a1; dsimp only at this; rw [HL.out] at this; exact this
  obtain ⟨ra, rd, rc⟩ := r
  dsimp only at r0 r1 r2 hmv
  obtain ⟨V, hW_⟩ : ∃ W_, W_ = w.alloc (.cells #[.int .i64 0, .int .i64 0, .slice none 0 0] 58) := ⟨_, rfl⟩
  have b0 : Blk V w.heap.size 58 #[.int .i64 0, .int .i64 0, .slice none 0 0] := by rw [hW_]; exact Blk.new w _ _
  have y0 : Below w.heap.size w V := by rw [hW_]; exact (Below.refl _ _).alloc (Nat.le_refl _) _
  have HV := Lib.hid hW_
  clear hW_
  obtain ⟨W1, hW_⟩ : ∃ W_, W_ = V.alloc (.cells #[.int .i64 ra, .int .i64 rd, .int .i64 rc] 136) := ⟨_, rfl⟩
  have b1 : Blk W1 V.heap.size 136 #[.int .i64 ra, .int .i64 rd, .int .i64 rc] := by rw [hW_]; exact Blk.new V _ _
  have z1 : Below V.heap.size V W1 := by rw [hW_]; exact (Below.refl _ _).alloc (Nat.le_refl _) _
  have HW1 := Lib.hid hW_
  clear hW_
  have hgw := hM.lt
  obtain ⟨m0, m1, m2⟩ := id hM
  have i0 : (0 : Int) ≤ (i : Int) := by omega
  have i1 : (i : Int) < (m : Int) := by omega
  go_enter Tryd.func124, Tryd.ntmps124
  go_upto_region 1 with fail
  rw [← HV.out]
  have M0 : MachAt V g sy st (some ⟨rb, ro, none⟩) m k := hM.below y0
  obtain ⟨v0, v1, v2⟩ := id M0
  have R0 := y0.cell (p := ⟨rb, ro + i * 3, none⟩) hrbl
  rw [r0] at R0
  have R1 := y0.cell (p := ⟨rb, ro + i * 3 + 1, none⟩) hrbl
  rw [r1] at R1
  have R2 := y0.cell (p := ⟨rb, ro + i * 3 + 2, none⟩) hrbl
  rw [r2] at R2
  clear m0 m1 m2 r0 r1 r2 
  go_upto_region 2 with fail
  rw [← HW1.out]
  have M1 := Lib.hid (M0.below z1)
  have P1 := Lib.hid ((hP.below y0).below z1)
  have X1 := Lib.hid ((hx.below y0).below z1)
  have Z1 := Lib.hid (y0.trans (z1.mono y0.size))
  have b01 := b0.below' z1
  have HWV : Hid (V.heap.size = w.heap.size + 1) := Lib.hid (by rw [HV.out]; simp)
  have HB0 := Lib.hid b01
  have HB1 := Lib.hid b1
  have HPK : Hid (predK sy rs ⟨q, at_, xs⟩ i = if isRuleB ⟨ra, rd, rc⟩ then predF ⟨q, at_, xs⟩ ((i : Int) / sy) ((i : Int) % sy) ⟨ra, rd, rc⟩ else none) := Lib.hid (by
    unfold predK; rw [List.getD_eq_getElem?_getD, hrj.out]; rfl)
  have e0 : W1.cell? ⟨V.heap.size, 0, none⟩ = some (.int .i64 ra) := b1.cell 0
  have e1 : W1.cell? ⟨V.heap.size, 1, none⟩ = some (.int .i64 rd) := b1.cell 1
  have e2 : W1.cell? ⟨V.heap.size, 2, none⟩ = some (.int .i64 rc) := b1.cell 2
  obtain ⟨t0, t1, t2⟩ := id P1.out
  obtain ⟨s0, s1, s2⟩ := id M1.out
  clear R0 R1 R2 v0 v1 v2 M0 hM hP hx y0 z1 HW1 HV b0 b01 b1 hr hrbl
  cases hR : isRuleB ⟨ra, rd, rc⟩ with
  | false =>
    have hz : ra = 0 ∧ rd = 0 ∧ rc = -1 := by
      unfold isRuleB at hR
      simpa using hR
    obtain ⟨rfl, rfl, rfl⟩ := hz
    have HNN : Hid (predK sy rs ⟨q, at_, xs⟩ i = none) := Lib.hid (by rw [HPK.out, hR]; rfl)
    have k0 := cell_regrown e0
    have k1 := cell_regrown e1
    have k2 := cell_regrown e2
    refine wp_region_quiet_below (by kernel_rfl) (by kernel_rfl) ?_
    repeat (go_big_quiet_step ((go_at_call 93; exact Calls.regrown_of (l05None_any _))))
    refine wpQuiet_nil ?_
    intro _ hw'
    obtain ⟨⟨dq, osq⟩, hw''⟩ := hw'
    subst hw''
    have z2 := below_regrown W1 dq osq
    clear k0 k1 k2
    generalize Go.Sort.grow (redrawn W1 dq) osq = W2 at *
    have HB02 := Lib.hid (HB0.out.below' z2)
    have HZ2 := Lib.hid (Z1.out.trans (z2.mono Z1.out.size))
    clear z2
    have f0 : W2.cell? ⟨w.heap.size, 0, none⟩ = some (.int .i64 0) := HB02.out.cell 0
    have f1 : W2.cell? ⟨w.heap.size, 1, none⟩ = some (.int .i64 0) := HB02.out.cell 1
    have f2 : W2.cell? ⟨w.heap.size, 2, none⟩ = some (.slice none 0 0) := HB02.out.cell 2
    have h0 := HB02.out.frozen 0
    have h1 := HB02.out.frozen 1
    have h2 := HB02.out.frozen 2
    go_wp2_with fail
    have d1 := part_set HB02.out (.int .i64 0) (.int .i64 0) (.slice none 0 0)
    exact bodyPost_ret (v := .tuple #[.agg #[.int .i64 0, .int .i64 0, .slice none 0 0], .bool false]) (by simp [results, Tryd.results124, go_sem, d1.cell 0, d1.cell 1, d1.cell 2]) rfl (pred_none HNN.out (part_below HZ2.out (Nat.le_refl _) _ _ _))
  | true =>
    have hd := hmv hR
    have d0 : (rd == 0) = false := by rw [beq_eq_false_iff_ne]; omega
    have HPF : Hid (predK sy rs ⟨q, at_, xs⟩ i = predF ⟨q, at_, xs⟩ ((i : Int) / sy) ((i : Int) % sy) ⟨ra, rd, rc⟩) := Lib.hid (by rw [HPK.out, hR]; rfl)
    have k0 := cell_regrown e0
    have k1 := cell_regrown e1
    have k2 := cell_regrown e2
    have l0 := cell_regrown t0
    clear hR hmv
    by_cases hq : rc = q
    rotate_left
    · have HF : Hid (predK sy rs ⟨q, at_, xs⟩ i = none) := Lib.hid (by rw [HPF.out]; unfold predF; rw [if_pos hq])
      have q0 : (rc != q) = true := by simpa using hq
      refine wp_region_quiet_below (by kernel_rfl) (by kernel_rfl) ?_
      repeat (go_big_quiet_step ((go_at_call 93; exact Calls.regrown_of (l05None_any _))))
      refine wpQuiet_nil ?_
      intro _ hw'
      obtain ⟨⟨dq, osq⟩, hw''⟩ := hw'
      subst hw''
      have z2 := below_regrown W1 dq osq
      clear k0 k1 k2 l0
      generalize Go.Sort.grow (redrawn W1 dq) osq = W2 at *
      have HB02 := Lib.hid (HB0.out.below' z2)
      have HZ2 := Lib.hid (Z1.out.trans (z2.mono Z1.out.size))
      clear z2
      have f0 : W2.cell? ⟨w.heap.size, 0, none⟩ = some (.int .i64 0) := HB02.out.cell 0
      have f1 : W2.cell? ⟨w.heap.size, 1, none⟩ = some (.int .i64 0) := HB02.out.cell 1
      have f2 : W2.cell? ⟨w.heap.size, 2, none⟩ = some (.slice none 0 0) := HB02.out.cell 2
      have h0 := HB02.out.frozen 0
      have h1 := HB02.out.frozen 1
      have h2 := HB02.out.frozen 2
      go_wp2_with fail
      have d1 := part_set HB02.out (.int .i64 0) (.int .i64 0) (.slice none 0 0)
      exact bodyPost_ret (v := .tuple #[.agg #[.int .i64 0, .int .i64 0, .slice none 0 0], .bool false]) (by simp [results, Tryd.results124, go_sem, d1.cell 0, d1.cell 1, d1.cell 2]) rfl (pred_none HF.out (part_below HZ2.out (Nat.le_refl _) _ _ _))
    subst hq
    refine wp_region_quiet_below (by kernel_rfl) (by kernel_rfl) ?_
    repeat (go_big_quiet_step ((go_at_call 93; exact Calls.regrown_of (l05None_any _))))
    refine wpQuiet_nil ?_
    intro _ hw'
    obtain ⟨⟨dq, osq⟩, hw''⟩ := hw'
    subst hw''
    have z2 := below_regrown W1 dq osq
    clear k0 k1 k2 l0
    generalize Go.Sort.grow (redrawn W1 dq) osq = W2 at *
    have HB02 := Lib.hid (HB0.out.below' z2)
    have HZ2 := Lib.hid (Z1.out.trans (z2.mono Z1.out.size))
    have HM2 := Lib.hid (M1.out.below z2)
    have HP2 := Lib.hid (P1.out.below z2)
    have HX2 := Lib.hid (X1.out.below z2)
    have HB12 := Lib.hid (HB1.out.below' z2)
    clear z2 e0 e1 e2 t0 t1 t2 s0 s1 s2
    obtain ⟨C, hC⟩ : ∃ C : Int, C = at_ - rd := ⟨_, rfl⟩
    have w1 : IntKind.i64.wrap (at_ - rd) = C := by rw [IntWalk.i64_in _ (by omega)]; omega
    have HC := Lib.hid hC
    have hC1 : -1 ≤ C ∧ C ≤ n := by omega
    obtain ⟨hC1a, hC1b⟩ := hC1
    obtain ⟨R, hR2⟩ : ∃ R : Int, R = (i : Int) % sy := ⟨_, rfl⟩
    obtain ⟨D, hD⟩ : ∃ D : Int, D = (i : Int) / sy := ⟨_, rfl⟩
    have m1 : (i : Int).tdiv sy = D := by rw [hD]; exact Int.tdiv_eq_ediv_of_nonneg (by omega)
    have m2 : (i : Int).tmod sy = R := by rw [hR2]; exact Int.tmod_eq_emod_of_nonneg (by omega)
    have hDb : 0 ≤ D ∧ D ≤ (i : Int) := by rw [hD]; exact ⟨Int.ediv_nonneg (by omega) (by omega), Int.ediv_le_self _ (by omega)⟩
    have hn0 : ¬ sy = 0 := by omega
    have hmi : (i : Int) ≤ 6000 := by have h5 : st * sy ≤ 1000 * 6 := Int.mul_le_mul p4 p2 (by omega) (by omega); have := (machB_parts HM.out).2.2.2.2.1; have := HRL.out; omega
    have m5 : IntKind.i64.wrap D = D := IntWalk.i64_in _ (by omega)
    have HRR := Lib.hid hR2
    have HDD := Lib.hid hD
    have HDB := Lib.hid hDb
    have M12 : Hid ((i : Int).tdiv sy = D ∧ (i : Int).tmod sy = R ∧ IntKind.i64.wrap D = D) := Lib.hid ⟨m1, m2, m5⟩
    clear hC hR2 hD hDb hmi m1 m2 m5 hd d0 a0 a1 i0 i1
    obtain ⟨t0, t1, t2⟩ := id HP2.out
    have e0 : W2.cell? ⟨V.heap.size, 0, none⟩ = some (.int .i64 ra) := HB12.out.cell 0
    have e1 : W2.cell? ⟨V.heap.size, 1, none⟩ = some (.int .i64 rd) := HB12.out.cell 1
    have e2 : W2.cell? ⟨V.heap.size, 2, none⟩ = some (.int .i64 rc) := HB12.out.cell 2
    go_upto_region 4 with fail
    go_quiet (fail)
    obtain ⟨W3, hW3⟩ : ∃ W3, W3 = W2.drewN nq := ⟨_, rfl⟩
    rw [← hW3]
    have z3 : Below W2.heap.size W2 W3 := by rw [hW3]; exact below_drewN (Below.refl _ _) _
    have HM3 := Lib.hid (HM2.out.below z3)
    have HP3 := Lib.hid (HP2.out.below z3)
    have HX3 := Lib.hid (HX2.out.below z3)
    have HB03 := Lib.hid (HB02.out.below' z3)
    have HB13 := Lib.hid (HB12.out.below' z3)
    have HZ3 := Lib.hid (HZ2.out.trans (z3.mono HZ2.out.size))
    clear hW3 z3 t0 t1 t2 e0 e1 e2 w1
    obtain ⟨t0, t1, t2⟩ := id HP3.out
    have HOC := Lib.hid (l00Own_any A n c xs W3 HX3.out (by omega))
    go_upto_region 6 with (go_at_call 70; refine HOC.out.mono ?_; rintro e w4 ⟨L, a, rfl, oL, z4⟩)
    rw [HL.out] at oL ⊢
    have HM4 := Lib.hid (HM3.out.below z4)
    have HB04 := Lib.hid (HB03.out.below' z4)
    have HB14 := Lib.hid (HB13.out.below' z4)
    have HZ4 := Lib.hid (HZ3.out.trans (z4.mono HZ3.out.size))
    have HO4 := Lib.hid oL
    have HW3 := Lib.hid HZ3.out.size
    have HZ34 := Lib.hid z4
    have e0 : w4.cell? ⟨V.heap.size, 0, none⟩ = some (.int .i64 ra) := HB14.out.cell 0
    have e1 : w4.cell? ⟨V.heap.size, 1, none⟩ = some (.int .i64 rd) := HB14.out.cell 1
    have e2 : w4.cell? ⟨V.heap.size, 2, none⟩ = some (.int .i64 rc) := HB14.out.cell 2
    clear t0 t1 t2 z4 oL
    by_cases hC0 : C < 0
    · have W5a : (w4.alloc (.cells #[.int .i64 ra] 2)).heap.size = w4.heap.size + 1 := by simp
      have hNl : (ra :: xs).length = 1 + n := by rw [List.length_cons, HL.out]; omega
      have hrd := ((HO4.out.alloc (.cells #[.int .i64 ra] 2))).rd
      have hlit := Own.lit w4 #[.int .i64 ra] 2 1 1 w4.heap.size rfl (by simp [maxLen]) (Nat.le_refl _)
      clear W5a
      go_upto_region 8 with (at_builtin; refine wpList_append_Own rfl (.tmp 47) (.tmp 48) rfl elI (lo := w4.heap.size) rfl hlit rfl hrd (ints_one xs) (by omega) (by simp only [maxLen]; omega) (by simp) ?_; intro Lt ct Wt ho5 hg5 hw5)
      have z5 : Below w4.heap.size w4 Wt := hlit.below_of ((Below.refl _ _).alloc (Nat.le_refl _) _) hg5 (by simp)
      obtain ⟨ys, hys⟩ : ∃ ys, ys = ra :: xs := ⟨_, rfl⟩
      have hoy : Own Wt w4.heap.size 2 1 Lt (1 + n) ct (ints ys) := by rw [hys]; exact ho5
      obtain ⟨N, hN⟩ : ∃ N, N = 1 + n := ⟨_, rfl⟩
      rw [← hN] at hoy ⊢
      have HN : Hid (ys.length = N) := Lib.hid (by rw [hys, hNl, hN])
      have HJN : Hid (0 < N) := Lib.hid (by omega)
      have HXR : Hid (ys.getD 0 0 = ra) := Lib.hid (by rw [hys]; rfl)
      have HF : Hid (predK sy rs ⟨rc, at_, xs⟩ i = some ⟨D, 0, ys.set 0 R⟩) := Lib.hid (by
        rw [HPF.out, ← HDD.out, ← HRR.out]
        unfold predF
        rw [if_neg (by simp), if_pos (by dsimp only; rw [← HC.out]; exact hC0), hys]; rfl)
      have HMt := Lib.hid (HM4.out.below z5)
      have HB0t := Lib.hid (HB04.out.below' z5)
      have HB1t := Lib.hid (HB14.out.below' z5)
      have HZt := Lib.hid (HZ4.out.trans (z5.mono HZ4.out.size))
      have HOt := Lib.hid (hoy.mono HZ4.out.size)
      clear hoy ho5 hg5 hw5 z5 hys hN hrd hlit hNl e0 e1 e2
      obtain ⟨bl, off, rfl, hlo, hblt, hc, hfz⟩ := HOt.out.at_ (k := 0) (by rw [length_ints, HN.out]; exact HJN.out)
      have HLO := Lib.hid hlo
      have HFZ : Hid (Wt.frozen? ⟨bl, off, none⟩ = false) := Lib.hid (by simpa using hfz)
      have HCV : Hid (Wt.cell? ⟨bl, off, none⟩ = some (.int .i64 (ys.getD 0 0))) := Lib.hid (by
        rw [ints_get] at hc
        have h2 : 0 < ys.length := by rw [HN.out]; exact HJN.out
        rw [show ys.getD 0 0 = ys[0]'h2 from by simp [List.getD, List.getElem?_eq_getElem h2]]
        simpa using hc)
      clear hlo hblt hc hfz
      have hcv : Wt.cell? ⟨bl, off, none⟩ = some (.int .i64 ra) := by rw [← HXR.out]; exact HCV.out
      have i0 : (0 : Int) ≤ 0 := by omega
      have i1 : 0 < (N : Int) := by have := HJN.out; omega
      have e0 : Wt.cell? ⟨V.heap.size, 0, none⟩ = some (.int .i64 ra) := HB1t.out.cell 0
      have e1 : Wt.cell? ⟨V.heap.size, 1, none⟩ = some (.int .i64 rd) := HB1t.out.cell 1
      have e2 : Wt.cell? ⟨V.heap.size, 2, none⟩ = some (.int .i64 rc) := HB1t.out.cell 2
      go_upto_region 11 with fail
      go_quiet (fail)
      obtain ⟨m1, m2, m5⟩ := M12.out
      obtain ⟨s0, _, _⟩ := id HMt.out
      have hfz := HFZ.out
      obtain ⟨Wu, hWu⟩ : ∃ Wu, Wu = Wt.drewN nq := ⟨_, rfl⟩
      rw [← hWu]
      have s0u : Wu.cell? ⟨g, 0, none⟩ = some (.int .i64 sy) := by rw [hWu]; exact s0
      have hcu : Wu.cell? ⟨bl, off, none⟩ = some (.int .i64 ra) := by rw [hWu]; exact hcv
      have hfu : Wu.frozen? ⟨bl, off, none⟩ = false := by rw [hWu]; exact hfz
      have HMu : Hid (MachAt Wu g sy st (some ⟨rb, ro, none⟩) m k) := Lib.hid (by rw [hWu]; exact HMt.out)
      have HB0u : Hid (Blk Wu w.heap.size 58 #[.int .i64 0, .int .i64 0, .slice none 0 0]) := Lib.hid (by rw [hWu]; exact HB0t.out)
      have HZu : Hid (Below w.heap.size w Wu) := Lib.hid (by rw [hWu]; exact below_drewN HZt.out _)
      have HOu : Hid (Own Wu w.heap.size 2 1 (some ⟨bl, off, none⟩) N ct (ints ys)) := Lib.hid (by rw [hWu]; exact HOt.out)
      clear hWu hcv hfz s0 e0 e1 e2
      go_upto_region 13 with fail
      go_upto_region 14 with fail
      obtain ⟨Wv, hWv⟩ : ∃ Wv, Wv = Wu.setCell ⟨bl, off, none⟩ (.int .i64 R) := ⟨_, rfl⟩
      rw [← hWv]
      have n1 : ¬ g = bl := by have := HLO.out; have := hgw; omega
      have s0v : Wv.cell? ⟨g, 0, none⟩ = some (.int .i64 sy) := by rw [hWv]; exact far_set n1 HMu.out.1
      have HBv : Hid (Blk Wv w.heap.size 58 #[.int .i64 0, .int .i64 0, .slice none 0 0]) := Lib.hid (by rw [hWv]; exact HB0u.out.far (p := ⟨bl, _, none⟩) (fun e => HB0u.out.apt HOu.out (by decide) (by simp [blk]; exact e.symm)) _)
      have HZv : Hid (Below w.heap.size w Wv) := Lib.hid (by rw [hWv]; exact HZu.out.setCell (p := ⟨bl, _, none⟩) HLO.out _)
      have HOv : Hid (Own Wv w.heap.size 2 1 (some ⟨bl, off, none⟩) N ct (ints (ys.set 0 R))) := Lib.hid (by
        have h := HOu.out.set_ (k := 0) (by rw [length_ints, HN.out]; exact HJN.out) (.int .i64 R)
        rw [ints_set] at h
        rw [hWv]
        exact h)
      clear hWv s0u hcu hfu
      have f0 : Wv.cell? ⟨w.heap.size, 0, none⟩ = some (.int .i64 0) := HBv.out.cell 0
      have f1 : Wv.cell? ⟨w.heap.size, 1, none⟩ = some (.int .i64 0) := HBv.out.cell 1
      have f2 : Wv.cell? ⟨w.heap.size, 2, none⟩ = some (.slice none 0 0) := HBv.out.cell 2
      have h0 := HBv.out.frozen 0
      have h1 := HBv.out.frozen 1
      have h2 := HBv.out.frozen 2
      have O6 := Lib.hid (part_own HBv.out HOv.out (.int .i64 D) (.int .i64 0) (.slice (some ⟨bl, off, none⟩) N ct))
      have D6 := Lib.hid (part_set HBv.out (.int .i64 D) (.int .i64 0) (.slice (some ⟨bl, off, none⟩) N ct))
      go_wp2_with fail
      have d1 := D6.out
      exact bodyPost_ret (v := .tuple #[.agg #[.int .i64 D, .int .i64 0, .slice (some ⟨bl, off, none⟩) N ct], .bool true]) (by simp [results, Tryd.results124, go_sem, d1.cell 0, d1.cell 1, d1.cell 2]) rfl (pred_some HF.out (by rw [List.length_set]; exact HN.out) O6.out (part_below HZv.out (Nat.le_refl _) _ _ _))
    obtain ⟨j, rfl⟩ : ∃ j : Nat, C = (j : Int) := ⟨C.toNat, by omega⟩
    by_cases hjn : j = n
    · subst hjn
      have hnew := Rd.new1 w4 (.int .i64 ra) 2
      have hoa := HO4.out.alloc (.cells #[.int .i64 ra] 2)
      go_upto_region 11 with (at_builtin; refine wpList_append_Own rfl (.tmp 54) (.tmp 57) rfl elI (lo := W3.heap.size) rfl hoa rfl hnew (by simp [Value.oneCell']) (by omega) (by simp only [maxLen]; omega) (by have := HZ34.out.size; simp; omega) ?_; intro Lt ct Wt ho5 hg5 hw5)
      have z5 : Below W3.heap.size W3 Wt := hoa.below_of (HZ34.out.alloc HZ34.out.size _) hg5 (by have := HZ34.out.size; simp; omega)
      obtain ⟨ys, hys⟩ : ∃ ys, ys = xs ++ [ra] := ⟨_, rfl⟩
      rw [ints_snoc, ← hys] at ho5
      obtain ⟨N, hN⟩ : ∃ N, N = j + 1 := ⟨_, rfl⟩
      rw [← hN] at ho5 ⊢
      have HN : Hid (ys.length = N) := Lib.hid (by rw [hys, hN, List.length_append, HL.out]; rfl)
      have HJN : Hid (j < N) := Lib.hid (by omega)
      have HXR : Hid (ys.getD j 0 = ra) := Lib.hid (by rw [hys, List.getD_eq_getElem?_getD, List.getElem?_append_right (by rw [HL.out]; exact Nat.le_refl _), HL.out]; simp)
      have HF : Hid (predK sy rs ⟨rc, at_, xs⟩ i = some ⟨D, (j : Int), ys.set j R⟩) := Lib.hid (by
        rw [HPF.out, ← HDD.out, ← HRR.out]
        unfold predF
        rw [if_neg (by simp), if_neg (by dsimp only; rw [← HC.out]; exact hC0), if_pos (by dsimp only; rw [← HC.out, HL.out])]
        dsimp only
        rw [← HC.out, hys, List.set_append_right _ _ (by rw [HL.out]; exact Nat.le_refl _), HL.out, Nat.sub_self]; rfl)
      have HMt := Lib.hid (HM3.out.below z5)
      have HB0t := Lib.hid (HB03.out.below' z5)
      have HB1t := Lib.hid (HB13.out.below' z5)
      have HZt := Lib.hid (HZ3.out.trans (z5.mono HZ3.out.size))
      have HOt := Lib.hid (ho5.mono HZ3.out.size)
      clear hoa ho5 hg5 hw5 z5 hys hN hnew e0 e1 e2
      obtain ⟨bl, off, rfl, hlo, hblt, hc, hfz⟩ := HOt.out.at_ (k := j) (by rw [length_ints, HN.out]; exact HJN.out)
      have HLO := Lib.hid hlo
      have HFZ : Hid (Wt.frozen? ⟨bl, off + j, none⟩ = false) := Lib.hid (by simpa using hfz)
      have HCV : Hid (Wt.cell? ⟨bl, off + j, none⟩ = some (.int .i64 (ys.getD j 0))) := Lib.hid (by
        rw [ints_get] at hc
        have h2 : j < ys.length := by rw [HN.out]; exact HJN.out
        rw [show ys.getD j 0 = ys[j]'h2 from by simp [List.getD, List.getElem?_eq_getElem h2]]
        simpa using hc)
      clear hlo hblt hc hfz
      have hcv : Wt.cell? ⟨bl, off + j, none⟩ = some (.int .i64 ra) := by rw [← HXR.out]; exact HCV.out
      have i0 : (0 : Int) ≤ (j : Int) := by omega
      have i1 : (j : Int) < (N : Int) := by have := HJN.out; omega
      have e0 : Wt.cell? ⟨V.heap.size, 0, none⟩ = some (.int .i64 ra) := HB1t.out.cell 0
      have e1 : Wt.cell? ⟨V.heap.size, 1, none⟩ = some (.int .i64 rd) := HB1t.out.cell 1
      have e2 : Wt.cell? ⟨V.heap.size, 2, none⟩ = some (.int .i64 rc) := HB1t.out.cell 2
      go_upto_region 11 with fail
      go_quiet (fail)
      obtain ⟨m1, m2, m5⟩ := M12.out
      obtain ⟨s0, _, _⟩ := id HMt.out
      have hfz := HFZ.out
      obtain ⟨Wu, hWu⟩ : ∃ Wu, Wu = Wt.drewN nq := ⟨_, rfl⟩
      rw [← hWu]
      have s0u : Wu.cell? ⟨g, 0, none⟩ = some (.int .i64 sy) := by rw [hWu]; exact s0
      have hcu : Wu.cell? ⟨bl, off + j, none⟩ = some (.int .i64 ra) := by rw [hWu]; exact hcv
      have hfu : Wu.frozen? ⟨bl, off + j, none⟩ = false := by rw [hWu]; exact hfz
      have HMu : Hid (MachAt Wu g sy st (some ⟨rb, ro, none⟩) m k) := Lib.hid (by rw [hWu]; exact HMt.out)
      have HB0u : Hid (Blk Wu w.heap.size 58 #[.int .i64 0, .int .i64 0, .slice none 0 0]) := Lib.hid (by rw [hWu]; exact HB0t.out)
      have HZu : Hid (Below w.heap.size w Wu) := Lib.hid (by rw [hWu]; exact below_drewN HZt.out _)
      have HOu : Hid (Own Wu w.heap.size 2 1 (some ⟨bl, off, none⟩) N ct (ints ys)) := Lib.hid (by rw [hWu]; exact HOt.out)
      clear hWu hcv hfz s0 e0 e1 e2
      go_upto_region 13 with fail
      go_upto_region 14 with fail
      obtain ⟨Wv, hWv⟩ : ∃ Wv, Wv = Wu.setCell ⟨bl, off + j, none⟩ (.int .i64 R) := ⟨_, rfl⟩
      rw [← hWv]
      have n1 : ¬ g = bl := by have := HLO.out; have := hgw; omega
      have s0v : Wv.cell? ⟨g, 0, none⟩ = some (.int .i64 sy) := by rw [hWv]; exact far_set n1 HMu.out.1
      have HBv : Hid (Blk Wv w.heap.size 58 #[.int .i64 0, .int .i64 0, .slice none 0 0]) := Lib.hid (by rw [hWv]; exact HB0u.out.far (p := ⟨bl, _, none⟩) (fun e => HB0u.out.apt HOu.out (by decide) (by simp [blk]; exact e.symm)) _)
      have HZv : Hid (Below w.heap.size w Wv) := Lib.hid (by rw [hWv]; exact HZu.out.setCell (p := ⟨bl, _, none⟩) HLO.out _)
      have HOv : Hid (Own Wv w.heap.size 2 1 (some ⟨bl, off, none⟩) N ct (ints (ys.set j R))) := Lib.hid (by
        have h := HOu.out.set_ (k := j) (by rw [length_ints, HN.out]; exact HJN.out) (.int .i64 R)
        rw [ints_set] at h
        rw [hWv]
        exact h)
      clear hWv s0u hcu hfu
      have f0 : Wv.cell? ⟨w.heap.size, 0, none⟩ = some (.int .i64 0) := HBv.out.cell 0
      have f1 : Wv.cell? ⟨w.heap.size, 1, none⟩ = some (.int .i64 0) := HBv.out.cell 1
      have f2 : Wv.cell? ⟨w.heap.size, 2, none⟩ = some (.slice none 0 0) := HBv.out.cell 2
      have h0 := HBv.out.frozen 0
      have h1 := HBv.out.frozen 1
      have h2 := HBv.out.frozen 2
      have O6 := Lib.hid (part_own HBv.out HOv.out (.int .i64 D) (.int .i64 (j : Int)) (.slice (some ⟨bl, off, none⟩) N ct))
      have D6 := Lib.hid (part_set HBv.out (.int .i64 D) (.int .i64 (j : Int)) (.slice (some ⟨bl, off, none⟩) N ct))
      go_wp2_with fail
      have d1 := D6.out
      exact bodyPost_ret (v := .tuple #[.agg #[.int .i64 D, .int .i64 (j : Int), .slice (some ⟨bl, off, none⟩) N ct], .bool true]) (by simp [results, Tryd.results124, go_sem, d1.cell 0, d1.cell 1, d1.cell 2]) rfl (pred_some HF.out (by rw [List.length_set]; exact HN.out) O6.out (part_below HZv.out (Nat.le_refl _) _ _ _))
    have hjl : j < n := by omega
    have i2 : ¬ (j : Int) = (n : Int) := by omega
    have i3 : ¬ (j : Int) < 0 := hC0
    obtain ⟨x, hx_⟩ : ∃ x, x = xs.getD j 0 := ⟨_, rfl⟩
    go_upto_region 11 with fail
    by_cases hxr : x = ra
    · have HF : Hid (predK sy rs ⟨rc, at_, xs⟩ i = some ⟨D, (j : Int), xs.set j R⟩) := Lib.hid (by
        rw [HPF.out, ← HDD.out, ← HRR.out]
        unfold predF
        rw [if_neg (by simp), if_neg (by dsimp only; rw [← HC.out]; exact hC0), if_neg (by dsimp only; rw [← HC.out, HL.out]; exact i2), if_neg (by dsimp only; rw [← HC.out, Int.toNat_natCast, ← hx_, hxr]; simp)]
        dsimp only; rw [← HC.out, Int.toNat_natCast])
      obtain ⟨ys, hys⟩ : ∃ ys, ys = xs := ⟨_, rfl⟩
      obtain ⟨N, hN⟩ : ∃ N, N = n := ⟨_, rfl⟩
      obtain ⟨Wt, hWt⟩ : ∃ Wt, Wt = w4 := ⟨_, rfl⟩
      obtain ⟨Lt, hLt⟩ : ∃ Lt, Lt = L := ⟨_, rfl⟩
      obtain ⟨ct, hct⟩ : ∃ ct, ct = a := ⟨_, rfl⟩
      have HXR : Hid (ys.getD j 0 = ra) := Lib.hid (by rw [hys, ← hx_, hxr])
      have HN : Hid (ys.length = N) := Lib.hid (by rw [hys, hN, HL.out])
      have HJN : Hid (j < N) := Lib.hid (by omega)
      have HOt := Lib.hid (HO4.out.mono HZ3.out.size)
      subst hys hWt hLt hct hN
      have HMt := HM4
      have HB0t := HB04
      have HB1t := HB14
      have HZt := HZ4
      clear e0 e1 e2 hx_ hxr hC0
      obtain ⟨bl, off, rfl, hlo, hblt, hc, hfz⟩ := HOt.out.at_ (k := j) (by rw [length_ints, HN.out]; exact HJN.out)
      have HLO := Lib.hid hlo
      have HFZ : Hid (Wt.frozen? ⟨bl, off + j, none⟩ = false) := Lib.hid (by simpa using hfz)
      have HCV : Hid (Wt.cell? ⟨bl, off + j, none⟩ = some (.int .i64 (ys.getD j 0))) := Lib.hid (by
        rw [ints_get] at hc
        have h2 : j < ys.length := by rw [HN.out]; exact HJN.out
        rw [show ys.getD j 0 = ys[j]'h2 from by simp [List.getD, List.getElem?_eq_getElem h2]]
        simpa using hc)
      clear hlo hblt hc hfz
      have hcv : Wt.cell? ⟨bl, off + j, none⟩ = some (.int .i64 ra) := by rw [← HXR.out]; exact HCV.out
      have i0 : (0 : Int) ≤ (j : Int) := by omega
      have i1 : (j : Int) < (N : Int) := by have := HJN.out; omega
      have e0 : Wt.cell? ⟨V.heap.size, 0, none⟩ = some (.int .i64 ra) := HB1t.out.cell 0
      have e1 : Wt.cell? ⟨V.heap.size, 1, none⟩ = some (.int .i64 rd) := HB1t.out.cell 1
      have e2 : Wt.cell? ⟨V.heap.size, 2, none⟩ = some (.int .i64 rc) := HB1t.out.cell 2
      go_upto_region 11 with fail
      go_quiet (fail)
      obtain ⟨m1, m2, m5⟩ := M12.out
      obtain ⟨s0, _, _⟩ := id HMt.out
      have hfz := HFZ.out
      obtain ⟨Wu, hWu⟩ : ∃ Wu, Wu = Wt.drewN nq := ⟨_, rfl⟩
      rw [← hWu]
      have s0u : Wu.cell? ⟨g, 0, none⟩ = some (.int .i64 sy) := by rw [hWu]; exact s0
      have hcu : Wu.cell? ⟨bl, off + j, none⟩ = some (.int .i64 ra) := by rw [hWu]; exact hcv
      have hfu : Wu.frozen? ⟨bl, off + j, none⟩ = false := by rw [hWu]; exact hfz
      have HMu : Hid (MachAt Wu g sy st (some ⟨rb, ro, none⟩) m k) := Lib.hid (by rw [hWu]; exact HMt.out)
      have HB0u : Hid (Blk Wu w.heap.size 58 #[.int .i64 0, .int .i64 0, .slice none 0 0]) := Lib.hid (by rw [hWu]; exact HB0t.out)
      have HZu : Hid (Below w.heap.size w Wu) := Lib.hid (by rw [hWu]; exact below_drewN HZt.out _)
      have HOu : Hid (Own Wu w.heap.size 2 1 (some ⟨bl, off, none⟩) N ct (ints ys)) := Lib.hid (by rw [hWu]; exact HOt.out)
      clear hWu hcv hfz s0 e0 e1 e2
      go_upto_region 13 with fail
      go_upto_region 14 with fail
      obtain ⟨Wv, hWv⟩ : ∃ Wv, Wv = Wu.setCell ⟨bl, off + j, none⟩ (.int .i64 R) := ⟨_, rfl⟩
      rw [← hWv]
      have n1 : ¬ g = bl := by have := HLO.out; have := hgw; omega
      have s0v : Wv.cell? ⟨g, 0, none⟩ = some (.int .i64 sy) := by rw [hWv]; exact far_set n1 HMu.out.1
      have HBv : Hid (Blk Wv w.heap.size 58 #[.int .i64 0, .int .i64 0, .slice none 0 0]) := Lib.hid (by rw [hWv]; exact HB0u.out.far (p := ⟨bl, _, none⟩) (fun e => HB0u.out.apt HOu.out (by decide) (by simp [blk]; exact e.symm)) _)
      have HZv : Hid (Below w.heap.size w Wv) := Lib.hid (by rw [hWv]; exact HZu.out.setCell (p := ⟨bl, _, none⟩) HLO.out _)
      have HOv : Hid (Own Wv w.heap.size 2 1 (some ⟨bl, off, none⟩) N ct (ints (ys.set j R))) := Lib.hid (by
        have h := HOu.out.set_ (k := j) (by rw [length_ints, HN.out]; exact HJN.out) (.int .i64 R)
        rw [ints_set] at h
        rw [hWv]
        exact h)
      clear hWv s0u hcu hfu
      have f0 : Wv.cell? ⟨w.heap.size, 0, none⟩ = some (.int .i64 0) := HBv.out.cell 0
      have f1 : Wv.cell? ⟨w.heap.size, 1, none⟩ = some (.int .i64 0) := HBv.out.cell 1
      have f2 : Wv.cell? ⟨w.heap.size, 2, none⟩ = some (.slice none 0 0) := HBv.out.cell 2
      have h0 := HBv.out.frozen 0
      have h1 := HBv.out.frozen 1
      have h2 := HBv.out.frozen 2
      have O6 := Lib.hid (part_own HBv.out HOv.out (.int .i64 D) (.int .i64 (j : Int)) (.slice (some ⟨bl, off, none⟩) N ct))
      have D6 := Lib.hid (part_set HBv.out (.int .i64 D) (.int .i64 (j : Int)) (.slice (some ⟨bl, off, none⟩) N ct))
      go_wp2_with fail
      have d1 := D6.out
      exact bodyPost_ret (v := .tuple #[.agg #[.int .i64 D, .int .i64 (j : Int), .slice (some ⟨bl, off, none⟩) N ct], .bool true]) (by simp [results, Tryd.results124, go_sem, d1.cell 0, d1.cell 1, d1.cell 2]) rfl (pred_some HF.out (by rw [List.length_set]; exact HN.out) O6.out (part_below HZv.out (Nat.le_refl _) _ _ _))
    · have HF : Hid (predK sy rs ⟨rc, at_, xs⟩ i = none) := Lib.hid (by
        rw [HPF.out]
        unfold predF
        rw [if_neg (by simp), if_neg (by dsimp only; rw [← HC.out]; exact hC0), if_neg (by dsimp only; rw [← HC.out, HL.out]; exact i2), if_pos (by dsimp only; rw [← HC.out, Int.toNat_natCast, ← hx_]; exact hxr)])
      obtain ⟨bl, off, rfl, hlo, hblt, hc, hfz⟩ := HO4.out.at_ (k := j) (by rw [length_ints, HL.out]; exact hjl)
      have hcv : w4.cell? ⟨bl, off + j, none⟩ = some (.int .i64 x) := by
        rw [hc, ints_get]
        have h2 : j < xs.length := by rw [HL.out]; exact hjl
        rw [hx_, show xs.getD j 0 = xs[j]'h2 from by simp [List.getD, List.getElem?_eq_getElem h2]]
      have i0 : (0 : Int) ≤ (j : Int) := by omega
      have i1 : (j : Int) < (n : Int) := by omega
      have jx : (x != ra) = true := by simpa using hxr
      clear hx_ hc hfz hxr hlo hblt
      go_quiet (fail)
      have HB04u := Lib.hid (HB04.out.drewN nq)
      have HZ4u := Lib.hid (below_drewN HZ4.out nq)
      clear hcv e0 e1 e2
      generalize w4.drewN nq = Wu at *
      have f0 : Wu.cell? ⟨w.heap.size, 0, none⟩ = some (.int .i64 0) := HB04u.out.cell 0
      have f1 : Wu.cell? ⟨w.heap.size, 1, none⟩ = some (.int .i64 0) := HB04u.out.cell 1
      have f2 : Wu.cell? ⟨w.heap.size, 2, none⟩ = some (.slice none 0 0) := HB04u.out.cell 2
      have h0 := HB04u.out.frozen 0
      have h1 := HB04u.out.frozen 1
      have h2 := HB04u.out.frozen 2
      go_wp2_with fail
      have d1 := part_set HB04u.out (.int .i64 0) (.int .i64 0) (.slice none 0 0)
      exact bodyPost_ret (v := .tuple #[.agg #[.int .i64 0, .int .i64 0, .slice none 0 0], .bool false]) (by simp [results, Tryd.results124, go_sem, d1.cell 0, d1.cell 1, d1.cell 2]) rfl (pred_none HF.out (part_below HZ4u.out (Nat.le_refl _) _ _ _))
end Go.Proofs.YtokglpdlhacnaaaDoor

/-
  Contract of the reference's l00Same.
-/
namespace Go.Proofs.YtokglpdlhacnaaaDoor
open Go.RowKit

set_option maxHeartbeats 400000 in
theorem l00Same_any (A B : Option Addr) (n m c d : Nat) (xs ys : List Int) (w : World) (hx : SI w A n xs) (hy : SI w B m ys) (hn : n ≤ 9223372036854775807) :
    Calls Tryd.prog 125 #[.slice A n c, .slice B m d] w fun e w' => e = .returned (.bool (sameI xs ys)) ∧ ∃ q, w' = w.drewN q := by
  by_cases hnm : n = m
  · subst hnm
    go_enter Tryd.func125, Tryd.ntmps125
    go_wp2
    go_loopw [5] (fun i wr => ∃ k q : Nat, k ≤ n ∧ i = .int .i64 k ∧ Hid (xs.take k = ys.take k) ∧ wr = w.drewN q) (fun i _ => n - (intOf i).toNat)
    case atStart => exact ⟨0, 0, by omega, rfl, rfl, rfl⟩
    case round =>
      obtain ⟨k, q, hk, rfl, he, rfl⟩ := hrel
      by_cases hlt : k < n
      · obtain ⟨b, off, rfl, _, hc⟩ := hx.at_ hlt
        obtain ⟨b', off', rfl, _, hc'⟩ := hy.at_ hlt
        go_wp2
        go_quiet (fail)
        go_wp2
        · go_ret
          exact ⟨ret_bool (sameI_ne hlt hx.len hy.len (by assumption)), _, World.drewN_drewN _ _ _⟩
        · exact ⟨⟨k + 1, _, by omega, by go_num, take_next hlt hx.len hy.len he.out (by assumption), rfl⟩, by simp [intOf]; omega⟩
      · go_wp2
        go_ret
        exact ⟨ret_bool (sameI_eq (by omega) hx.len hy.len he.out), _, rfl⟩
  · have hne : ((n : Int) != (m : Int)) = true := by simp; omega
    go_enter Tryd.func125, Tryd.ntmps125
    go_wp2
    go_ret
    exact ⟨ret_bool (sameI_len hnm hx.len hy.len), 0, rfl⟩
theorem l00Same_is {xs ys : List Int} {v : Bool} (h : sameI xs ys = v) (A B : Option Addr) (n m c d : Nat) (w : World) (hx : SI w A n xs) (hy : SI w B m ys) (hn : n ≤ 9223372036854775807) :
    Calls Tryd.prog 125 #[.slice A n c, .slice B m d] w fun e w' => e = .returned (.bool v) ∧ ∃ q, w' = w.drewN q := h ▸ l00Same_any A B n m c d xs ys w hx hy hn
end Go.Proofs.YtokglpdlhacnaaaDoor

/-
  The reference's predecessors of a partial configuration (l26Predecessors), and whether two are equal (l26Same).
-/
namespace Go.Proofs.YtokglpdlhacnaaaDoor
open Go.RowKit

def PredsS (w : World) (o : Option (List Pa)) (e : Ending) (w' : World) : Prop :=
  (match o with
    | none => e = .returned (.tuple #[.slice none 0 0, .bool false])
    | some l => ∃ A c ts, e = .returned (.tuple #[.slice A ts.length c, .bool true]) ∧ OPs w' w.heap.size A ts.length c ts ∧ pas ts = l) ∧ Below w.heap.size w w'
set_option maxRecDepth 100000 in
set_option maxHeartbeats 8000000 in
theorem l26Predecessors_any (g : Nat) (sy st : Int) (B : Option Addr) (m k : Nat) (rs : List R3) (b o : Nat) (q at_ : Int) (A : Option Addr) (n c : Nat) (xs : List Int) (w : World) (hM : MachAt w g sy st B m k) (hr : S3 w B m rs) (hP : PartAt w b o q at_ A n c) (hx : SI w A n xs) (hm : machB sy st rs = true) (hok : PaOk sy st ⟨q, at_, xs⟩) (hn : n ≤ 1000) :
    Calls Tryd.prog 99 #[.pointer (some ⟨g, 0, none⟩), .pointer (some ⟨b, o, none⟩)] w (PredsS w (predsF sy rs ⟨q, at_, xs⟩)) := by
  have HRL := Lib.hid hr.len
  have HM := Lib.hid hm
  obtain ⟨p1, p2, p3, p4, p5, _⟩ := machB_parts hm
  have hml : m ≤ 6000 := by have h5 : st * sy ≤ 1000 * 6 := Int.mul_le_mul p4 p2 (by omega) (by omega); have := HRL.out; omega
  clear p5
  obtain ⟨W1, hW_⟩ : ∃ W_, W_ = w.alloc (.cells #[] 58) := ⟨_, rfl⟩
  have c1 : Blk W1 w.heap.size 58 #[] := by rw [hW_]; exact Blk.new w _ _
  have z1 : Below w.heap.size w W1 := by rw [hW_]; exact (Below.refl _ _).alloc (Nat.le_refl _) _
  have HW1 := Lib.hid hW_
  clear hW_
  have o1 : OPs W1 w.heap.size (some ⟨w.heap.size, 0, none⟩) ([] : List Pm).length 0 [] := OPs.nil (by rw [HW1.out]; exact Own.lit0 w _ 3)
  have HMA := Lib.hid hM
  have HR := Lib.hid hr
  have HPA := Lib.hid hP
  have HX := Lib.hid hx
  have HOK := Lib.hid hok
  have HZ1 := Lib.hid z1
  clear hM hr hP hx hm hok c1 z1
  go_enter Tryd.func99, Tryd.ntmps99
  go_upto_region 2 with fail
  rw [← HW1.out]
  go_wp2_with fail
  go_loopw [6, 7] (fun v i wr => ∃ (j : Nat) (A' : Option Addr) (c' : Nat) (ts : List Pm), j ≤ m ∧ i = .int .i64 (j : Int) ∧ v = .slice A' ts.length c' ∧ OPs wr w.heap.size A' ts.length c' ts ∧ Hid (predsTo sy rs ⟨q, at_, xs⟩ j = some (pas ts)) ∧ Hid (Below w.heap.size w wr)) (fun _ i _ => m - (intOf i).toNat)
  case atStart => exact ⟨0, _, 0, [], by omega, rfl, rfl, o1, Lib.hid rfl, HZ1⟩
  case round =>
    obtain ⟨j, A', c', ts, hj, rfl, rfl, hO, HP, HZ⟩ := hrel
    rename World => W0
    clear o1 HZ1
    obtain ⟨m0, m1, m2⟩ := HMA.out.below HZ.out
    have HTL : Hid (ts.length ≤ 6000) := Lib.hid (by
      have h2 := (predsTo_ok HM.out HOK.out (by rw [HRL.out]; omega) HP.out).2
      have h3 : (pas ts).length = ts.length := by simp [pas]
      omega)
    have HOW0 := Lib.hid hO
    by_cases hlt : j < m
    · have i1 : (j : Int) < (m : Int) := by omega
      have HBF := Lib.hid (l26Before_any g sy st B m k rs b o q at_ A n c xs j W0 (HMA.out.below HZ.out) (HR.out.below HZ.out) (HPA.out.below HZ.out) (HX.out.below HZ.out) HM.out HOK.out hn hlt)
      have HBG := Lib.hid (HBF.out.mono fun e w' h => (⟨h.out, h.2⟩ : (∃ Q T L N c bv, e = .returned (.tuple #[.agg #[.int .i64 Q, .int .i64 T, .slice L N c], .bool bv]) ∧ PredOut _ W0.heap.size w' Q T L N c bv) ∧ Below W0.heap.size W0 w'))
      have HST : Hid (predsTo sy rs ⟨q, at_, xs⟩ (j + 1) = match predK sy rs ⟨q, at_, xs⟩ j with
            | none => some (pas ts)
            | some y => if 60 < y.cs.length then none else some (pas ts ++ [y])) := Lib.hid (by show (predsTo sy rs ⟨q, at_, xs⟩ j).bind _ = _; rw [HP.out]; rfl)
      go_upto_region 6 with (go_at_call 124; refine HBG.out.mono ?_; rintro e w3 ⟨⟨Q, T, L, N, c9, bv, rfl, ho⟩, z3⟩)
      have hZV := Lib.hid (HZ.out.trans (z3.mono HZ.out.size))
      have hO3 := Lib.hid (hO.below z3)
      obtain ⟨W4, hW4⟩ : ∃ W4, W4 = w3.alloc (.cells #[.int .i64 Q, .int .i64 T, .slice L N c9] 58) := ⟨_, rfl⟩
      rw [← hW4]
      have b4 : Blk W4 w3.heap.size 58 #[.int .i64 Q, .int .i64 T, .slice L N c9] := by rw [hW4]; exact Blk.new _ _ _
      have z4 : Below w3.heap.size w3 W4 := by rw [hW4]; exact (Below.refl _ _).alloc (Nat.le_refl _) _
      have HO4 := Lib.hid (hO3.out.below z4)
      have HZ4 := Lib.hid (hZV.out.trans (z4.mono hZV.out.size))
      have HP4 : Hid (PredOut (predK sy rs ⟨q, at_, xs⟩ j) W0.heap.size W4 Q T L N c9 bv) := Lib.hid (by rw [hW4]; exact ho.alloc _)
      have HZ0 := Lib.hid z3.size
      have e0 : W4.cell? ⟨w3.heap.size, 0, none⟩ = some (.int .i64 Q) := b4.cell 0
      have e1 : W4.cell? ⟨w3.heap.size, 1, none⟩ = some (.int .i64 T) := b4.cell 1
      have e2 : W4.cell? ⟨w3.heap.size, 2, none⟩ = some (.slice L N c9) := b4.cell 2
      clear hW4 b4 z4 ho z3 hO m0 m1 m2
      rcases HP4.out with ⟨hb, ho⟩ | ⟨hb, y, ho, hQ, hT, hN, hOwn⟩
      · subst hb
        have HST2 : Hid (predsTo sy rs ⟨q, at_, xs⟩ (j + 1) = some (pas ts)) := Lib.hid (by rw [HST.out, ho])
        clear ho HP4
        have hOf := HO4.out
        go_wp2_with fail
        go_roundw
        case rel => exact ⟨j + 1, A', c', ts, by omega, by go_num, rfl, hOf, HST2, HZ4⟩
        case measure => simp [intOf]; omega
      · subst hb hQ hT hN
        have HST2 : Hid (predsTo sy rs ⟨q, at_, xs⟩ (j + 1) = if 60 < y.cs.length then none else some (pas ts ++ [y])) := Lib.hid (by rw [HST.out, ho])
        clear ho HP4
        by_cases h60 : 60 < y.cs.length
        · have h60' : (60 : Int) < (y.cs.length : Int) := by omega
          have HPN : Hid (predsF sy rs ⟨q, at_, xs⟩ = none) := Lib.hid (predsTo_none (by rw [HST2.out, if_pos h60]) _ (by rw [HRL.out]; omega))
          go_wp2_with fail
          exact bodyPost_ret (v := .tuple #[.slice none 0 0, .bool false]) (by simp [results, Tryd.results99, go_sem]) rfl (by unfold PredsS; rw [HPN.out]; exact ⟨rfl, HZ4.out⟩)
        · have h60' : ¬ (60 : Int) < (y.cs.length : Int) := by omega
          have HST3 : Hid (predsTo sy rs ⟨q, at_, xs⟩ (j + 1) = some (pas ts ++ [y])) := Lib.hid (by rw [HST2.out, if_neg h60])
          have hOa := HO4.out.alloc (.cells #[.int .i64 y.q, .int .i64 y.at_, .slice L y.cs.length c9] 58)
          have hwa := hOwn.alloc (.cells #[.int .i64 y.q, .int .i64 y.at_, .slice L y.cs.length c9] 58)
          have HO0 := hO3
          go_wp2_with (at_builtin; refine wpList_append_Own rfl (.tmp 35) (.tmp 37) rfl elPart (lo := w.heap.size) rfl hOa.spine rfl (Pm.new W4 ⟨y.q, y.at_, L, c9, y.cs⟩) (fun u hu => Pm.one [⟨y.q, y.at_, L, c9, y.cs⟩] u (by simpa using hu)) (by have := HTL.out; omega) (by have := HTL.out; simp only [maxLen]; omega) (by have := HZ4.out.size; simp; omega) ?_; intro A5 c5 w5 o5 hg5 hw5)
          have hOs : OPs w5 w.heap.size A5 (ts.length + 1) c5 (ts ++ [⟨y.q, y.at_, L, c9, y.cs⟩]) := OPs.snoc (wa := W0) HOW0.out (Nat.le_refl _) hOa o5 hg5 hwa HZ.out.size
          have hZ5 : Hid (Below w.heap.size w w5) := Lib.hid (Own.below_of hOa.spine (HZ4.out.alloc HZ4.out.size _) hg5 (by have := HZ4.out.size; simp; omega))
          have HST4 : Hid (predsTo sy rs ⟨q, at_, xs⟩ (j + 1) = some (pas (ts ++ [⟨y.q, y.at_, L, c9, y.cs⟩]))) := Lib.hid (by rw [HST3.out]; simp [pas, Pm.pa])
          have hlen : (ts ++ [(⟨y.q, y.at_, L, c9, y.cs⟩ : Pm)]).length = ts.length + 1 := by simp
          exact ⟨⟨j + 1, A5, c5, ts ++ [⟨y.q, y.at_, L, c9, y.cs⟩], by omega, by go_num, by rw [hlen], by rw [hlen]; exact hOs, HST4, hZ5⟩, by simp [intOf]; omega⟩
    · have i1 : ¬ (j : Int) < (m : Int) := by omega
      have HPS : Hid (predsF sy rs ⟨q, at_, xs⟩ = some (pas ts)) := Lib.hid (by unfold predsF; rw [HRL.out, show m = j by omega]; exact HP.out)
      go_wp2_with fail
      exact bodyPost_ret (v := .tuple #[.slice A' ts.length c', .bool true]) (by simp [results, Tryd.results99, go_sem]) rfl (by unfold PredsS; rw [HPS.out]; exact ⟨⟨A', c', ts, rfl, hO, rfl⟩, HZ.out⟩)
/-- Whether two partial configurations are equal. -/
def samePa (x y : Pa) : Bool := (x.q == y.q) && (x.at_ == y.at_) && sameI x.cs y.cs
theorem samePa_iff (x y : Pa) : samePa x y = true ↔ x = y := by
  obtain ⟨q, p, xs⟩ := x
  obtain ⟨q', p', ys⟩ := y
  simp only [samePa, Bool.and_eq_true, beq_iff_eq, Pa.mk.injEq, sameI, decide_eq_true_eq, and_assoc]
set_option maxRecDepth 100000 in
set_option maxHeartbeats 4000000 in
theorem l26Same_any (b o b' o' : Nat) (q p q' p' : Int) (A A' : Option Addr) (n c n' c' : Nat) (xs ys : List Int) (w : World) (hP : PartAt w b o q p A n c) (hP' : PartAt w b' o' q' p' A' n' c') (hx : SI w A n xs) (hy : SI w A' n' ys) (hn : n ≤ 1048576) :
    Calls Tryd.prog 100 #[.pointer (some ⟨b, o, none⟩), .pointer (some ⟨b', o', none⟩)] w fun e w' => e = .returned (.bool (samePa ⟨q, p, xs⟩ ⟨q', p', ys⟩)) ∧ ∃ d, w' = w.drewN d := by
  obtain ⟨m0, m1, m2⟩ := id hP
  obtain ⟨v0, v1, v2⟩ := id hP'
  have HS : Hid (samePa ⟨q, p, xs⟩ ⟨q', p', ys⟩ = ((q == q') && (p == p') && sameI xs ys)) := Lib.hid rfl
  cases a1 : (q == q')
  · go_enter Tryd.func100, Tryd.ntmps100
    go_upto_region 1 with fail
    go_quiet (fail)
    go_wp2_with fail
    go_ret
    exact ⟨ret_bool (by rw [HS.out, a1]; rfl), _, rfl⟩
  cases a2 : (p == p')
  · go_enter Tryd.func100, Tryd.ntmps100
    go_upto_region 1 with fail
    go_quiet (fail)
    go_wp2_with fail
    go_ret
    exact ⟨ret_bool (by rw [HS.out, a1, a2]; rfl), _, rfl⟩
  · go_enter Tryd.func100, Tryd.ntmps100
    go_upto_region 1 with fail
    go_quiet ((go_at_call 125; exact quiet_1 (l00Same_any _ _ _ _ _ _ xs ys _ (hx.drewN _) (hy.drewN _) (by omega))))
    go_wp2_with fail
    go_ret
    exact ⟨ret_bool (by rw [HS.out, a1, a2]; simp), _, rfl⟩
end Go.Proofs.YtokglpdlhacnaaaDoor

/-
  The reference's next level of partial configurations (l26Next).
-/
namespace Go.Proofs.YtokglpdlhacnaaaDoor
open Go.RowKit

theorem take_mem_next {l : List Pa} {t : Nat} {x y : Pa} (h : l[t]? = some x) : decide (y ∈ l.take (t + 1)) = (decide (y ∈ l.take t) || samePa x y) := by
  rw [List.take_add_one, h, Bool.eq_iff_iff]
  simp only [Option.toList_some, List.mem_append, List.mem_singleton, decide_eq_true_eq, Bool.or_eq_true, samePa_iff]
  exact or_congr Iff.rfl eq_comm
set_option maxRecDepth 100000 in
set_option maxHeartbeats 8000000 in
theorem l26Next_any (g lo : Nat) (sy st : Int) (B : Option Addr) (m k : Nat) (rs : List R3) (A : Option Addr) (n c : Nat) (lv : List Pm) (w : World) (hM : MachAt w g sy st B m k) (hr : S3 w B m rs) (hO : OPs w lo A n c lv) (hm : machB sy st rs = true) (hok : ∀ x ∈ pas lv, PaOk sy st x ∧ x.cs.length ≤ 60) (hn : n ≤ 6000) :
    Calls Tryd.prog 71 #[.pointer (some ⟨g, 0, none⟩), .slice A n c] w (PredsS w (nextF sy rs (pas lv))) := by
  obtain ⟨W1, hW_⟩ : ∃ W_, W_ = w.alloc (.cells #[] 58) := ⟨_, rfl⟩
  have c1 : Blk W1 w.heap.size 58 #[] := by rw [hW_]; exact Blk.new w _ _
  have z1 : Below w.heap.size w W1 := by rw [hW_]; exact (Below.refl _ _).alloc (Nat.le_refl _) _
  have HW1 := Lib.hid hW_
  clear hW_
  have o1 : OPs W1 w.heap.size (some ⟨w.heap.size, 0, none⟩) ([] : List Pm).length 0 [] := OPs.nil (by rw [HW1.out]; exact Own.lit0 w _ 3)
  have HMA := Lib.hid hM
  have HR := Lib.hid hr
  have HO := Lib.hid hO
  have HM := Lib.hid hm
  have HOK := Lib.hid hok
  have HZ1 := Lib.hid z1
  have HLV : Hid (lv.length = n) := Lib.hid hO.len
  clear hM hr hO hm hok c1 z1
  go_enter Tryd.func71, Tryd.ntmps71
  go_upto_region 2 with fail
  rw [← HW1.out]
  go_wp2_with fail
  go_loopw [6, 7] (fun v i wr => ∃ (j : Nat) (A' : Option Addr) (c' : Nat) (ts : List Pm), j ≤ n ∧ i = .int .i64 (j : Int) ∧ v = .slice A' ts.length c' ∧ OPs wr w.heap.size A' ts.length c' ts ∧ Hid (nextTo sy rs (pas lv) j = some (pas ts)) ∧ Hid (Below w.heap.size w wr)) (fun _ i _ => n - (intOf i).toNat)
  case atStart => exact ⟨0, _, 0, [], by omega, rfl, rfl, o1, Lib.hid rfl, HZ1⟩
  case round =>
    obtain ⟨j, A', c', ts, hj, rfl, rfl, hO1, HN1, HZ⟩ := hrel
    rename World => W0
    clear o1 HZ1
    by_cases hlt : j < n
    rotate_left
    · have i1 : ¬ (j : Int) < (n : Int) := by omega
      have HNF : Hid (nextF sy rs (pas lv) = some (pas ts)) := Lib.hid (by unfold nextF; rw [show (pas lv).length = j from by have := HLV.out; simp [pas]; omega]; exact HN1.out)
      go_wp2_with fail
      exact bodyPost_ret (v := .tuple #[.slice A' ts.length c', .bool true]) (by simp [results, Tryd.results71, go_sem]) rfl (by unfold PredsS; rw [HNF.out]; exact ⟨⟨A', c', ts, rfl, hO1, rfl⟩, HZ.out⟩)
    obtain ⟨x, b, off, hxj, rfl, hbw, hlob, c0, c1, c2, hrow, _⟩ := (HO.out.below HZ.out).pick hlt
    have HPA : Hid (PartAt W0 b (off + j * 3) x.q x.p x.L x.xs.length x.a) := Lib.hid ⟨c0, c1, c2⟩
    have hxm : x.pa ∈ pas lv := List.mem_map.2 ⟨x, List.mem_of_getElem? hxj.out, rfl⟩
    have HOKX := Lib.hid (HOK.out _ hxm)
    have hlx : x.xs.length ≤ 1000 := by have h := HOKX.out.2; unfold Pm.pa at h; dsimp only at h; omega
    have HPR := Lib.hid (l26Predecessors_any g sy st B m k rs b (off + j * 3) x.q x.p x.L x.xs.length x.a x.xs W0 (HMA.out.below HZ.out) (HR.out.below HZ.out) HPA.out hrow.rd HM.out HOKX.out.1 hlx)
    have i0 : (0 : Int) ≤ (j : Int) := by omega
    have i1 : (j : Int) < (n : Int) := by omega
    have HT3 : Hid (ts.length ≤ 300) := Lib.hid (by
      have h1 := (nextTo_ok HM.out HOK.out (by have := HLV.out; simp [pas]; omega) HN1.out).2
      simpa [pas] using h1)
    have HGD : Hid ((pas lv).getD j ⟨0, 0, []⟩ = ⟨x.q, x.p, x.xs⟩) := Lib.hid (by rw [List.getD_eq_getElem?_getD]; simp [pas, hxj.out, Pm.pa])
    clear c0 c1 c2 hrow hxm
    cases hpf : predsF sy rs ⟨x.q, x.p, x.xs⟩ with
    | none =>
      have HNF : Hid (nextF sy rs (pas lv) = none) := Lib.hid (by
        have h2 : nextTo sy rs (pas lv) (j + 1) = none := by
          simp only [nextTo, HN1.out, Option.bind_some]
          rw [HGD.out, hpf]; rfl
        exact nextTo_none h2 _ (by have := HLV.out; simp [pas]; omega))
      rw [hpf] at HPR
      unfold PredsS at HPR
      clear hpf
      go_wp2_with (go_at_call 99; refine HPR.out.mono ?_; rintro e w5 ⟨rfl, z5⟩)
      exact bodyPost_ret (v := .tuple #[.slice none 0 0, .bool false]) (by simp [results, Tryd.results71, go_sem]) rfl (by unfold PredsS; rw [HNF.out]; exact ⟨rfl, HZ.out.trans (z5.mono HZ.out.size)⟩)
    | some l =>
      have HPF := Lib.hid hpf
      rw [hpf] at HPR
      unfold PredsS at HPR
      clear hpf
      have HVAL := Lib.hid (predsF_ok HM.out HOKX.out.1 HPF.out)
      have HNT0 : Hid (nextTo sy rs (pas lv) (j + 1) = if 300 < (l.foldl addNew (pas ts)).length then none else some (l.foldl addNew (pas ts))) := Lib.hid (by
        simp only [nextTo, HN1.out, Option.bind_some]
        rw [HGD.out, HPF.out]; rfl)
      go_upto_region 8 with (go_at_call 99; refine HPR.out.mono ?_; rintro e w5 ⟨⟨A5, c5, ts5, rfl, hO5, hp5⟩, z5⟩)
      have HTL : Hid ((pas ts5).length = ts5.length) := Lib.hid (by simp [pas])
      have hl5 : ts5.length ≤ 6000 := by
        obtain ⟨_, pm2, _, pm4, pm5, _⟩ := machB_parts HM.out
        have pm6 : (rs.length : Int) ≤ 6000 := by rw [pm5]; have h5 : st * sy ≤ 1000 * 6 := Int.mul_le_mul pm4 pm2 (by omega) (by omega); omega
        have h1 := HVAL.out.2; rw [← hp5, HTL.out] at h1; omega
      have HP5 := Lib.hid hp5
      have HO5 := Lib.hid hO5
      have HO1 := Lib.hid hO1
      have HZ5 := Lib.hid z5
      have O5h := Lib.hid (hO1.below z5)
      have HZW : Hid (Below w.heap.size w w5) := Lib.hid (HZ.out.trans (z5.mono HZ.out.size))
      clear hp5 hO5 z5 hO1 i0 i1
      go_wp2_with fail
      go_loopw [6, 10] (fun v i wr => ∃ (p : Nat) (A6 : Option Addr) (c6 : Nat) (us : List Pm), p ≤ ts5.length ∧ i = .int .i64 (p : Int) ∧ v = .slice A6 us.length c6 ∧ OPs wr w.heap.size A6 us.length c6 us ∧ Hid (pas us = ((pas ts5).take p).foldl addNew (pas ts)) ∧ Hid (∀ x, W0.heap.size ≤ x → x < w5.heap.size → wr.heap[x]? = w5.heap[x]?) ∧ Hid (∀ x, blk A6 = some x → x < W0.heap.size ∨ w5.heap.size ≤ x) ∧ Hid (AptFrom us ts5 p) ∧ Hid (w5.heap.size ≤ wr.heap.size) ∧ Hid (Below w.heap.size w wr)) (fun _ i _ => ts5.length - (intOf i).toNat)
      case atStart => exact ⟨0, A', c', ts, by omega, rfl, rfl, O5h.out, Lib.hid rfl, Lib.hid (fun _ _ _ => rfl), Lib.hid (fun x hx => .inl (HO1.out.spine.blk_lt x hx)), Lib.hid (AptFrom.start HO1.out HO5.out (Nat.le_refl _)), Lib.hid (Nat.le_refl _), HZW⟩
      case round =>
        obtain ⟨p, A6, c6, us, hp, rfl, rfl, hO6, HU6, HF6, HSp6, HAp6, HSz6, HZ6⟩ := hrel
        rename World => W6
        have HLU : Hid (us.length ≤ 6300) := Lib.hid (by
          have h1 := (foldl_addNew_len ((pas ts5).take p) (pas ts)).2
          rw [← HU6.out] at h1
          have h2 := HT3.out
          simp [pas] at h1
          omega)
        by_cases hlp : p < ts5.length
        rotate_left
        · obtain rfl : p = ts5.length := by omega
          have i1 : ¬ (ts5.length : Int) < (ts5.length : Int) := by omega
          have HU7 : Hid (pas us = l.foldl addNew (pas ts)) := Lib.hid (by rw [HU6.out, List.take_of_length_le (by rw [HTL.out]; exact Nat.le_refl _), HP5.out])
          have HNT : Hid (nextTo sy rs (pas lv) (j + 1) = if 300 < us.length then none else some (pas us)) := Lib.hid (by
            rw [HNT0.out, ← HU7.out, show (pas us).length = us.length from by simp [pas]])
          by_cases h300 : 300 < us.length
          · have j1 : (300 : Int) < (us.length : Int) := by omega
            have HNF : Hid (nextF sy rs (pas lv) = none) := Lib.hid (nextTo_none (by rw [HNT.out, if_pos h300]) _ (by have := HLV.out; simp [pas]; omega))
            go_wp2_with fail
            exact bodyPost_ret (v := .tuple #[.slice none 0 0, .bool false]) (by simp [results, Tryd.results71, go_sem]) rfl (by unfold PredsS; rw [HNF.out]; exact ⟨rfl, HZ6.out⟩)
          · have j1 : ¬ (300 : Int) < (us.length : Int) := by omega
            have HN2 : Hid (nextTo sy rs (pas lv) (j + 1) = some (pas us)) := Lib.hid (by rw [HNT.out, if_neg h300])
            go_wp2_with fail
            go_roundw
            case rel => exact ⟨j + 1, A6, c6, us, by omega, by go_num, rfl, hO6, HN2, HZ6⟩
            case measure => simp [intOf]; omega
        have hyp0 := (HO5.out.kept HF6.out).pick hlp
        obtain ⟨y, b', off', hyp, rfl, hb'w, hlob', d0, d1, d2, hrow5, _⟩ := hyp0
        have hokY := HVAL.out.1 y.pa (by rw [← HP5.out]; exact List.mem_map.2 ⟨y, List.mem_of_getElem? hyp.out, rfl⟩)
        have HYL : Hid (y.xs.length ≤ 1000) := Lib.hid (by have h := hokY.2; unfold Pm.pa at h; dsimp only at h; omega)
        have i0 : (0 : Int) ≤ (p : Int) := by omega
        have i1 : (p : Int) < (ts5.length : Int) := by omega
        have HNX : Hid (((pas ts5).take (p + 1)).foldl addNew (pas ts) = addNew (pas us) y.pa) := Lib.hid (by
          have h1 : (pas ts5)[p]? = some y.pa := by simp [pas, hyp.out]
          rw [List.take_add_one, h1, List.foldl_append, ← HU6.out]; rfl)
        have HPY : Hid (PartAt W6 b' (off' + p * 3) y.q y.p y.L y.xs.length y.a) := Lib.hid ⟨d0, d1, d2⟩
        have HRW := Lib.hid hrow5
        have HUX : Hid (∀ u ∈ us, u.xs.length ≤ 60) := Lib.hid (fun u hu => by
          have h1 : u.pa ∈ pas us := List.mem_map.2 ⟨u, hu, rfl⟩
          rw [HU6.out] at h1
          rcases foldl_addNew_mem _ _ h1 with h2 | h2
          · exact ((nextTo_ok HM.out HOK.out (by have := HLV.out; simp [pas]; omega) HN1.out).1 _ h2).2
          · exact (HVAL.out.1 _ (by rw [← HP5.out]; exact List.mem_of_mem_take h2)).2)
        have HO6 := Lib.hid hO6
        clear hokY hrow5 d0 d1 d2 hO6
        go_upto_region 12 with fail
        go_wp2_with fail
        go_loopw [11, 12] (fun v i wr => ∃ (t dd : Nat) (kb : Bool), t ≤ us.length ∧ i = .int .i64 (t : Int) ∧ v = .bool kb ∧ Hid (kb = decide (y.pa ∈ (pas us).take t)) ∧ Hid (wr = W6.drewN dd)) (fun _ i _ => us.length - (intOf i).toNat)
        case atStart => exact ⟨0, 0, false, Nat.zero_le _, rfl, rfl, Lib.hid (by simp), Lib.hid rfl⟩
        case round =>
          obtain ⟨t, dd, kb, ht, rfl, rfl, HK, HWR⟩ := hrel
          rename World => W7
          have hlu := HLU.out
          by_cases htl : t < us.length
          · have hpu := (show OPs W7 w.heap.size A6 us.length c6 us by rw [HWR.out]; exact HO6.out.drewN dd).pick htl
            have HPY7 : Hid (PartAt W7 b' (off' + p * 3) y.q y.p y.L y.xs.length y.a) := Lib.hid (by rw [HWR.out]; exact HPY.out)
            have HRW7 : Hid (SI W7 y.L y.xs.length y.xs) := Lib.hid (by rw [HWR.out]; exact HRW.out.rd)
            obtain ⟨u, b2, off2, hut, rfl, hb2w, hlob2, e0, e1, e2, hrow6, _⟩ := hpu
            have k0 : (0 : Int) ≤ (t : Int) := by omega
            have k1 : (t : Int) < (us.length : Int) := by omega
            have HKN : Hid (decide (y.pa ∈ (pas us).take (t + 1)) = (kb || samePa u.pa y.pa)) := Lib.hid (by rw [HK.out]; exact take_mem_next (by simp [pas, hut.out]))
            have HUL : Hid (u.xs.length ≤ 1048576) := Lib.hid (by have := HUX.out u (List.mem_of_getElem? hut.out); omega)
            have HSM := Lib.hid (fun d => l26Same_any b2 (off2 + t * 3) b' (off' + p * 3) u.q u.p y.q y.p u.L y.L u.xs.length u.a y.xs.length y.a u.xs y.xs (W7.drewN d) ⟨e0, e1, e2⟩ HPY7.out (hrow6.rd) HRW7.out HUL.out)
            clear e0 e1 e2 hrow6
            cases kb with
            | true =>
              go_upto_region 15 with fail
              go_quiet (fail)
              go_wp2_with fail
              go_roundw
              case rel => exact ⟨t + 1, dd + nq, true, by omega, by go_num, rfl, Lib.hid (by rw [HKN.out]; rfl), Lib.hid (by rw [HWR.out, World.drewN_drewN])⟩
              case measure => simp [intOf]; omega
            | false =>
              go_upto_region 15 with fail
              go_quiet ((go_at_call 100; exact quiet_1 (HSM.out _)))
              go_wp2_with fail
              go_roundw
              case rel => exact ⟨t + 1, dd + nq, samePa u.pa y.pa, by omega, by go_num, rfl, Lib.hid (by rw [HKN.out]; rfl), Lib.hid (by rw [HWR.out, World.drewN_drewN])⟩
              case measure => simp [intOf]; omega
          · obtain rfl : t = us.length := by omega
            have k1 : ¬ (us.length : Int) < (us.length : Int) := by omega
            have HKE : Hid (kb = decide (y.pa ∈ pas us)) := Lib.hid (by rw [HK.out, List.take_of_length_le (by simp [pas])])
            have hO7 : OPs W7 w.heap.size A6 us.length c6 us := by rw [HWR.out]; exact HO6.out.drewN dd
            have HF7 : Hid (∀ x, W0.heap.size ≤ x → x < w5.heap.size → W7.heap[x]? = w5.heap[x]?) := Lib.hid (by rw [HWR.out]; exact HF6.out)
            have HSz7 : Hid (w5.heap.size ≤ W7.heap.size) := Lib.hid (by rw [HWR.out]; exact HSz6.out)
            have HZ7 : Hid (Below w.heap.size w W7) := Lib.hid (by rw [HWR.out]; exact below_drewN HZ6.out dd)
            cases kb with
            | true =>
              have hin : y.pa ∈ pas us := by have := HKE.out; simpa using this.symm
              have HU8 : Hid (pas us = ((pas ts5).take (p + 1)).foldl addNew (pas ts)) := Lib.hid (by rw [HNX.out]; unfold addNew; rw [if_pos hin])
              have HAp8 := Lib.hid HAp6.out.skip
              clear hin
              go_wp2_with fail
              go_roundw
              case rel => exact ⟨p + 1, A6, c6, us, by omega, by go_num, rfl, hO7, HU8, HF7, HSp6, HAp8, HSz7, HZ7⟩
              case measure => simp [intOf]; omega
            | false =>
              have hin : ¬ y.pa ∈ pas us := by have := HKE.out; simpa using this.symm
              have HU8 : Hid (pas (us ++ [y]) = ((pas ts5).take (p + 1)).foldl addNew (pas ts)) := Lib.hid (by rw [HNX.out]; unfold addNew; rw [if_neg hin]; simp [pas])
              have hApt := HAp6.out.now hyp.out
              have HAp9 : Hid (AptFrom (us ++ [y]) ts5 (p + 1)) := Lib.hid (HAp6.out.next hyp.out HO5.out.apt)
              have hrow7 : Own W7 W0.heap.size 2 1 y.L y.xs.length y.a (ints y.xs) := by rw [HWR.out]; exact HRW.out.drewN dd
              obtain ⟨e0, e1, e2⟩ : PartAt W7 b' (off' + p * 3) y.q y.p y.L y.xs.length y.a := by rw [HWR.out]; exact HPY.out
              have hOa := hO7.alloc (.cells #[.int .i64 y.q, .int .i64 y.p, .slice y.L y.xs.length y.a] 58)
              have hwa := hrow7.alloc (.cells #[.int .i64 y.q, .int .i64 y.p, .slice y.L y.xs.length y.a] 58)
              have HSW0 : Hid (w.heap.size ≤ W0.heap.size) := Lib.hid HZ.out.size
              clear hin hrow7
              go_upto_region 17 with fail
              go_wp2_with (at_builtin; refine wpList_append_Own rfl (.tmp 54) (.tmp 59) rfl elPart (lo := w.heap.size) rfl hOa.spine rfl (Pm.new W7 y) (fun u hu => Pm.one [y] u (by simpa using hu)) (by omega) (by simp only [maxLen]; omega) (by have := HZ7.out.size; simp; omega) ?_; intro Ax cx wx ox hgx hwx)
              have hlen : (us ++ [y]).length = us.length + 1 := by simp
              have hOs : OPs wx w.heap.size Ax (us.length + 1) cx (us ++ [y]) := OPs.add hOa ox hgx (hwa.mono HSW0.out) hApt
              have HFx : Hid (∀ x, W0.heap.size ≤ x → x < w5.heap.size → wx.heap[x]? = w5.heap[x]?) := Lib.hid (fun x h1 h2 => by
                have h3 := HF7.out x h1 h2
                have h4 := Below.heap_alloc W7 (.cells #[.int .i64 y.q, .int .i64 y.p, .slice y.L y.xs.length y.a] 58) x (by have := HSz7.out; omega)
                exact (hgx.block x (by have := HSz7.out; simp; omega) (fun e => by have := HSp6.out _ e.symm; omega)).trans (h4.trans h3))
              have HSpx : Hid (∀ x, blk Ax = some x → x < W0.heap.size ∨ w5.heap.size ≤ x) := Lib.hid (fun x hx => by
                rcases hwx.1 with h | h
                · rw [h] at hx; exact HSp6.out x hx
                · rw [h] at hx; have h9 := Option.some.inj hx; have := HSz7.out; simp at h9; omega)
              have HSzx : Hid (w5.heap.size ≤ wx.heap.size) := Lib.hid (by have h1 := hgx.size; have := HSz7.out; simp at h1; omega)
              have HZx : Hid (Below w.heap.size w wx) := Lib.hid (Own.below_of hOa.spine (HZ7.out.alloc HZ7.out.size _) hgx (by have := HZ7.out.size; simp; omega))
              exact ⟨⟨p + 1, Ax, cx, us ++ [y], by omega, by go_num, by rw [hlen], by rw [hlen]; exact hOs, HU8, HFx, HSpx, HAp9, HSzx, HZx⟩, by simp [intOf]; omega⟩
end Go.Proofs.YtokglpdlhacnaaaDoor
