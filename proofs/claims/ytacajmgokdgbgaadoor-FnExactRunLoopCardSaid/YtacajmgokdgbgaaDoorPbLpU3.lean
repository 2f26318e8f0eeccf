/-
  The program's do$1: one command with its body.
-/
import Derived.Test.YtacajmgokdgbgaaDoorPbLpU2
import Derived.Recover
import Derived.LaidEql
namespace Go.Proofs.YtacajmgokdgbgaaDoor
open Go.RowKit

/-- One command with its body f. -/
def oneLp (r : R3) (f : Ls → Except Int Ls) (s : Ls) : Except Int Ls :=
  (stepLs s).bind fun s =>
    if r.a = 3 then timesLs f (s.vs.getD r.b.toNat 0).toNat s
    else if r.a = 4 then againLs f r.b.toNat (s.left + 1) s
    else simpleLs r s
/-- The steps that are left, for a loop's measure. -/
def ipM (g : Nat) (W : World) : Nat :=
  match W.cell? ⟨g, 1, none⟩ with
  | some (.int _ v) => v.toNat
  | _ => 0
theorem LpI.ipM {w0 W : World} {g : Nat} {A : Option Addr} {c : Nat} {s : Ls} (h : LpI w0 g A c s W) : ipM g W = s.left := by
  have h1 : W.cell? ⟨g, 1, none⟩ = some (.int .i64 (s.left : Int)) := h.box.cell 1
  unfold Go.Proofs.YtacajmgokdgbgaaDoor.ipM
  rw [h1]; rfl
set_option maxRecDepth 100000 in
set_option maxHeartbeats 8000000 in
theorem do1_any (w0 : World) (a0 a1 : Addr) (g pb : Nat) (A : Option Addr) (c : Nat) (r : R3) (B : Option Addr) (n cB : Nat) (f : Ls → Except Int Ls) (s : Ls) (W : World) (he : ErrsW w0 a0 a1) (h : LpI w0 g A c s W) (hp : Blk W pb 100 #[.pointer (some ⟨g, 0, none⟩)])
    (hr0 : 0 ≤ r.a ∧ r.a ≤ 4) (hr1 : 0 ≤ r.b ∧ r.b ≤ 15) (hr2 : r.a = 2 → 0 ≤ r.c ∧ r.c ≤ 15) (hfl : ∀ s s', f s = .ok s' → s'.left ≤ s.left)
    (hrec : ∀ s W, LpI w0 g A c s W → Calls Tryd.prog 67 #[.pointer (some ⟨g, 0, none⟩), .slice B n cB] W (LpR w0 a0 a1 g A c (f s) W)) :
    Calls Tryd.prog 94 #[.agg #[.int .i64 r.a, .int .i64 r.b, .int .i64 r.c], .slice B n cB, .pointer (some ⟨pb, 0, none⟩)] W (LpR w0 a0 a1 g A c (oneLp r f s) W) := by
  have HSTEP := Lib.hid (fun s W h => stepI_any w0 a0 a1 g A c s W he h)
  have HREC := Lib.hid hrec
  have HFL := Lib.hid hfl
  have HE := Lib.hid he
  clear hrec hfl he
  obtain ⟨W1, hW_⟩ : ∃ W_, W_ = W.alloc (.cells #[.int .i64 r.a, .int .i64 r.b, .int .i64 r.c] 64) := ⟨_, rfl⟩
  have b1 : Blk W1 W.heap.size 64 #[.int .i64 r.a, .int .i64 r.b, .int .i64 r.c] := by rw [hW_]; exact Blk.new W _ _
  have z1 : Below W.heap.size W W1 := by rw [hW_]; exact (Below.refl _ _).alloc (Nat.le_refl _) _
  have HW1 := Lib.hid hW_
  clear hW_
  have h1 := h.below z1
  have hp1 := hp.below' z1
  have k1 : KI g A W W1 := KI.of_below z1
  have p0 : W1.cell? ⟨pb, 0, none⟩ = some (.pointer (some ⟨g, 0, none⟩)) := hp1.cell 0
  have hpg : pb ≠ g := by
    rintro rfl
    have := Eq.trans (Eq.symm hp) h.box
    simp at this
  have hpA : blk A ≠ some pb := hp.apt h.vars (by decide)
  go_enter Tryd.func94, Tryd.ntmps94
  go_upto_region 1 with fail
  rw [← HW1.out]
  go_wp2_with fail
  refine (HSTEP.out s W1 h1).mono ?_
  intro e W2 hR
  by_cases h0 : s.left = 0
  · rw [stepLs_err h0] at hR
    obtain ⟨rfl, h5, k2⟩ := hR
    have hO : oneLp r f s = .error 5 := by unfold oneLp; rw [stepLs_err h0]; rfl
    rw [hO]
    exact ⟨rfl, rfl, h5, k1.trans k2⟩
  rw [stepLs_ok h0] at hR
  obtain ⟨⟨u, rfl⟩, h2, k2⟩ := hR
  obtain ⟨s2, hs2⟩ : ∃ s2 : Ls, s2 = ⟨s.vs, s.left - 1⟩ := ⟨_, rfl⟩
  rw [← hs2] at h2
  have HO : Hid (oneLp r f s = if r.a = 3 then timesLs f (s2.vs.getD r.b.toNat 0).toNat s2 else if r.a = 4 then againLs f r.b.toNat (s2.left + 1) s2 else simpleLs r s2) := Lib.hid (by unfold oneLp; rw [stepLs_ok h0, hs2]; rfl)
  have hxg : W.heap.size ≠ g := by have := h.box.lt; omega
  have hxA : blk A ≠ some W.heap.size := fun e => by have := h.vars.blk_lt _ e; omega
  have b2 : Blk W2 W.heap.size 64 #[.int .i64 r.a, .int .i64 r.b, .int .i64 r.c] := k2.keep b1 hxg hxA
  have hp2 := k2.keep hp1 hpg hpA
  have k3 := k1.trans k2
  clear h0 hs2 h1 k1 k2 p0 z1 HW1 hp1 b1 h hp
  generalize W.heap.size = xb at *
  obtain ⟨kb, hkb⟩ : ∃ kb : Nat, r.b = (kb : Int) := ⟨r.b.toNat, by omega⟩
  have hkb16 : kb < 16 := by omega
  obtain ⟨ab, ao, rfl, hlo, hgb, y0, z0⟩ := h2.at_ hkb16
  obtain ⟨v, hv⟩ : ∃ v, s2.vs.getD kb 0 = v := ⟨_, rfl⟩
  have hv2 := getD_ok h2.rng kb
  rw [hv] at y0 hv2
  have p0 : W2.cell? ⟨pb, 0, none⟩ = some (.pointer (some ⟨g, 0, none⟩)) := hp2.cell 0
  have g0 : W2.cell? ⟨g, 0, none⟩ = some (.slice (some ⟨ab, ao, none⟩) 16 c) := h2.box.cell 0
  have j1 : (0 : Int) ≤ (kb : Int) := by omega
  have j2 : (kb : Int) < 16 := by omega
  have x0 : W2.cell? ⟨xb, 0, none⟩ = some (.int .i64 r.a) := b2.cell 0
  have x1 : W2.cell? ⟨xb, 1, none⟩ = some (.int .i64 r.b) := b2.cell 1
  have x2 : W2.cell? ⟨xb, 2, none⟩ = some (.int .i64 r.c) := b2.cell 2
  have HKB := Lib.hid hkb
  rw [hkb] at x1
  have HO2 : Hid (oneLp r f s = if r.a = 3 then timesLs f v.toNat s2 else if r.a = 4 then againLs f kb (s2.left + 1) s2 else simpleLs r s2) := Lib.hid (by rw [HO.out, hkb, Int.toNat_natCast, hv])
  clear hkb HO
  have hcase : r.a = 0 ∨ r.a = 1 ∨ r.a = 2 ∨ r.a = 3 ∨ r.a = 4 := by omega
  rcases hcase with ha | ha | ha | ha | ha
  · have HS : Hid (oneLp r f s = .ok ⟨s2.vs.set kb 0, s2.left⟩) := Lib.hid (by rw [HO2.out, if_neg (by omega), if_neg (by omega)]; unfold simpleLs; rw [if_pos ha, HKB.out]; rfl)
    have HP := Lib.hid (h2.put hkb16 hlo 0 (by decide))
    rw [ha] at x0
    clear ha hr2 hv
    go_wp2_with fail
    go_region
    go_wp2_with fail
    rw [HS.out]
    exact bodyPost_end (results_none rfl _ _ _) rfl ⟨⟨_, rfl⟩, HP.out.1.below (below_drewN (Below.refl _ _) _), k3.trans (HP.out.2.trans (KI.of_below (below_drewN (Below.refl _ _) _)))⟩
  · have hd0 : (r.a == 0) = false := by simp; omega
    have w1 : IntKind.i64.wrap (v + 1) = v + 1 := IntWalk.i64_in _ (by omega)
    rw [ha] at x0
    by_cases hv6 : v = 1000000
    · have HS : Hid (oneLp r f s = .error 6) := Lib.hid (by rw [HO2.out, if_neg (by omega), if_neg (by omega)]; unfold simpleLs; rw [if_neg (by omega), if_pos ha, HKB.out, Int.toNat_natCast, hv, if_pos hv6])
      have e0 := (HE.out.below h2.low).v0
      have hd1 : (v == 1000000) = true := by simpa using hv6
      clear ha hr2 hv hv6
      go_wp2_with fail
      go_quiet (fail)
      go_wp2_with fail
      rw [HS.out]
      exact ⟨rfl, rfl, .inr rfl, k3.trans (KI.of_below (below_drewN (Below.refl _ _) _))⟩
    · have HS : Hid (oneLp r f s = .ok ⟨s2.vs.set kb (v + 1), s2.left⟩) := Lib.hid (by rw [HO2.out, if_neg (by omega), if_neg (by omega)]; unfold simpleLs; rw [if_neg (by omega), if_pos ha, HKB.out, Int.toNat_natCast, hv, if_neg hv6])
      have HP := Lib.hid (fun q => (h2.below (below_drewN (Below.refl W2.heap.size W2) q)).put hkb16 hlo (v + 1) (by omega))
      have hd1 : (v == 1000000) = false := by simpa using hv6
      have KQ := Lib.hid (fun q => k3.trans (KI.of_below (below_drewN (Below.refl W2.heap.size W2) q)))
      clear ha hr2 hv hv6
      go_wp2_with fail
      go_quiet (fail)
      go_wp2_with fail
      go_region
      go_wp2_with fail
      rw [HS.out]
      exact bodyPost_end (results_none rfl _ _ _) rfl ⟨⟨_, rfl⟩, (HP.out (nq + 1)).1, (KQ.out (nq + 1)).trans (HP.out (nq + 1)).2⟩
  · obtain ⟨m, hm⟩ : ∃ m : Nat, r.c = (m : Int) := ⟨r.c.toNat, by have := hr2 ha; omega⟩
    have hm2 : m < 16 := by have := hr2 ha; omega
    obtain ⟨b2', off2, hee, _, _, y1, _⟩ := h2.at_ (k := m) hm2
    obtain ⟨rfl, rfl⟩ : b2' = ab ∧ off2 = ao := by simp only [Option.some.injEq, Addr.mk.injEq, and_true] at hee; exact ⟨hee.1.symm, hee.2.symm⟩
    clear hee
    obtain ⟨u2, hu⟩ : ∃ u, s2.vs.getD m 0 = u := ⟨_, rfl⟩
    have hu2 := getD_ok h2.rng m
    rw [hu] at y1 hu2
    have m1 : (0 : Int) ≤ (m : Int) := by omega
    have m2 : (m : Int) < 16 := by omega
    have hd0 : (r.a == 0) = false := by simp; omega
    have hd1 : (r.a == 1) = false := by simp; omega
    rw [hm] at x2
    have HS : Hid (oneLp r f s = .ok ⟨s2.vs.set kb u2, s2.left⟩) := Lib.hid (by rw [HO2.out, if_neg (by omega), if_neg (by omega)]; unfold simpleLs; rw [if_neg (by omega), if_neg (by omega), HKB.out, hm]; show Except.ok (Ls.mk (s2.vs.set kb (s2.vs.getD m 0)) s2.left) = _; rw [hu])
    have HP := Lib.hid (h2.put hkb16 hlo u2 hu2)
    rw [ha] at x0
    clear ha hr2 hv hu hm
    go_wp2_with fail
    go_region
    go_wp2_with fail
    rw [HS.out]
    exact bodyPost_end (results_none rfl _ _ _) rfl ⟨⟨_, rfl⟩, HP.out.1.below (below_drewN (Below.refl _ _) _), k3.trans (HP.out.2.trans (KI.of_below (below_drewN (Below.refl _ _) _)))⟩
  · have hd0 : (r.a == 0) = false := by simp; omega
    have hd1 : (r.a == 1) = false := by simp; omega
    have hd2 : (r.a == 2) = false := by simp; omega
    obtain ⟨M, hM⟩ : ∃ M : Nat, v = (M : Int) := ⟨v.toNat, by omega⟩
    have HS : Hid (oneLp r f s = timesLs f M s2) := Lib.hid (by rw [HO2.out, if_pos ha, hM, Int.toNat_natCast])
    rw [hM] at y0 hv2
    rw [ha] at x0
    clear ha hr2 hv hM
    go_wp2_with fail
    go_quiet (fail)
    go_wp2_with fail
    have k4 := k3.trans (KI.of_below (below_drewN (Below.refl W2.heap.size W2) nq))
    have h4 := h2.below (below_drewN (Below.refl W2.heap.size W2) nq)
    have hp4 := hp2.drewN nq
    clear x0 x1 x2 y0 z0 p0 g0
    go_loopw [81] (fun s81 wr => ∃ (k : Nat) (s' : Ls), k ≤ M ∧ s81 = .int .i64 (k : Int) ∧ Hid (oneLp r f s = timesLs f (M - k) s') ∧ LpI w0 g (some ⟨ab, ao, none⟩) c s' wr ∧ KI g (some ⟨ab, ao, none⟩) W wr ∧ Blk wr pb 100 #[.pointer (some ⟨g, 0, none⟩)]) (fun s81 _ => M - (intOf s81).toNat)
    case atStart => exact ⟨0, s2, Nat.zero_le _, rfl, HS, h4, k4, hp4⟩
    case round =>
      clear h4 k4 hp4 h2 hp2 b2 k3
      obtain ⟨k, s', hk, rfl, HSX, hI, hkk, hpp⟩ := hrel
      have p0 : wr.cell? ⟨pb, 0, none⟩ = some (.pointer (some ⟨g, 0, none⟩)) := hpp.cell 0
      by_cases hlt : k < M
      · have hl2 : (k : Int) < (M : Int) := by omega
        obtain ⟨j, hj⟩ : ∃ j, M - k = j + 1 := ⟨M - k - 1, by omega⟩
        go_wp2_with fail
        refine (HSTEP.out s' wr hI).mono ?_
        intro e W3 hR
        by_cases h0 : s'.left = 0
        · rw [stepLs_err h0] at hR
          obtain ⟨rfl, h5, k5⟩ := hR
          have HFIN : LpR w0 a0 a1 g (some ⟨ab, ao, none⟩) c (oneLp r f s) W (.panicked [{ v := errV (if (5 : Int) = 6 then a0 else a1), recovered := false }]) W3 := by
            rw [HSX.out, hj, timesLs, stepLs_err h0]
            exact ⟨rfl, h5, hkk.trans k5⟩
          exact ⟨rfl, HFIN⟩
        rw [stepLs_ok h0] at hR
        obtain ⟨⟨u, rfl⟩, h5, k5⟩ := hR
        have HSY : Hid (oneLp r f s = (f ⟨s'.vs, s'.left - 1⟩).bind (timesLs f j)) := Lib.hid (by rw [HSX.out, hj, timesLs, stepLs_ok h0]; rfl)
        have hpp2 := k5.keep hpp hpg hpA
        have p1 : W3.cell? ⟨pb, 0, none⟩ = some (.pointer (some ⟨g, 0, none⟩)) := hpp2.cell 0
        clear h0 p0
        go_wp2_with fail
        refine (HREC.out _ W3 h5).mono ?_
        intro e W4 hR4
        cases hf : f ⟨s'.vs, s'.left - 1⟩ with
        | error q =>
          rw [hf] at hR4
          obtain ⟨rfl, h6, k6⟩ := hR4
          have HFIN : LpR w0 a0 a1 g (some ⟨ab, ao, none⟩) c (oneLp r f s) W (.panicked [{ v := errV (if q = 6 then a0 else a1), recovered := false }]) W4 := by
            rw [HSY.out, hf]
            exact ⟨rfl, h6, hkk.trans (k5.trans k6)⟩
          exact ⟨rfl, HFIN⟩
        | ok s3 =>
          rw [hf] at hR4
          obtain ⟨⟨u, rfl⟩, h6, k6⟩ := hR4
          have HSZ : Hid (oneLp r f s = timesLs f (M - (k + 1)) s3) := Lib.hid (by rw [HSY.out, hf, show M - (k + 1) = j by omega]; rfl)
          have hpp3 := k6.keep hpp2 hpg hpA
          have w1 : IntKind.i64.wrap ((k : Int) + 1) = ((k + 1 : Nat) : Int) := by rw [show ((k : Int) + 1) = ((k + 1 : Nat) : Int) by omega]; exact IntWalk.i64_in _ (by omega)
          clear hf p1 hj
          go_wp2_with fail
          exact ⟨⟨k + 1, s3, by omega, by go_num, HSZ, h6, hkk.trans (k5.trans k6), hpp3⟩, by simp [intOf]; omega⟩
      · have hl2 : ¬ (k : Int) < (M : Int) := by omega
        have HSZ : Hid (oneLp r f s = .ok s') := Lib.hid (by rw [HSX.out, show M - k = 0 by omega]; rfl)
        go_wp2_with fail
        rw [HSZ.out]
        exact bodyPost_end (results_none rfl _ _ _) rfl ⟨⟨_, rfl⟩, hI, hkk⟩
  · have hd0 : (r.a == 0) = false := by simp; omega
    have hd1 : (r.a == 1) = false := by simp; omega
    have hd2 : (r.a == 2) = false := by simp; omega
    have hd3 : (r.a == 3) = false := by simp; omega
    have HS : Hid (oneLp r f s = againLs f kb (s2.left + 1) s2) := Lib.hid (by rw [HO2.out, if_neg (by omega), if_pos ha])
    have HB2 := Lib.hid b2
    rw [ha] at x0
    clear ha hr2 hv
    go_wp2_with fail
    clear x0 x1 x2 y0 z0 p0 g0
    go_loopw [] (fun wr => ∃ (m : Nat) (s' : Ls), s'.left < m ∧ Hid (oneLp r f s = againLs f kb m s') ∧ LpI w0 g (some ⟨ab, ao, none⟩) c s' wr ∧ KI g (some ⟨ab, ao, none⟩) W wr ∧ Blk wr pb 100 #[.pointer (some ⟨g, 0, none⟩)] ∧ Blk wr xb 64 #[.int .i64 r.a, .int .i64 r.b, .int .i64 r.c]) (fun wr => ipM g wr)
    case atStart => exact ⟨_, s2, Nat.lt_succ_self _, HS, h2, k3, hp2, b2⟩
    case round =>
      clear h2 hp2 b2 k3
      obtain ⟨m, s', hm, HSX, hI, hkk, hpp, bx⟩ := hrel
      obtain ⟨j, rfl⟩ : ∃ j, m = j + 1 := ⟨m - 1, by omega⟩
      have p0 : wr.cell? ⟨pb, 0, none⟩ = some (.pointer (some ⟨g, 0, none⟩)) := hpp.cell 0
      have g0 : wr.cell? ⟨g, 0, none⟩ = some (.slice (some ⟨ab, ao, none⟩) 16 c) := hI.box.cell 0
      have x1 : wr.cell? ⟨xb, 1, none⟩ = some (.int .i64 kb) := by rw [← HKB.out]; exact bx.cell 1
      obtain ⟨ab', ao', hee, _, _, y0, _⟩ := hI.at_ hkb16
      obtain ⟨rfl, rfl⟩ : ab = ab' ∧ ao = ao' := by simp only [Option.some.injEq, Addr.mk.injEq, and_true] at hee; exact hee
      clear hee
      obtain ⟨v', hv'⟩ : ∃ v, s'.vs.getD kb 0 = v := ⟨_, rfl⟩
      rw [hv'] at y0
      by_cases hz : v' = 0
      · have HSZ : Hid (oneLp r f s = .ok s') := Lib.hid (by rw [HSX.out, againLs, if_pos (hv'.trans hz)])
        have hd5 : (v' != 0) = false := by simpa using hz
        clear hz hv'
        go_wp2_with fail
        go_quiet (fail)
        go_wp2_with fail
        rw [HSZ.out]
        exact bodyPost_end (results_none rfl _ _ _) rfl ⟨⟨_, rfl⟩, hI.below (below_drewN (Below.refl _ _) _), hkk.trans (KI.of_below (below_drewN (Below.refl _ _) _))⟩
      have HSY : Hid (oneLp r f s = (f s').bind fun s => (stepLs s).bind (againLs f kb j)) := Lib.hid (by rw [HSX.out, againLs, if_neg (by rw [hv']; exact hz)])
      have hd5 : (v' != 0) = true := by simpa using hz
      clear hz hv'
      go_wp2_with fail
      go_quiet (fail)
      have hI2 := hI.below (below_drewN (Below.refl wr.heap.size wr) nq)
      have hk2 := hkk.trans (KI.of_below (below_drewN (Below.refl wr.heap.size wr) nq))
      have hpp2 := hpp.drewN nq
      have bx2 := bx.drewN nq
      have p1 : (wr.drewN nq).cell? ⟨pb, 0, none⟩ = some (.pointer (some ⟨g, 0, none⟩)) := hpp2.cell 0
      clear p0 g0 x1 y0
      generalize hWq : wr.drewN nq = Wq at *
      clear hWq
      go_wp2_with fail
      refine (HREC.out s' Wq hI2).mono ?_
      intro e W4 hR4
      cases hf : f s' with
      | error q =>
        rw [hf] at hR4
        obtain ⟨rfl, h6, k6⟩ := hR4
        have HFIN : LpR w0 a0 a1 g (some ⟨ab, ao, none⟩) c (oneLp r f s) W (.panicked [{ v := errV (if q = 6 then a0 else a1), recovered := false }]) W4 := by
          rw [HSY.out, hf]
          exact ⟨rfl, h6, hk2.trans k6⟩
        exact ⟨rfl, HFIN⟩
      | ok s3 =>
        rw [hf] at hR4
        obtain ⟨⟨u, rfl⟩, h6, k6⟩ := hR4
        have hl3 := HFL.out _ _ hf
        have hpp3 := k6.keep hpp2 hpg hpA
        have bx3 := k6.keep bx2 hxg hxA
        have p2 : W4.cell? ⟨pb, 0, none⟩ = some (.pointer (some ⟨g, 0, none⟩)) := hpp3.cell 0
        clear p1
        go_wp2_with fail
        refine (HSTEP.out s3 W4 h6).mono ?_
        intro e W5 hR5
        by_cases h0 : s3.left = 0
        · rw [stepLs_err h0] at hR5
          obtain ⟨rfl, h7, k7⟩ := hR5
          have HFIN : LpR w0 a0 a1 g (some ⟨ab, ao, none⟩) c (oneLp r f s) W (.panicked [{ v := errV (if (5 : Int) = 6 then a0 else a1), recovered := false }]) W5 := by
            rw [HSY.out, hf]
            show LpR _ _ _ _ _ _ ((stepLs s3).bind _) _ _ _
            rw [stepLs_err h0]
            exact ⟨rfl, h7, hk2.trans (k6.trans k7)⟩
          exact ⟨rfl, HFIN⟩
        rw [stepLs_ok h0] at hR5
        obtain ⟨⟨u, rfl⟩, h7, k7⟩ := hR5
        have HSZ : Hid (oneLp r f s = againLs f kb j ⟨s3.vs, s3.left - 1⟩) := Lib.hid (by rw [HSY.out, hf]; simp only [Except.bind, stepLs_ok h0])
        have HM : Hid (ipM g W5 < ipM g wr) := Lib.hid (by rw [h7.ipM, hI.ipM]; dsimp only; omega)
        have HF5 : Hid (s3.left - 1 < j) := Lib.hid (by omega)
        have hpp4 := k7.keep hpp3 hpg hpA
        have bx4 := k7.keep bx3 hxg hxA
        clear h0 hf p2
        go_wp2_with fail
        exact ⟨⟨j, _, HF5.out, HSZ, h7, hk2.trans (k6.trans k7), hpp4, bx4⟩, HM.out⟩
end Go.Proofs.YtacajmgokdgbgaaDoor

/-
  The program's bodies: commands one behind another.
-/
namespace Go.Proofs.YtacajmgokdgbgaaDoor
open Go.RowKit

theorem runLp_one {x : R3} {t : List R3} (s : Ls) : runLp (x :: t) s = (oneLp x (fun s => runLp (t.take (if isLoopB x then x.c.toNat else 0)) s) s).bind fun s => runLp (t.drop (if isLoopB x then x.c.toNat else 0)) s := by
  rw [runLp_cons]
  unfold oneLp
  cases stepLs s with
  | error k => rfl
  | ok s2 =>
    show _ = Except.bind (if _ then _ else _) _
    simp only [Except.bind]
    by_cases h3 : x.a = 3
    · have : isLoopB x = true := (isLoopB_iff x).2 (.inl h3)
      rw [if_pos h3, if_pos h3, if_pos this]
    · rw [if_neg h3, if_neg h3]
      by_cases h4 : x.a = 4
      · have : isLoopB x = true := (isLoopB_iff x).2 (.inr h4)
        rw [if_pos h4, if_pos h4, if_pos this]
      · have : isLoopB x = false := bool_false (isLoopB_iff x) (by omega)
        rw [if_neg h4, if_neg h4, this]
        simp
set_option maxRecDepth 100000 in
set_option maxHeartbeats 8000000 in
theorem bodiesI_any (w0 : World) (a0 a1 : Addr) (g pb : Nat) (A : Option Addr) (c : Nat) (B : Option Addr) (n cB : Nat) (rs : List R3) (d : Nat) (he : ErrsW w0 a0 a1) (hx : S3 w0 B n rs) (hn : n ≤ 1048576) (hnc : n ≤ cB) (hv : validLp rs d = true)
    (hdo : ∀ (m : Nat) (B' : Option Addr) (c' : Nat) (us : List R3) (d' : Nat) (s : Ls) (W : World), m < n → S3 w0 B' m us → m ≤ c' → validLp us d' = true → LpI w0 g A c s W → Calls Tryd.prog 67 #[.pointer (some ⟨g, 0, none⟩), .slice B' m c'] W (LpR w0 a0 a1 g A c (runLp us s) W))
    (hpg : pb ≠ g) (hpA : blk A ≠ some pb) (s : Ls) (W : World) (h : LpI w0 g A c s W) (hp : Blk W pb 100 #[.pointer (some ⟨g, 0, none⟩)]) :
    Calls Tryd.prog 93 #[.slice B n cB, .func (.func 94) #[] #[.pointer (some ⟨pb, 0, none⟩)]] W (LpR w0 a0 a1 g A c (runLp rs s) W) := by
  have HL := Lib.hid hx.len
  have HX := Lib.hid hx
  have HDO := Lib.hid hdo
  have HE := Lib.hid he
  have hsa : segL rs 0 n = rs := by rw [← HL.out]; exact segL_all rs
  have HV0 : Hid (validLp (segL rs 0 n) d = true) := Lib.hid (by rw [hsa]; exact hv)
  have HR0 : Hid (runLp rs s = runLp (segL rs 0 n) s) := Lib.hid (by rw [hsa])
  clear hdo he hx hsa hv
  go_enter Tryd.func93, Tryd.ntmps93
  go_wp2_with fail
  go_loopw [4] (fun s4 wr => ∃ (t : Nat) (s1 : Ls), t ≤ n ∧ s4 = .int .i64 (t : Int) ∧ Hid (validLp (segL rs t n) d = true) ∧ Hid (runLp rs s = runLp (segL rs t n) s1) ∧ LpI w0 g A c s1 wr ∧ KI g A W wr ∧ Blk wr pb 100 #[.pointer (some ⟨g, 0, none⟩)]) (fun s4 _ => n - (intOf s4).toNat)
  case atStart => exact ⟨0, s, Nat.zero_le _, rfl, HV0, HR0, h, KI.refl _ _ _, hp⟩
  case round =>
    clear h hp
    obtain ⟨t, s1, htj, rfl, HV, HR, hI, hk, hpp⟩ := hrel
    by_cases hlt : t < n
    rotate_left
    · have hl2 : ¬ (t : Int) < (n : Int) := by omega
      have HE2 : Hid (runLp rs s = .ok s1) := Lib.hid (by rw [HR.out, segL_nil (by omega), runLp_nil])
      go_wp2_with fail
      rw [HE2.out]
      exact bodyPost_end (results_none rfl _ _ _) rfl ⟨⟨_, rfl⟩, hI, hk⟩
    have hl2 : (t : Int) < (n : Int) := by omega
    obtain ⟨r, b, off, HRr, hrm, rfl, hbl, q0, q1, q2⟩ := (HX.out.below hI.low).pick (k := t) hlt
    have HSC := Lib.hid (segL_cons hlt HRr.out)
    clear hrm
    have i1 : (0 : Int) ≤ (t : Int) := by omega
    obtain ⟨t1, ht1⟩ : ∃ t1 : Nat, t1 = t + 1 := ⟨_, rfl⟩
    have HVB : Hid (inB r.b 0 15 = true) := by
      cases h : inB r.b 0 15 with
      | true => exact Lib.hid rfl
      | false => have := HV.out; rw [HSC.out, validLp_var h] at this; cases this
    have hrb := (inB_iff _ _ _).1 HVB.out
    -- the empty slice
    obtain ⟨W1, hW_⟩ : ∃ W_, W_ = wr.alloc (.cells #[] 64) := ⟨_, rfl⟩
    have b1 : Blk W1 wr.heap.size 64 #[] := by rw [hW_]; exact Blk.new wr _ _
    have z1 : Below wr.heap.size wr W1 := by rw [hW_]; exact (Below.refl _ _).alloc (Nat.le_refl _) _
    have HW1 := Lib.hid hW_
    clear hW_
    have hI1 := hI.below z1
    have hpp1 := hpp.below' z1
    have k1 : KI g A W W1 := hk.trans (KI.of_below z1)
    have HIL := Lib.hid (isLoop_any r.a r.b r.c W1)
    have HQ : Hid (∀ W2, Below W1.heap.size W1 W2 → W2.cell? ⟨b, off + t * 3, none⟩ = some (.int .i64 r.a) ∧ W2.cell? ⟨b, off + t * 3 + 1, none⟩ = some (.int .i64 r.b) ∧ W2.cell? ⟨b, off + t * 3 + 2, none⟩ = some (.int .i64 r.c)) := Lib.hid (fun W2 z => by
      have zz : Below wr.heap.size wr W2 := z1.trans (z.mono z1.size)
      exact ⟨(zz.cell (p := ⟨b, off + t * 3, none⟩) hbl).trans q0, (zz.cell (p := ⟨b, off + t * 3 + 1, none⟩) hbl).trans q1, (zz.cell (p := ⟨b, off + t * 3 + 2, none⟩) hbl).trans q2⟩)
    have hbl1 : b < W1.heap.size := by have := z1.size; omega
    clear q0 q1 q2
    obtain ⟨q0, q1, q2⟩ := HQ.out W1 (Below.refl _ _)
    by_cases hf : r.a = 3 ∨ r.a = 4
    · have HLP := Lib.hid ((isLoopB_iff r).2 hf)
      have HVL := HV.out
      rw [HSC.out, validLp_loop HLP.out] at HVL
      simp only [Bool.and_eq_true, decide_eq_true_eq] at HVL
      obtain ⟨_, ⟨⟨hd7, hin⟩, hvb⟩, hvr⟩ := HVL
      have hin2 := (inB_iff _ _ _).1 hin
      rw [segL_len (by rw [HL.out]; exact Nat.le_refl _)] at hin2
      obtain ⟨m, hm⟩ : ∃ m : Nat, r.c = (m : Int) := ⟨r.c.toNat, by omega⟩
      obtain ⟨e1, he1⟩ : ∃ e1 : Nat, e1 = t1 + m := ⟨_, rfl⟩
      rw [hm, Int.toNat_natCast, segL_take (by omega), ← ht1, ← he1] at hvb
      rw [hm, Int.toNat_natCast, segL_drop, ← ht1, ← he1] at hvr
      have HVR := Lib.hid hvr
      obtain ⟨f, hf_⟩ : ∃ f : Ls → Except Int Ls, f = fun s => runLp (segL rs t1 e1) s := ⟨_, rfl⟩
      have HONE : Hid (runLp rs s = (oneLp r f s1).bind (fun s => runLp (segL rs e1 n) s)) := Lib.hid (by
        rw [HR.out, HSC.out, runLp_one, HLP.out, if_pos rfl, hm, Int.toNat_natCast, segL_take (by omega), segL_drop, ← ht1, ← he1, hf_])
      have he1n : e1 ≤ n := by omega
      have ht1e : t1 ≤ e1 := by omega
      have hte : t < e1 := by omega
      have ht1n : t1 ≤ n := by omega
      have HTM : Hid (e1 = t + 1 + m) := Lib.hid (by omega)
      obtain ⟨e0, he0⟩ : ∃ e0 : Nat, e0 = t + (e1 - t1) := ⟨_, rfl⟩
      have w5 : IntKind.i64.wrap ((t : Int) + ((e1 - t1 : Nat) : Int)) = (e0 : Int) := by rw [show ((t : Int) + ((e1 - t1 : Nat) : Int)) = (e0 : Int) by omega]; exact IntWalk.i64_in _ (by omega)
      have w6 : IntKind.i64.wrap ((e0 : Int) + 1) = (e1 : Int) := by rw [show ((e0 : Int) + 1) = (e1 : Int) by omega]; exact IntWalk.i64_in _ (by omega)
      have he01 : e0 + 1 = e1 := by omega
      have HD0 : Hid (∀ (B' : Option Addr) (c' : Nat) (W2 : World), (t1 < e1 → B' = some ⟨b, off + t1 * 3, none⟩) → e1 - t1 ≤ c' → LpI w0 g A c s1 W2 → Blk W2 pb 100 #[.pointer (some ⟨g, 0, none⟩)] →
          Calls Tryd.prog 94 #[.agg #[.int .i64 r.a, .int .i64 r.b, .int .i64 r.c], .slice B' (e1 - t1 : Nat) c', .pointer (some ⟨pb, 0, none⟩)] W2 (LpR w0 a0 a1 g A c (oneLp r f s1) W2)) := Lib.hid (fun B' c' W2 hB hc h2 h3 => by
        refine do1_any w0 a0 a1 g pb A c r B' (e1 - t1) c' f s1 W2 HE.out h2 h3 (by omega) hrb (by omega) ?_ ?_
        · intro s s' hs
          rw [hf_] at hs
          exact runLp_left _ _ s s' (Nat.le_refl _) hs
        · intro s W h
          rw [hf_]
          exact HDO.out (e1 - t1) B' c' (segL rs t1 e1) (d + 1) s W (by omega) (HX.out.cut ht1e he1n (fun h b' off' e => by cases e; exact hB h)) hc hvb h)
      rw [show isLoopB ⟨r.a, r.b, r.c⟩ = true from HLP.out] at HIL
      have w3 : IntKind.i64.wrap ((t : Int) + 1) = (t1 : Int) := by rw [show ((t : Int) + 1) = (t1 : Int) by omega]; exact IntWalk.i64_in _ (by omega)
      have w4 : IntKind.i64.wrap ((t1 : Int) + r.c) = (e1 : Int) := by rw [show ((t1 : Int) + r.c) = (e1 : Int) by omega]; exact IntWalk.i64_in _ (by omega)
      have hcap1 : ¬ (cB : Int) < (e1 : Int) := by omega
      have hcap2 : ¬ (e1 : Int) < (t1 : Int) := by omega
      clear hf hf_ hvb hvr hin hin2 hm he1 ht1 he0
      go_upto_region 4 with fail
      rw [← HW1.out]
      go_wp2_with fail
      refine HIL.out.mono ?_
      rintro e W2 ⟨rfl, z2⟩
      have hI2 := hI1.below z2
      have hpp2 := hpp1.below' z2
      have k2 := k1.trans (KI.of_below z2)
      clear q0 q1 q2
      obtain ⟨q0, q1, q2⟩ := HQ.out W2 z2
      rcases Nat.lt_or_ge t1 cB with hct | hct
      · have hct2 : (t1 : Int) < (cB : Int) := by omega
        have HD1 := Lib.hid (HD0.out (some ⟨b, off + t1 * 3, none⟩) (cB - t1) W2 (fun _ => rfl) (by omega) hI2 hpp2)
        go_wp2_with fail
        refine HD1.out.mono ?_
        intro e W3 hR
        cases ho : oneLp r f s1 with
        | error q =>
          rw [ho] at hR
          obtain ⟨rfl, h6, k6⟩ := hR
          have HFIN : LpR w0 a0 a1 g A c (runLp rs s) W (.panicked [{ v := errV (if q = 6 then a0 else a1), recovered := false }]) W3 := by
            rw [HONE.out, ho]
            exact ⟨rfl, h6, k2.trans k6⟩
          exact ⟨rfl, HFIN⟩
        | ok s2 =>
          rw [ho] at hR
          obtain ⟨⟨u, rfl⟩, h6, k6⟩ := hR
          have HRZ : Hid (runLp rs s = runLp (segL rs e1 n) s2) := Lib.hid (by rw [HONE.out, ho]; rfl)
          have hpp3 := k6.keep hpp2 hpg hpA
          clear ho q0 q1 q2 HIL HQ
          go_wp2_with fail
          exact ⟨⟨e1, s2, by omega, by go_num, HVR, HRZ, h6, k2.trans k6, hpp3⟩, by simp [intOf]; omega⟩
      · obtain rfl : cB = t1 := by omega
        have HD1 := Lib.hid (HD0.out (some ⟨b, off, none⟩) 0 W2 (fun h => absurd h (by omega)) (by omega) hI2 hpp2)
        go_wp2_with fail
        refine HD1.out.mono ?_
        intro e W3 hR
        cases ho : oneLp r f s1 with
        | error q =>
          rw [ho] at hR
          obtain ⟨rfl, h6, k6⟩ := hR
          have HFIN : LpR w0 a0 a1 g A c (runLp rs s) W (.panicked [{ v := errV (if q = 6 then a0 else a1), recovered := false }]) W3 := by
            rw [HONE.out, ho]
            exact ⟨rfl, h6, k2.trans k6⟩
          exact ⟨rfl, HFIN⟩
        | ok s2 =>
          rw [ho] at hR
          obtain ⟨⟨u, rfl⟩, h6, k6⟩ := hR
          have HRZ : Hid (runLp rs s = runLp (segL rs e1 n) s2) := Lib.hid (by rw [HONE.out, ho]; rfl)
          have hpp3 := k6.keep hpp2 hpg hpA
          clear ho q0 q1 q2 HIL HQ
          go_wp2_with fail
          exact ⟨⟨e1, s2, by omega, by go_num, HVR, HRZ, h6, k2.trans k6, hpp3⟩, by simp [intOf]; omega⟩
    · have HNL := Lib.hid (bool_false (isLoopB_iff r) hf)
      have HVF := HV.out
      rw [HSC.out, validLp_flat HNL.out, ← ht1] at HVF
      simp only [Bool.and_eq_true] at HVF
      obtain ⟨_, hfl, hvr⟩ := HVF
      have hfl2 := (flatB_iff r).1 hfl
      have HVR := Lib.hid hvr
      obtain ⟨e1, he1⟩ : ∃ e1 : Nat, e1 = t1 := ⟨_, rfl⟩
      obtain ⟨f, hf_⟩ : ∃ f : Ls → Except Int Ls, f = fun s => runLp [] s := ⟨_, rfl⟩
      have HONE : Hid (runLp rs s = (oneLp r f s1).bind (fun s => runLp (segL rs e1 n) s)) := Lib.hid (by
        rw [HR.out, HSC.out, runLp_one, HNL.out, if_neg (by decide), List.take_zero, List.drop_zero, ← ht1, he1, hf_])
      rw [← he1] at HVR
      have HD0 : Hid (∀ (B' : Option Addr) (W2 : World), LpI w0 g A c s1 W2 → Blk W2 pb 100 #[.pointer (some ⟨g, 0, none⟩)] →
          Calls Tryd.prog 94 #[.agg #[.int .i64 r.a, .int .i64 r.b, .int .i64 r.c], .slice B' 0 0, .pointer (some ⟨pb, 0, none⟩)] W2 (LpR w0 a0 a1 g A c (oneLp r f s1) W2)) := Lib.hid (fun B' W2 h2 h3 => by
        refine do1_any w0 a0 a1 g pb A c r B' 0 0 f s1 W2 HE.out h2 h3 (by omega) hrb (by omega) ?_ ?_
        · intro s s' hs
          rw [hf_] at hs
          exact runLp_left _ _ s s' (Nat.le_refl _) hs
        · intro s W h
          rw [hf_]
          exact HDO.out 0 B' 0 [] d s W (by omega) ⟨by simp [cells3], fun h => by simp [cells3] at h⟩ (Nat.le_refl _) (validLp_nil d) h)
      rw [show isLoopB ⟨r.a, r.b, r.c⟩ = false from HNL.out] at HIL
      have w3 : IntKind.i64.wrap ((t : Int) + 1) = (e1 : Int) := by rw [show ((t : Int) + 1) = (e1 : Int) by omega]; exact IntWalk.i64_in _ (by omega)
      have hte : t < e1 := by omega
      have he1n : e1 ≤ n := by omega
      have hte1 : t + 1 = e1 := by omega
      have HTM : Hid (e1 = t + 1) := Lib.hid (by omega)
      clear hf hf_ hfl hfl2 hvr he1 ht1
      go_upto_region 4 with fail
      rw [← HW1.out]
      go_wp2_with fail
      refine HIL.out.mono ?_
      rintro e W2 ⟨rfl, z2⟩
      have hI2 := hI1.below z2
      have hpp2 := hpp1.below' z2
      have k2 := k1.trans (KI.of_below z2)
      clear q0 q1 q2
      obtain ⟨q0, q1, q2⟩ := HQ.out W2 z2
      have HD1 := Lib.hid (HD0.out (some ⟨wr.heap.size, 0, none⟩) W2 hI2 hpp2)
      go_wp2_with fail
      refine HD1.out.mono ?_
      intro e W3 hR
      cases ho : oneLp r f s1 with
      | error q =>
        rw [ho] at hR
        obtain ⟨rfl, h6, k6⟩ := hR
        have HFIN : LpR w0 a0 a1 g A c (runLp rs s) W (.panicked [{ v := errV (if q = 6 then a0 else a1), recovered := false }]) W3 := by
          rw [HONE.out, ho]
          exact ⟨rfl, h6, k2.trans k6⟩
        exact ⟨rfl, HFIN⟩
      | ok s2 =>
        rw [ho] at hR
        obtain ⟨⟨u, rfl⟩, h6, k6⟩ := hR
        have HRZ : Hid (runLp rs s = runLp (segL rs e1 n) s2) := Lib.hid (by rw [HONE.out, ho]; rfl)
        have hpp3 := k6.keep hpp2 hpg hpA
        clear ho q0 q1 q2 HIL HQ
        go_wp2_with fail
        exact ⟨⟨e1, s2, by omega, by go_num, HVR, HRZ, h6, k2.trans k6, hpp3⟩, by simp [intOf]; omega⟩
end Go.Proofs.YtacajmgokdgbgaaDoor

/-
  The program's do.
-/
namespace Go.Proofs.YtacajmgokdgbgaaDoor
open Go.RowKit

set_option maxHeartbeats 1000000 in
theorem doI_any (w0 : World) (a0 a1 : Addr) (g : Nat) (A : Option Addr) (c : Nat) (he : ErrsW w0 a0 a1) : ∀ (n : Nat) (B : Option Addr) (cB : Nat) (rs : List R3) (d : Nat) (s : Ls) (W : World), S3 w0 B n rs → n ≤ 1048576 → n ≤ cB → validLp rs d = true → LpI w0 g A c s W →
    Calls Tryd.prog 67 #[.pointer (some ⟨g, 0, none⟩), .slice B n cB] W (LpR w0 a0 a1 g A c (runLp rs s) W) := by
  intro n
  induction n using Nat.strongRecOn with
  | _ n ih =>
  intro B cB rs d s W hx hn hnc hv h
  have hmf : ∀ (fn : Fn) (first cap : Array Value) (w : World), (Instr.makeFunc fn first cap).run Tryd.prog w = .ok (.func fn first cap) w := fun _ _ _ _ => rfl
  obtain ⟨W1, hW_⟩ : ∃ W_, W_ = W.alloc (.cells #[.pointer (some ⟨g, 0, none⟩)] 100) := ⟨_, rfl⟩
  have b1 : Blk W1 W.heap.size 100 #[.pointer (some ⟨g, 0, none⟩)] := by rw [hW_]; exact Blk.new W _ _
  have z1 : Below W.heap.size W W1 := by rw [hW_]; exact (Below.refl _ _).alloc (Nat.le_refl _) _
  have HW1 := Lib.hid hW_
  clear hW_
  have h1 := h.below z1
  have hpg : W.heap.size ≠ g := by have := h.box.lt; omega
  have hpA : blk A ≠ some W.heap.size := fun e => by have := h.vars.blk_lt _ e; omega
  have HB := Lib.hid (bodiesI_any w0 a0 a1 g W.heap.size A c B n cB rs d he hx hn hnc hv (fun m B' c' us d' s W h1 h2 h3 h4 h5 => ih m h1 B' c' us d' s W h2 (by omega) h3 h4 h5) hpg hpA s W1 h1 b1)
  have k1 : KI g A W W1 := KI.of_below z1
  clear ih hx hv h h1 b1 z1
  go_enter Tryd.func67, Tryd.ntmps67
  go_upto_region 1 with fail
  rw [← HW1.out]
  go_wp2_with fail
  refine HB.out.mono ?_
  intro e W2 hR
  cases hr : runLp rs s with
  | error q =>
    rw [hr] at hR
    obtain ⟨rfl, h6, k6⟩ := hR
    have HFIN : LpR w0 a0 a1 g A c (runLp rs s) W (.panicked [{ v := errV (if q = 6 then a0 else a1), recovered := false }]) W2 := by
      rw [hr]
      exact ⟨rfl, h6, k1.trans k6⟩
    exact ⟨rfl, hr ▸ HFIN⟩
  | ok s2 =>
    rw [hr] at hR
    obtain ⟨⟨u, rfl⟩, h6, k6⟩ := hR
    go_wp2_with fail
    have HFIN : LpR w0 a0 a1 g A c (runLp rs s) W (.returned (.tuple #[])) W2 := by
      rw [hr]
      exact ⟨⟨_, rfl⟩, h6, k1.trans k6⟩
    exact bodyPost_end (results_none rfl _ _ _) rfl HFIN
end Go.Proofs.YtacajmgokdgbgaaDoor

/-
  The program's runLoop$1: what the deferred call does where nothing panicked, and where one of the two errors did.
-/
namespace Go.Proofs.YtacajmgokdgbgaaDoor
open Go.RowKit

theorem rec_idle (p q r : Addr) (w : World) :
    CallsD Tryd.prog 66 #[.pointer (some p), .pointer (some q), .pointer (some r)] .returning w fun e u' w' => e = .returned (.tuple #[]) ∧ u' = .returning ∧ w' = w := by
  refine callsD_of_wpS Tryd.func66 rfl fun c₀ cs hu => ?_
  apply wpS_seq
  apply wpS_region
  simp [wpOpsS, go_sem, recoverD, hu, Tryd.ntmps66, Exit.thenS]
  refine wpS_of_wp ?_
  go_wp2_with fail
  cases c₀
  simp_all [bodyPostS, results, Tryd.results66]
theorem errComp : (Tryd.prog.info? 224).map (·.comparable) = some true := by kernel_rfl
theorem errSize : (Tryd.prog.info? 247).map (·.size) = some 1 := by kernel_rfl
set_option maxRecDepth 100000 in
theorem rec_panicking (x y z : Nat) (k : Int) (a0 a1 : Addr) (v0 v1 v2 : Value) (w : World) (he : ErrsW w a0 a1) (hk : k = 5 ∨ k = 6) (hx : Blk w x 23 #[v0]) (hy : Blk w y 2 #[v1]) (hz : Blk w z 2 #[v2]) (hyz : y ≠ z) (h0 : x ≠ 0 ∧ y ≠ 0 ∧ z ≠ 0) (hb : a0.block < x ∧ a0.block < y ∧ a0.block < z ∧ a1.block < x ∧ a1.block < y ∧ a1.block < z) :
    CallsD Tryd.prog 66 #[.pointer (some ⟨x, 0, none⟩), .pointer (some ⟨y, 0, none⟩), .pointer (some ⟨z, 0, none⟩)] (.panicking [{ v := errV (if k = 6 then a0 else a1), recovered := false }]) w fun e u' w' =>
      e = .returned (.tuple #[]) ∧ u' = .panicking [{ v := errV (if k = 6 then a0 else a1), recovered := true }] ∧ Blk w' x 23 #[.slice none 0 0] ∧ Blk w' y 2 #[.int .i64 0] ∧ Blk w' z 2 #[.int .i64 k] ∧ Hid (∀ lo w0, Below lo w0 w → lo ≤ x → lo ≤ y → lo ≤ z → Below lo w0 w') := by
  have hxy : x ≠ y := by
    rintro rfl
    have := Eq.trans (Eq.symm hx) hy
    simp at this
  have hxz : x ≠ z := by
    rintro rfl
    have := Eq.trans (Eq.symm hx) hz
    simp at this
  have x0 : w.cell? ⟨x, 0, none⟩ = some v0 := hx.cell 0
  have y0 : w.cell? ⟨y, 0, none⟩ = some v1 := hy.cell 0
  have z0 : w.cell? ⟨z, 0, none⟩ = some v2 := hz.cell 0
  have fx := hx.frozen 0
  have fy := hy.frozen 0
  have fz := hz.frozen 0
  have g0 := he.v0
  obtain ⟨hp0, hp1, hp2⟩ := h0
  generalize ha : (if k = 6 then a0 else a1) = ae
  have HA := Lib.hid ha
  have HK := Lib.hid hk
  clear ha hk
  refine callsD_of_wpS Tryd.func66 rfl fun c₀ cs hu => ?_
  apply wpS_seq
  apply wpS_region
  simp [wpOpsS, go_sem, recoverD, hu, Tryd.ntmps66, Exit.thenS]
  refine wpS_of_wp ?_
  obtain ⟨W3, hW3⟩ : ∃ W3, W3 = ((w.setCell ⟨x, 0, none⟩ (.slice none 0 0)).setCell ⟨y, 0, none⟩ (.int .i64 0)).setCell ⟨z, 0, none⟩ (.int .i64 5) := ⟨_, rfl⟩
  have hx3 : Blk W3 x 23 #[.slice none 0 0] := by
    rw [hW3]
    exact ((hx.set_ 0 (.slice none 0 0)).far (p := ⟨y, 0, none⟩) hxy (.int .i64 0)).far (p := ⟨z, 0, none⟩) hxz (.int .i64 5)
  have hy3 : Blk W3 y 2 #[.int .i64 0] := by
    rw [hW3]
    exact ((hy.far (p := ⟨x, 0, none⟩) (Ne.symm hxy) (.slice none 0 0)).set_ 0 (.int .i64 0)).far (p := ⟨z, 0, none⟩) hyz (.int .i64 5)
  have hz3 : Blk W3 z 2 #[.int .i64 5] := by
    rw [hW3]
    exact ((hz.far (p := ⟨x, 0, none⟩) (Ne.symm hxz) (.slice none 0 0)).far (p := ⟨y, 0, none⟩) (Ne.symm hyz) (.int .i64 0)).set_ 0 (.int .i64 5)
  have hbel : ∀ lo w0, Below lo w0 w → lo ≤ x → lo ≤ y → lo ≤ z → Below lo w0 W3 := fun lo w0 h h1 h2 h3 => by
    rw [hW3]
    exact ((h.setCell (p := ⟨x, 0, none⟩) h1 _).setCell (p := ⟨y, 0, none⟩) h2 _).setCell (p := ⟨z, 0, none⟩) h3 _
  have hbel6 : ∀ lo w0, Below lo w0 w → lo ≤ x → lo ≤ y → lo ≤ z → Below lo w0 (W3.setCell ⟨z, 0, none⟩ (.int .i64 6)) := fun lo w0 h h1 h2 h3 => (hbel lo w0 h h1 h2 h3).setCell (p := ⟨z, 0, none⟩) h3 _
  have HBEL := Lib.hid hbel
  have HBEL6 := Lib.hid hbel6
  clear hbel hbel6
  have hblk : ∀ b, b ≠ x → b ≠ y → b ≠ z → W3.heap[b]? = w.heap[b]? := fun b e1 e2 e3 => by
    rw [hW3]
    exact ((Below.heap_setCell _ ⟨z, 0, none⟩ _ b e3).trans (Below.heap_setCell _ ⟨y, 0, none⟩ _ b e2)).trans (Below.heap_setCell _ ⟨x, 0, none⟩ _ b e1)
  have g3 : W3.cell? ⟨0, 0, none⟩ = some (errV a0) := by
    rw [← g0]
    unfold World.cell?
    rw [hblk _ (Ne.symm hp0) (Ne.symm hp1) (Ne.symm hp2)]
  obtain ⟨c0, t0, hh0⟩ := he.b0
  obtain ⟨c1, t1, hh1⟩ := he.b1
  have hh03 := (hblk a0.block (by omega) (by omega) (by omega)).trans hh0
  have hh13 := (hblk a1.block (by omega) (by omega) (by omega)).trans hh1
  have hne := he.ne
  clear hx hy hz he g0 hb hblk
  go_upto_region 2 with fail
  go_upto_region 3 with fail
  rw [← hW3]
  clear hW3 x0 y0 z0 fx fy fz hp0 hp1 hp2
  obtain ⟨i, hi, hcmp⟩ := Option.map_eq_some_iff.1 errComp
  obtain ⟨j, hj, hjs⟩ := Option.map_eq_some_iff.1 errSize
  have z3 : W3.cell? ⟨z, 0, none⟩ = some (.int .i64 5) := hz3.cell 0
  have f3 := hz3.frozen 0
  have hx4 := hx3.far (p := ⟨z, 0, none⟩) hxz (.int .i64 6)
  have hy4 := hy3.far (p := ⟨z, 0, none⟩) hyz (.int .i64 6)
  have hz4 := hz3.set_ 0 (.int .i64 6)
  by_cases h6 : k = 6
  · obtain rfl : a0 = ae := by have := HA.out; rw [if_pos h6] at this; exact this
    have HQ := Lib.hid (run_eql_iface_ptr_same W3 a0 Tryd.underlying20 Tryd.underlying224 hi hcmp hj)
    have HF := Lib.hid (⟨hx4, hy4, hz4, HBEL6⟩ : _ ∧ _ ∧ _ ∧ _)
    have H6 := Lib.hid h6
    clear h6 hx3 hy3 hz3 hx4 hy4 hz4
    clear hi hj hcmp hjs hh03 hh13 hh0 hh1
    go_wp2_with fail
    rw [HQ.out]
    simp only [Result.andThen, Oper.upon]
    apply_assumption
    simp only [Act.put, Array.replicate, List.replicate, List.setIfInBounds_toArray, List.set_cons_zero, List.set_cons_succ, List.append_toArray, List.cons_append, List.nil_append]
    go_wp2_with fail
    have HF2 := HF.out
    have h6 := H6.out
    rw [← h6] at HF2
    cases c₀
    simp_all [bodyPostS, results, Tryd.results66]
  · obtain rfl : a1 = ae := by have := HA.out; rw [if_neg h6] at this; exact this
    have hk5 : k = 5 := by have := HK.out; omega
    have HQ := Lib.hid (run_eql_iface_ptr_other W3 Tryd.underlying20 Tryd.underlying224 hi hcmp hj (by omega) hne hh13 hh03)
    have HF := Lib.hid (⟨hx3, hy3, hz3, HBEL⟩ : _ ∧ _ ∧ _ ∧ _)
    have H5 := Lib.hid hk5
    clear h6 hk5 hx3 hy3 hz3 hx4 hy4 hz4
    clear hi hj hcmp hjs hh03 hh13 hh0 hh1
    go_wp2_with fail
    rw [HQ.out]
    simp only [Result.andThen, Oper.upon]
    apply_assumption
    simp only [Act.put, Array.replicate, List.replicate, List.setIfInBounds_toArray, List.set_cons_zero, List.set_cons_succ, List.append_toArray, List.cons_append, List.nil_append]
    go_wp2_with fail
    have HF2 := HF.out
    have h5 := H5.out
    rw [← h5] at HF2
    cases c₀
    simp_all [bodyPostS, results, Tryd.results66]
end Go.Proofs.YtacajmgokdgbgaaDoor
