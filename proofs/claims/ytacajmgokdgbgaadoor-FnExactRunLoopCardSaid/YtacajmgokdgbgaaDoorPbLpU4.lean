/-
  The reference's (*l17Run).do.
-/
import Derived.Test.YtacajmgokdgbgaaDoorPbLpU1
import Derived.Test.YtacajmgokdgbgaaDoorPbLpU2
namespace Go.Proofs.YtacajmgokdgbgaaDoor
open Go.RowKit

set_option maxRecDepth 100000 in
set_option maxHeartbeats 8000000 in
theorem l17Do_any (w0 : World) (g : Nat) (B : Option Addr) (n cL : Nat) (rs : List R3) (A : Option Addr) (c bud : Nat) (hx : S3 w0 B n rs) (hn : n ≤ 1048576) (hb : bud ≤ 1000000) : ∀ (K i j d : Nat) (s : Ls) (W : World), i ≤ j → j ≤ n → j - i ≤ K → validLp (segL rs i j) d = true → LpQ w0 g (.slice B n cL) A c bud (.ok s) W →
    Calls Tryd.prog 63 #[.pointer (some ⟨g, 0, none⟩), .int .i64 (i : Int), .int .i64 (j : Int)] W fun e W' => (∃ u, e = .returned u) ∧ LpQ w0 g (.slice B n cL) A c bud (runLp (segL rs i j) s) W' ∧ KL W W' := by
  intro K
  induction K using Nat.strongRecOn with
  | _ K ih =>
  intro i j d s W hij hjn hK hv hq
  have IH : Hid (∀ (t t1 e1 d1 : Nat) (s : Ls) (W : World), i ≤ t → t1 = t + 1 → t1 ≤ e1 → e1 ≤ j → validLp (segL rs t1 e1) d1 = true → LpQ w0 g (.slice B n cL) A c bud (.ok s) W → Calls Tryd.prog 63 #[.pointer (some ⟨g, 0, none⟩), .int .i64 (t1 : Int), .int .i64 (e1 : Int)] W fun e W' => (∃ u, e = .returned u) ∧ LpQ w0 g (.slice B n cL) A c bud (runLp (segL rs t1 e1) s) W' ∧ KL W W') :=
    Lib.hid (fun t t1 e1 d1 s W h1 h2 h3 h4 h5 h6 => ih (K - 1) (by omega) t1 e1 d1 s W h3 (by omega) (by omega) h5 h6)
  have HL := Lib.hid hx.len
  have HX := Lib.hid hx
  have HSTEP := Lib.hid (fun s W h => l17Step_any w0 g (.slice B n cL) A c bud s W h hb)
  clear ih hK hx
  go_enter Tryd.func63, Tryd.ntmps63
  go_wp2_with fail
  go_loopw [6] (fun s6 wr => ∃ (t : Nat) (s1 : Ls), i ≤ t ∧ t ≤ j ∧ s6 = .int .i64 (t : Int) ∧ Hid (validLp (segL rs t j) d = true) ∧ Hid (runLp (segL rs i j) s = runLp (segL rs t j) s1) ∧ LpQ w0 g (.slice B n cL) A c bud (.ok s1) wr ∧ KL W wr) (fun s6 _ => j - (intOf s6).toNat)
  case atStart => exact ⟨i, s, Nat.le_refl _, hij, rfl, Lib.hid hv, Lib.hid rfl, hq, KL.refl _⟩
  case round =>
    obtain ⟨t, s1, hit, htj, rfl, HV, HR, hq1, hk1⟩ := hrel
    by_cases hlt : t < j
    rotate_left
    · have hl2 : ¬ (t : Int) < (j : Int) := by omega
      have HE : Hid (runLp (segL rs i j) s = .ok s1) := Lib.hid (by rw [HR.out, segL_nil (by omega), runLp_nil])
      go_wp2_with fail
      rw [HE.out]
      exact bodyPost_end (results_none rfl _ _ _) rfl ⟨⟨_, rfl⟩, hq1, hk1⟩
    have hl2 : (t : Int) < (j : Int) := by omega
    have htn : t < n := by omega
    obtain ⟨r, b, off, HRr, hrm, hBB, hbl, q0, q1, q2⟩ := ((HX.out.below hq1.2.2.low)).pick (k := t) htn
    have HSC := Lib.hid (segL_cons hlt HRr.out)
    clear hrm hq hv
    have g0 : wr.cell? ⟨g, 0, none⟩ = some (.slice (some ⟨b, off, none⟩) n cL) := by rw [← hBB]; exact hq1.2.2.box.cell 0
    clear hBB
    obtain ⟨W1, hW_⟩ : ∃ W_, W_ = wr.alloc (.cells #[.int .i64 r.a, .int .i64 r.b, .int .i64 r.c] 64) := ⟨_, rfl⟩
    have b1 : Blk W1 wr.heap.size 64 #[.int .i64 r.a, .int .i64 r.b, .int .i64 r.c] := by rw [hW_]; exact Blk.new wr _ _
    have z1 : Below wr.heap.size wr W1 := by rw [hW_]; exact (Below.refl _ _).alloc (Nat.le_refl _) _
    have HW1 := Lib.hid hW_
    clear hW_
    replace hq1 := hq1.below z1
    have hk2 := hk1.trans (KL.of_below z1)
    have i1 : (0 : Int) ≤ (t : Int) := by omega
    have i2 : (t : Int) < (n : Int) := by omega
    obtain ⟨t1, ht1⟩ : ∃ t1 : Nat, t1 = t + 1 := ⟨_, rfl⟩
    have HVB : Hid (inB r.b 0 15 = true) := by
      cases h : inB r.b 0 15 with
      | true => exact Lib.hid rfl
      | false => have := HV.out; rw [HSC.out, validLp_var h] at this; cases this
    have hrb := (inB_iff _ _ _).1 HVB.out
    have x0 : W1.cell? ⟨wr.heap.size, 0, none⟩ = some (.int .i64 r.a) := b1.cell 0
    have x1 : W1.cell? ⟨wr.heap.size, 1, none⟩ = some (.int .i64 r.b) := b1.cell 1
    have x2 : W1.cell? ⟨wr.heap.size, 2, none⟩ = some (.int .i64 r.c) := b1.cell 2
    by_cases hf : r.a = 3 ∨ r.a = 4
    · have HLP := Lib.hid ((isLoopB_iff r).2 hf)
      have HVL := HV.out
      rw [HSC.out, validLp_loop HLP.out] at HVL
      simp only [Bool.and_eq_true, decide_eq_true_eq] at HVL
      obtain ⟨_, ⟨⟨hd7, hin⟩, hvb⟩, hvr⟩ := HVL
      have hin2 := (inB_iff _ _ _).1 hin
      rw [segL_len (by rw [HL.out]; exact hjn)] at hin2
      obtain ⟨m, hm⟩ : ∃ m : Nat, r.c = (m : Int) := ⟨r.c.toNat, by omega⟩
      obtain ⟨e1, he1⟩ : ∃ e1 : Nat, e1 = t1 + m := ⟨_, rfl⟩
      obtain ⟨e0, he0⟩ : ∃ e0 : Nat, e0 = t + m := ⟨_, rfl⟩
      rw [hm, Int.toNat_natCast, segL_take (by omega), ← ht1, ← he1] at hvb
      rw [hm, Int.toNat_natCast, segL_drop, ← ht1, ← he1] at hvr
      obtain ⟨kb, hkb⟩ : ∃ kb : Nat, r.b = (kb : Int) := ⟨r.b.toNat, by omega⟩
      have hkb16 : kb < 16 := by omega
      have he1j : e1 ≤ j := by omega
      have he01 : e0 + 1 = e1 ∧ t < e1 ∧ e1 ≤ 1048576 := by omega
      have w3 : IntKind.i64.wrap ((t : Int) + 1) = (t1 : Int) := by rw [show ((t : Int) + 1) = (t1 : Int) by omega]; exact IntWalk.i64_in _ (by omega)
      have w4 : IntKind.i64.wrap ((t1 : Int) + r.c) = (e1 : Int) := by rw [show ((t1 : Int) + r.c) = (e1 : Int) by omega]; exact IntWalk.i64_in _ (by omega)
      have w5 : IntKind.i64.wrap ((e1 : Int) - 1) = (e0 : Int) := by rw [show ((e1 : Int) - 1) = (e0 : Int) by omega]; exact IntWalk.i64_in _ (by omega)
      have w6 : IntKind.i64.wrap ((e0 : Int) + 1) = (e1 : Int) := by rw [show ((e0 : Int) + 1) = (e1 : Int) by omega]; exact IntWalk.i64_in _ (by omega)
      obtain ⟨f, hf_⟩ : ∃ f : Ls → Except Int Ls, f = fun s => runLp (segL rs t1 e1) s := ⟨_, rfl⟩
      have HF := Lib.hid (fun s => congrFun hf_ s)
      have HFL : Hid (∀ s s', f s = .ok s' → s'.left ≤ s.left) := Lib.hid (fun s s' h => runLp_left _ _ s s' (Nat.le_refl _) (by rw [← HF.out]; exact h))
      have HREC : Hid (∀ (s : Ls) (W : World), LpQ w0 g (.slice B n cL) A c bud (.ok s) W → Calls Tryd.prog 63 #[.pointer (some ⟨g, 0, none⟩), .int .i64 (t1 : Int), .int .i64 (e1 : Int)] W fun e W' => (∃ u, e = .returned u) ∧ LpQ w0 g (.slice B n cL) A c bud (f s) W' ∧ KL W W') := Lib.hid (fun s W h => by
        rw [HF.out]
        exact IH.out t t1 e1 (d + 1) s W hit ht1 (by omega) he1j hvb h)
      have HS1 : Hid (runLp (segL rs i j) s = (stepLs s1).bind fun s2 => if r.a = 3 then (timesLs f (s2.vs.getD kb 0).toNat s2).bind (runLp (segL rs e1 j)) else (againLs f kb (s2.left + 1) s2).bind (runLp (segL rs e1 j))) := Lib.hid (by
        rw [HR.out, HSC.out, runLp_cons, hm, hkb, Int.toNat_natCast, Int.toNat_natCast, segL_take (by omega), segL_drop, ← ht1, ← he1, hf_]
        congr 1; funext s2
        by_cases h3 : r.a = 3
        · rw [if_pos h3, if_pos h3]
        · rw [if_neg h3, if_neg h3, if_pos (by omega)])
      have HVR := Lib.hid hvr
      -- behind a loop: what is left of the round
      clear hf_ hvb hvr hin hin2 he1 he0 ht1 hm IH
      have HKB := Lib.hid hkb
      clear hkb
      by_cases h3 : r.a = 3
      · have hd3 : (r.a == 3) = true := by simpa using h3
        have H3 := Lib.hid h3
        clear h3
        go_upto_region 5 with fail
        rw [← HW1.out]
        go_wp2_with fail
        refine (HSTEP.out s1 W1 hq1).mono ?_
        rintro e W2 ⟨⟨ok, rfl, hok⟩, hq2, hk3⟩
        have b2 := hk3 _ _ b1
        have hk4 := hk2.trans hk3
        clear x0 x1 x2
        by_cases h0 : s1.left = 0
        · rw [stepLs_err h0] at hok hq2
          have HE : Hid (runLp (segL rs i j) s = .error 5) := Lib.hid (by rw [HS1.out, stepLs_err h0]; rfl)
          subst hok
          clear h0
          go_wp2_with fail
          rw [HE.out]
          exact bodyPost_ret (results_none rfl _ _ _) rfl ⟨⟨_, rfl⟩, hq2, hk4⟩
        rw [stepLs_ok h0] at hok hq2
        obtain ⟨s2, hs2⟩ : ∃ s2 : Ls, s2 = ⟨s1.vs, s1.left - 1⟩ := ⟨_, rfl⟩
        rw [← hs2] at hq2
        have HS2 : Hid (runLp (segL rs i j) s = (timesLs f (s2.vs.getD kb 0).toNat s2).bind (runLp (segL rs e1 j))) := Lib.hid (by rw [HS1.out, stepLs_ok h0, ← hs2]; show (if r.a = 3 then _ else _) = _; rw [if_pos H3.out])
        subst hok
        clear h0 hs2
        obtain ⟨ab, ao, rfl, _, _, y0, _⟩ := hq2.2.2.at_ hkb16
        have hvk := getD_ok hq2.2.1 kb
        obtain ⟨M, hM⟩ : ∃ M : Nat, s2.vs.getD kb 0 = (M : Int) := ⟨(s2.vs.getD kb 0).toNat, by omega⟩
        rw [hM] at y0 hvk
        have HS3 : Hid (runLp (segL rs i j) s = (timesLs f M s2).bind (runLp (segL rs e1 j))) := Lib.hid (by rw [HS2.out, hM, Int.toNat_natCast])
        have g1 : W2.cell? ⟨g, 1, none⟩ = some (.slice (some ⟨ab, ao, none⟩) 16 c) := hq2.2.2.box.cell 1
        have j1 : (0 : Int) ≤ (kb : Int) := by omega
        have j2 : (kb : Int) < 16 := by omega
        have x0 : W2.cell? ⟨wr.heap.size, 0, none⟩ = some (.int .i64 r.a) := b2.cell 0
        have x1 : W2.cell? ⟨wr.heap.size, 1, none⟩ = some (.int .i64 r.b) := b2.cell 1
        have x2 : W2.cell? ⟨wr.heap.size, 2, none⟩ = some (.int .i64 r.c) := b2.cell 2
        rw [HKB.out] at x1
        clear hM
        go_wp2_with fail
        go_quiet (fail)
        go_wp2_with fail
        clear g1 y0 j1 j2 x0 x1 x2
        go_loopw [9] (fun s9 wx => ∃ (m : Nat) (x : Except Int Ls), s9 = .int .i64 (m : Int) ∧ m ≤ 1000000 ∧ LpQ w0 g (.slice B n cL) (some ⟨ab, ao, none⟩) c bud x wx ∧ Hid (runLp (segL rs i j) s = (x.bind (timesLs f m)).bind (runLp (segL rs e1 j))) ∧ KL W wx) (fun s9 _ => (intOf s9).toNat)
        case atStart => exact ⟨M, .ok s2, rfl, by omega, hq2.below (below_drewN (Below.refl _ _) _), HS3, hk4.trans (KL.of_below (below_drewN (Below.refl _ _) _))⟩
        case round =>
          obtain ⟨m, x, rfl, hm, hqx, HSX, hkx⟩ := hrel
          clear hk4 hk3 hk2 hq1 hq2 b1
          cases m with
          | zero =>
            have hm0 : ¬ ((0 : Nat) : Int) > 0 := by decide
            cases x with
            | ok s3 =>
              have HE : Hid (runLp (segL rs i j) s = runLp (segL rs e1 j) s3) := Lib.hid (by rw [HSX.out]; rfl)
              have x4 : wr.cell? ⟨g, 4, none⟩ = some (.int .i64 0) := hqx.2.2.box.cell 4
              go_wp2_with fail
              exact ⟨⟨e1, s3, by omega, by omega, by go_num, HVR, HE, hqx, hkx⟩, by simp [intOf]; omega⟩
            | error k =>
              have HE : Hid (runLp (segL rs i j) s = .error k) := Lib.hid (by rw [HSX.out]; rfl)
              obtain ⟨hkk, V, st, hB, _⟩ := id hqx
              have x4 : wr.cell? ⟨g, 4, none⟩ = some (.int .i64 k) := hB.cell 4
              have hd5 : (k != 0) = true := by simp; omega
              clear hkk hB
              go_wp2_with fail
              rw [HE.out]
              exact bodyPost_ret (results_none rfl _ _ _) rfl ⟨⟨_, rfl⟩, hqx, hkx⟩
          | succ m =>
            have hm1 : ((m + 1 : Nat) : Int) > 0 := by omega
            have w7 : IntKind.i64.wrap (((m + 1 : Nat) : Int) - 1) = (m : Int) := by rw [show (((m + 1 : Nat) : Int) - 1) = (m : Int) by omega]; exact IntWalk.i64_in _ (by omega)
            cases x with
            | ok s3 =>
              go_wp2_with fail
              refine (HSTEP.out s3 wr hqx).mono ?_
              rintro e W3 ⟨⟨ok, rfl, hok⟩, hq3, hk5⟩
              have hk6 := hkx.trans hk5
              by_cases h0 : s3.left = 0
              · rw [stepLs_err h0] at hok hq3
                have HE : Hid (runLp (segL rs i j) s = .error 5) := Lib.hid (by rw [HSX.out]; simp only [Except.bind, timesLs, stepLs_err h0])
                subst hok
                obtain ⟨hkk, V, st, hB, _⟩ := id hq3
                have x4 : W3.cell? ⟨g, 4, none⟩ = some (.int .i64 5) := hB.cell 4
                clear h0 hB hkk
                go_wp2_with fail
                rw [HE.out]
                exact bodyPost_ret (results_none rfl _ _ _) rfl ⟨⟨_, rfl⟩, hq3, hk6⟩
              rw [stepLs_ok h0] at hok hq3
              have HSY : Hid (runLp (segL rs i j) s = ((f ⟨s3.vs, s3.left - 1⟩).bind (timesLs f m)).bind (runLp (segL rs e1 j))) := Lib.hid (by rw [HSX.out]; simp only [Except.bind, timesLs, stepLs_ok h0])
              subst hok
              clear h0
              go_wp2_with fail
              refine (HREC.out _ W3 hq3).mono ?_
              rintro e W4 ⟨⟨u, rfl⟩, hq4, hk7⟩
              go_wp2_with fail
              exact ⟨⟨m, _, by go_num, by omega, hq4, HSY, hk6.trans hk7⟩, by simp [intOf]⟩
            | error k =>
              have HE : Hid (runLp (segL rs i j) s = .error k) := Lib.hid (by rw [HSX.out]; rfl)
              obtain ⟨hkk, V, st, hB, _⟩ := id hqx
              have HST := Lib.hid (l17Step_err w0 g (.slice B n cL) bud k wr hqx.2 hkk)
              have hd5 : (k != 0) = true := by simp; omega
              clear hB
              go_wp2_with fail
              refine HST.out.mono ?_
              rintro e W3 ⟨rfl, he3, hk5⟩
              obtain ⟨V3, st3, hB3, _⟩ := id he3
              have x4 : W3.cell? ⟨g, 4, none⟩ = some (.int .i64 k) := hB3.cell 4
              clear hB3
              go_wp2_with fail
              rw [HE.out]
              exact bodyPost_ret (results_none rfl _ _ _) rfl ⟨⟨_, rfl⟩, ⟨hkk, he3⟩, hkx.trans hk5⟩
      · have hd3 : (r.a == 3) = false := by simpa using h3
        have hd4 : (r.a == 4) = true := by simp; omega
        have HS2 : Hid (runLp (segL rs i j) s = ((Except.ok s1).bind fun s => (stepLs s).bind (againLs f kb s1.left)).bind (runLp (segL rs e1 j))) := Lib.hid (by
          rw [HS1.out]
          by_cases h0 : s1.left = 0
          · simp only [Except.bind, stepLs_err h0]
          · simp only [Except.bind, stepLs_ok h0]
            rw [if_neg h3, show s1.left - 1 + 1 = s1.left by omega])
        clear h3 hf
        go_upto_region 5 with fail
        rw [← HW1.out]
        go_wp2_with fail
        clear hbl q0 q1 q2 g0 z1 HW1
        generalize wr.heap.size = xb at *
        have j1 : (0 : Int) ≤ (kb : Int) := by omega
        have j2 : (kb : Int) < 16 := by omega
        clear x0 x1 x2
        go_loopw [] (fun wx => ∃ (m : Nat) (x : Except Int Ls), (∀ s, x = .ok s → s.left ≤ m) ∧ LpQ w0 g (.slice B n cL) A c bud x wx ∧ Hid (runLp (segL rs i j) s = (x.bind fun s => (stepLs s).bind (againLs f kb m)).bind (runLp (segL rs e1 j))) ∧ KL W wx ∧ Blk wx xb 64 #[.int .i64 r.a, .int .i64 r.b, .int .i64 r.c]) (fun wx => lpM g bud wx)
        case atStart => exact ⟨s1.left, .ok s1, fun s h => by cases h; exact Nat.le_refl _, hq1, HS2, hk2, b1⟩
        case round =>
          obtain ⟨m, x, hxm, hqx, HSX, hkx, bx⟩ := hrel
          clear hk2 hq1 b1
          cases x with
          | error k =>
            have HE : Hid (runLp (segL rs i j) s = .error k) := Lib.hid (by rw [HSX.out]; rfl)
            obtain ⟨hkk, V, st, hB, _⟩ := id hqx
            have hqd : LpE w0 g (.slice B n cL) bud k wr.drew := (hqx.below (below_drewN (Below.refl _ _) 1)).2
            have HST := Lib.hid (l17Step_err w0 g (.slice B n cL) bud k wr.drew hqd hkk)
            have hd5 : (k != 0) = true := by simp; omega
            have hkd : KL W wr.drew := hkx.trans (KL.of_below (below_drewN (Below.refl _ _) 1))
            clear hB
            go_upto_region 16 with fail
            refine wp_region_head2 (by kernel_rfl) (by kernel_rfl) (by kernel_rfl) (by kernel_rfl) rfl rfl (by kernel_rfl) (fun K0 hK0 => ?_)
            go_simp
            refine hK0 _ _ (fun K1 hK1 => ?_)
            clear hK0 K0
            try simp only [Act.put, List.setIfInBounds_toArray, List.set_cons_zero, List.set_cons_succ]
            go_simp
            refine HST.out.mono ?_
            rintro e W3 ⟨rfl, he3, hk5⟩
            refine hK1 _ _ ?_
            clear hK1 K1
            try simp only [Act.put, List.setIfInBounds_toArray, List.set_cons_zero, List.set_cons_succ]
            repeat (go_big_quiet_step (fail))
            refine wpQuiet_nil ?_
            rintro _ ⟨nq, rfl⟩
            obtain ⟨V3, st3, hB3, _⟩ := id he3
            have x4 : W3.cell? ⟨g, 4, none⟩ = some (.int .i64 k) := hB3.cell 4
            clear hB3
            go_wp2_with fail
            rw [HE.out]
            exact bodyPost_ret (results_none rfl _ _ _) rfl ⟨⟨_, rfl⟩, (LpQ.below (x := .error k) ⟨hkk, he3⟩ (below_drewN (Below.refl _ _) _)), (hkd.trans hk5).trans (KL.of_below (below_drewN (Below.refl _ _) _))⟩
          | ok s2 =>
            have hqd : LpQ w0 g (.slice B n cL) A c bud (.ok s2) wr.drew := hqx.below (below_drewN (Below.refl _ _) 1)
            have hkd : KL W wr.drew := hkx.trans (KL.of_below (below_drewN (Below.refl _ _) 1))
            by_cases h0 : s2.left = 0
            · have HE : Hid (runLp (segL rs i j) s = .error 5) := Lib.hid (by rw [HSX.out]; simp only [Except.bind, stepLs_err h0])
              have HST : Hid (Calls Tryd.prog 89 #[.pointer (some ⟨g, 0, none⟩)] wr.drew fun e W' => e = .returned (.bool false) ∧ LpQ w0 g (.slice B n cL) A c bud (.error 5) W' ∧ KL wr.drew W') := Lib.hid ((HSTEP.out s2 wr.drew hqd).mono (by
                rintro e W' ⟨⟨ok, rfl, hok⟩, h1, h2⟩
                rw [stepLs_err h0] at hok h1
                exact ⟨by rw [hok], h1, h2⟩))
              clear h0
              go_upto_region 16 with fail
              refine wp_region_head2 (by kernel_rfl) (by kernel_rfl) (by kernel_rfl) (by kernel_rfl) rfl rfl (by kernel_rfl) (fun K0 hK0 => ?_)
              go_simp
              refine hK0 _ _ (fun K1 hK1 => ?_)
              clear hK0 K0
              try simp only [Act.put, List.setIfInBounds_toArray, List.set_cons_zero, List.set_cons_succ]
              go_simp
              refine HST.out.mono ?_
              rintro e W3 ⟨rfl, he3, hk5⟩
              refine hK1 _ _ ?_
              clear hK1 K1
              try simp only [Act.put, List.setIfInBounds_toArray, List.set_cons_zero, List.set_cons_succ]
              repeat (go_big_quiet_step (fail))
              refine wpQuiet_nil ?_
              rintro _ ⟨nq, rfl⟩
              obtain ⟨_, V3, st3, hB3, _⟩ := id he3
              have x4 : W3.cell? ⟨g, 4, none⟩ = some (.int .i64 5) := hB3.cell 4
              clear hB3
              go_wp2_with fail
              rw [HE.out]
              exact bodyPost_ret (results_none rfl _ _ _) rfl ⟨⟨_, rfl⟩, he3.below (below_drewN (Below.refl _ _) _), (hkd.trans hk5).trans (KL.of_below (below_drewN (Below.refl _ _) _))⟩
            obtain ⟨s3, hs3⟩ : ∃ s3 : Ls, s3 = ⟨s2.vs, s2.left - 1⟩ := ⟨_, rfl⟩
            obtain ⟨m1, rfl⟩ : ∃ m1, m = m1 + 1 := ⟨m - 1, by have := hxm s2 rfl; omega⟩
            have hm3 : s3.left ≤ m1 := by have := hxm s2 rfl; rw [hs3]; dsimp only; omega
            have hms : s3.left < s2.left := by rw [hs3]; dsimp only; omega
            have HSY : Hid (runLp (segL rs i j) s = (againLs f kb (m1 + 1) s3).bind (runLp (segL rs e1 j))) := Lib.hid (by rw [HSX.out, hs3]; simp only [Except.bind, stepLs_ok h0])
            obtain ⟨ab, ao, rfl, _, _, y0, _⟩ := hqd.2.2.at_ hkb16
            obtain ⟨v, hv⟩ : ∃ v, s2.vs.getD kb 0 = v := ⟨_, rfl⟩
            have hv2 := getD_ok hqd.2.1 kb
            rw [hv] at y0 hv2
            have hv3 : s3.vs.getD kb 0 = v := by rw [hs3]; exact hv
            have bd := (KL.of_below (below_drewN (Below.refl wr.heap.size wr) 1)) _ _ bx
            have HST : Hid (Calls Tryd.prog 89 #[.pointer (some ⟨g, 0, none⟩)] wr.drew fun e W' => e = .returned (.bool true) ∧ (LpQ w0 g (.slice B n cL) (some ⟨ab, ao, none⟩) c bud (.ok s3) W' ∧ KL wr.drew W') ∧
                W'.cell? ⟨g, 1, none⟩ = some (.slice (some ⟨ab, ao, none⟩) 16 c) ∧ W'.cell? ⟨xb, 1, none⟩ = some (.int .i64 kb) ∧ W'.cell? ⟨ab, ao + kb, none⟩ = some (.int .i64 v)) := Lib.hid ((HSTEP.out s2 wr.drew hqd).mono (by
              rintro e W' ⟨⟨ok, rfl, hok⟩, h1, h2⟩
              rw [stepLs_ok h0, ← hs3] at h1
              rw [stepLs_ok h0] at hok
              refine ⟨by rw [hok], ⟨h1, h2⟩, h1.2.2.box.cell 1, ?_, ?_⟩
              · have := (h2 _ _ bd).cell 1
                rw [← HKB.out]; exact this
              · obtain ⟨b', off', he, _, _, y, _⟩ := h1.2.2.at_ hkb16
                simp only [Option.some.injEq, Addr.mk.injEq, and_true] at he
                obtain ⟨rfl, rfl⟩ := he
                rw [y, hv3]))
            have z1 : wr.drew.cell? ⟨g, 1, none⟩ = some (.slice (some ⟨ab, ao, none⟩) 16 c) := hqd.2.2.box.cell 1
            have z2 : wr.drew.cell? ⟨xb, 1, none⟩ = some (.int .i64 kb) := by rw [← HKB.out]; exact bd.cell 1
            have z3 := y0
            clear h0 hs3 hv y0
            go_upto_region 16 with fail
            refine wp_region_head2 (by kernel_rfl) (by kernel_rfl) (by kernel_rfl) (by kernel_rfl) rfl rfl (by kernel_rfl) (fun K0 hK0 => ?_)
            go_simp
            refine hK0 _ _ (fun K1 hK1 => ?_)
            clear hK0 K0
            try simp only [Act.put, List.setIfInBounds_toArray, List.set_cons_zero, List.set_cons_succ]
            go_simp
            refine HST.out.mono ?_
            rintro e W3 ⟨rfl, ⟨hq3, hk5⟩, y1, y2, y3⟩
            refine hK1 _ _ ?_
            clear hK1 K1
            try simp only [Act.put, List.setIfInBounds_toArray, List.set_cons_zero, List.set_cons_succ]
            repeat (go_big_quiet_step (fail))
            refine wpQuiet_nil ?_
            rintro _ ⟨nq, rfl⟩
            have hq4 := hq3.below (below_drewN (Below.refl W3.heap.size W3) nq)
            have hk6 := hk5.trans (KL.of_below (below_drewN (Below.refl W3.heap.size W3) nq))
            clear hq3 y1 y2 y3 z1 z2 z3
            by_cases h0 : v = 0
            · have hd5 : ¬ v > 0 := by omega
              have HE : Hid (runLp (segL rs i j) s = runLp (segL rs e1 j) s3) := Lib.hid (by rw [HSY.out, againLs, if_pos (hv3.trans h0)]; rfl)
              have x4 : W3.cell? ⟨g, 4, none⟩ = some (.int .i64 0) := hq4.2.2.box.cell 4
              clear h0
              go_wp2_with fail
              exact ⟨⟨e1, s3, by omega, by omega, by go_num, HVR, HE, hq4, hkd.trans hk6⟩, by simp [intOf]; omega⟩
            · have hd5 : v > 0 := by omega
              have HSZ : Hid (runLp (segL rs i j) s = ((f s3).bind fun s => (stepLs s).bind (againLs f kb m1)).bind (runLp (segL rs e1 j))) := Lib.hid (by rw [HSY.out, againLs, if_neg (by rw [hv3]; exact h0)])
              clear h0
              go_wp2_with fail
              refine (HREC.out s3 _ hq4).mono ?_
              rintro e W4 ⟨⟨u, rfl⟩, hq5, hk7⟩
              have HM : Hid (lpM g bud W4 < lpM g bud wr) := Lib.hid (by
                rw [hqx.m_ok]
                cases hfs : f s3 with
                | ok s' =>
                  rw [hfs] at hq5
                  rw [hq5.m_ok]
                  have := HFL.out _ _ hfs
                  omega
                | error k =>
                  rw [hfs] at hq5
                  rw [hq5.m_err]; omega)
              have HK4 := Lib.hid (⟨hkd.trans (hk6.trans hk7), (hk6.trans hk7) _ _ bd⟩ : _ ∧ _)
              have HX4 : Hid (∀ s, f s3 = .ok s → s.left ≤ m1) := Lib.hid (fun s h => by have := HFL.out _ _ h; omega)
              go_wp2_with fail
              exact ⟨⟨m1, _, HX4.out, hq5, HSZ, HK4.out.1, HK4.out.2⟩, HM.out⟩
    · have HNL := Lib.hid (bool_false (isLoopB_iff r) hf)
      have HVF := HV.out
      rw [HSC.out, validLp_flat HNL.out, ← ht1] at HVF
      simp only [Bool.and_eq_true] at HVF
      obtain ⟨_, hfl, hvr⟩ := HVF
      have hfl2 := (flatB_iff r).1 hfl
      have hd3 : (r.a == 3) = false := by simp; omega
      have hd4 : (r.a == 4) = false := by simp; omega
      have ht2 : t + 1 = t1 := ht1.symm
      have HS1 : Hid (runLp (segL rs i j) s = (stepLs s1).bind fun s2 => (simpleLs r s2).bind fun s3 => runLp (segL rs t1 j) s3) := Lib.hid (by
        rw [HR.out, HSC.out, runLp_cons, ← ht1]
        congr 1; funext s2
        rw [if_neg (by omega), if_neg (by omega)])
      have HSI := Lib.hid (fun s W h hx => l17Simple_any w0 g wr.heap.size (.slice B n cL) A c bud s r W h hx (by omega) hrb (by omega))
      have hrc : 0 ≤ r.c ∧ r.c ≤ 15 := by omega
      have w3 : IntKind.i64.wrap ((t : Int) + 1) = (t1 : Int) := by rw [show ((t : Int) + 1) = (t1 : Int) by omega]; exact IntWalk.i64_in _ (by omega)
      have w4 : IntKind.i64.wrap ((t1 : Int) + r.c) = (t1 : Int) + r.c := IntWalk.i64_in _ (by omega)
      clear hf hfl hfl2 ht1
      go_upto_region 5 with fail
      rw [← HW1.out]
      go_wp2_with fail
      refine (HSTEP.out s1 W1 hq1).mono ?_
      rintro e W2 ⟨⟨ok, rfl, hok⟩, hq2, hk3⟩
      have b2 := hk3 _ _ b1
      have hk4 := hk2.trans hk3
      clear x0 x1 x2
      by_cases h0 : s1.left = 0
      · rw [stepLs_err h0] at hok hq2
        have HE : Hid (runLp (segL rs i j) s = .error 5) := Lib.hid (by rw [HS1.out, stepLs_err h0]; rfl)
        subst hok
        clear h0
        go_wp2_with fail
        rw [HE.out]
        exact bodyPost_ret (results_none rfl _ _ _) rfl ⟨⟨_, rfl⟩, hq2, hk4⟩
      rw [stepLs_ok h0] at hok hq2
      have HS2 : Hid (runLp (segL rs i j) s = (simpleLs r ⟨s1.vs, s1.left - 1⟩).bind fun s3 => runLp (segL rs t1 j) s3) := Lib.hid (by rw [HS1.out, stepLs_ok h0]; rfl)
      subst hok
      clear h0
      go_wp2_with fail
      refine (HSI.out _ W2 hq2 b2).mono ?_
      rintro e W3 ⟨⟨u, rfl⟩, hq3, hk5⟩
      have hk6 := hk4.trans hk5
      cases hsi : simpleLs r ⟨s1.vs, s1.left - 1⟩ with
      | error k =>
        rw [hsi] at hq3
        have HE : Hid (runLp (segL rs i j) s = .error k) := Lib.hid (by rw [HS2.out, hsi]; rfl)
        obtain ⟨hkk, V, st, hB, _⟩ := id hq3
        have x4 : W3.cell? ⟨g, 4, none⟩ = some (.int .i64 k) := hB.cell 4
        have hd5 : (k != 0) = true := by simp; omega
        clear hsi hkk hB
        go_wp2_with fail
        rw [HE.out]
        exact bodyPost_ret (results_none rfl _ _ _) rfl ⟨⟨_, rfl⟩, hq3, hk6⟩
      | ok s3 =>
        rw [hsi] at hq3
        have HE : Hid (runLp (segL rs i j) s = runLp (segL rs t1 j) s3) := Lib.hid (by rw [HS2.out, hsi]; rfl)
        have x4 : W3.cell? ⟨g, 4, none⟩ = some (.int .i64 0) := hq3.2.2.box.cell 4
        clear hsi
        go_wp2_with fail
        exact ⟨⟨t1, s3, by omega, by omega, by go_num, Lib.hid hvr, HE, hq3, hk6⟩, by simp [intOf]; omega⟩
end Go.Proofs.YtacajmgokdgbgaaDoor

/-
  Are all contents within 0 and 1000000: l07Counts and impl.allWithin.
-/
namespace Go.Proofs.YtacajmgokdgbgaaDoor
open Go.RowKit

def countsB (xs : List Int) : Bool := xs.all fun v => inB v 0 1000000
theorem countsB_step {xs : List Int} {k : Nat} {v : Int} (h : xs[k]? = some v) : countsB (xs.drop k) = (inB v 0 1000000 && countsB (xs.drop (k + 1))) := by
  obtain ⟨hl, he⟩ := List.getElem?_eq_some_iff.1 h
  unfold countsB
  rw [List.drop_eq_getElem_cons hl, he]; rfl
theorem countsB_end {xs : List Int} {k : Nat} (h : xs.length ≤ k) : countsB (xs.drop k) = true := by
  unfold countsB
  rw [List.drop_eq_nil_iff.2 h]; rfl
theorem countsB_iff (xs : List Int) : countsB xs = true ↔ ∀ v ∈ xs, 0 ≤ v ∧ v ≤ 1000000 := by
  unfold countsB
  rw [List.all_eq_true]
  exact ⟨fun h v hv => (inB_iff _ _ _).1 (h v hv), fun h v hv => (inB_iff _ _ _).2 (h v hv)⟩
theorem l07Counts_any (A : Option Addr) (n c : Nat) (xs : List Int) (w : World) (hx : SI w A n xs) (hn : n ≤ 1048576) :
    Calls Tryd.prog 32 #[.slice A n c] w fun e w' => e = .returned (.bool (countsB xs)) ∧ w = w' := by
  have HL := Lib.hid hx.len
  have HX := Lib.hid hx
  clear hx
  go_enter Tryd.func32, Tryd.ntmps32
  go_wp2_with fail
  go_loopw [3] (fun i wr => ∃ k : Nat, k ≤ n ∧ i = .int .i64 k ∧ Hid (countsB xs = countsB (xs.drop k)) ∧ wr = w) (fun i _ => n - (intOf i).toNat)
  case atStart => exact ⟨0, by omega, rfl, Lib.hid rfl, rfl⟩
  case round =>
    obtain ⟨k, hk, rfl, HC, rfl⟩ := hrel
    by_cases hlt : k < n
    · obtain ⟨b, off, rfl, hbl, q0⟩ := HX.out.at_ (k := k) hlt
      obtain ⟨v, hv⟩ : ∃ v, xs[k]'(by rw [HL.out]; exact hlt) = v := ⟨_, rfl⟩
      rw [hv] at q0
      have HC2 : Hid (countsB xs = (inB v 0 1000000 && countsB (xs.drop (k + 1)))) := Lib.hid (by rw [HC.out]; exact countsB_step (List.getElem?_eq_some_iff.2 ⟨_, hv⟩))
      clear hv
      cases hb : inB v 0 1000000 with
      | false =>
        have HF : Hid (countsB xs = false) := Lib.hid (by rw [HC2.out, hb]; rfl)
        go_wp2_with (go_at_call 61; refine (l00In_is hb _).mono ?_; rintro e w' ⟨rfl, rfl⟩)
        go_ret
        exact ⟨ret_bool HF.out.symm, rfl⟩
      | true =>
        have HF : Hid (countsB xs = countsB (xs.drop (k + 1))) := Lib.hid (by rw [HC2.out, hb]; rfl)
        go_wp2_with (go_at_call 61; refine (l00In_is hb _).mono ?_; rintro e w' ⟨rfl, rfl⟩)
        exact ⟨⟨k + 1, by omega, by go_num, HF, trivial⟩, by simp [intOf]; omega⟩
    · have HF : Hid (countsB xs = true) := Lib.hid (by rw [HC.out]; exact countsB_end (by rw [HL.out]; omega))
      go_wp2_with fail
      go_ret
      exact ⟨ret_bool HF.out.symm, rfl⟩
theorem countsB_eq (xs : List Int) : countsB xs = allIn xs 0 1000000 := rfl
end Go.Proofs.YtacajmgokdgbgaaDoor

/-
  Contract of the reference's l05Budget.
-/
namespace Go.Proofs.YtacajmgokdgbgaaDoor
open Go.RowKit

theorem l05Budget_any (b : Int) (w : World) : Calls Tryd.prog 31 #[.int .i64 b] w fun e w' => e = .returned (.bool (inB b 1 20000)) ∧ w = w' := by
  go_enter Tryd.func31, Tryd.ntmps31
  go_wp2_with (go_at_call 61; refine (l00In_any _ _ _ _).mono ?_; rintro e w' ⟨rfl, rfl⟩)
  go_ret
  exact ⟨rfl, rfl⟩
theorem l05Budget_is {b : Int} {v : Bool} (h : inB b 1 20000 = v) (w : World) : Calls Tryd.prog 31 #[.int .i64 b] w fun e w' => e = .returned (.bool v) ∧ w = w' := h ▸ l05Budget_any b w
end Go.Proofs.YtacajmgokdgbgaaDoor

/-
  The reference's l17Play and RunLoop.
-/
namespace Go.Proofs.YtacajmgokdgbgaaDoor
open Go.RowKit

/-- The contents, with zeroes up to sixteen. -/
def padL (xs : List Int) : List Int := xs ++ List.replicate (16 - xs.length) 0
theorem padL_step (xs : List Int) (k : Nat) : (xs ++ List.replicate (k - xs.length) (0 : Int)) ++ [0] = xs ++ List.replicate (k - xs.length + 1) 0 := by
  rw [List.append_assoc, ← List.replicate_succ']
/-- How many are wanting. -/
def padM (g : Nat) (W : World) : Nat :=
  match W.cell? ⟨g, 1, none⟩ with
  | some (.slice _ k _) => 16 - k
  | _ => 0
theorem padM_of {g k c : Nat} {A : Option Addr} {W : World} (h : W.cell? ⟨g, 1, none⟩ = some (.slice A k c)) : padM g W = 16 - k := by unfold padM; rw [h]
/-- What a run that began answers. -/
def PlayP (w0 : World) (B : Option Addr) (n cL bud : Nat) (x : Except Int Ls) (e : Ending) (W : World) : Prop :=
  ∃ g A c, e = .returned (.pointer (some ⟨g, 0, none⟩)) ∧ LpQ w0 g (.slice B n cL) A c bud x W
set_option maxRecDepth 100000 in
set_option maxHeartbeats 8000000 in
theorem l17Play_any (B : Option Addr) (n cL : Nat) (rs : List R3) (C : Option Addr) (m d : Nat) (xs : List Int) (bud : Nat) (w : World) (hx : S3 w B n rs) (hn : n ≤ 1048576) (hy : SI w C m xs) (hm : m ≤ 16) (hv : ∀ v ∈ xs, 0 ≤ v ∧ v ≤ 1000000) (hr : validLp rs 0 = true) (hb : bud ≤ 1000000) :
    Calls Tryd.prog 33 #[.slice B n cL, .slice C m d, .int .i64 (bud : Int)] w (PlayP w B n cL bud (runLp rs ⟨padL xs, bud⟩)) := by
  have hxl := hy.len
  have hrl := hx.len
  have HOWN := Lib.hid (l00Own_any C m d xs w hy (by omega))
  have HDO : Hid (∀ g A c W, LpQ w g (.slice B n cL) A c bud (.ok ⟨padL xs, bud⟩) W → Calls Tryd.prog 63 #[.pointer (some ⟨g, 0, none⟩), .int .i64 (0 : Int), .int .i64 (n : Int)] W fun e W' => (∃ u, e = .returned u) ∧ LpQ w g (.slice B n cL) A c bud (runLp rs ⟨padL xs, bud⟩) W' ∧ KL W W') := Lib.hid (fun g A c W h => by
    have hs : segL rs 0 n = rs := by rw [← hrl]; exact segL_all rs
    have := l17Do_any w g B n cL rs A c bud hx hn hb n 0 n 0 ⟨padL xs, bud⟩ W (Nat.zero_le _) (Nat.le_refl _) (by omega) (by rw [hs]; exact hr) h
    rw [hs] at this
    exact this)
  have HV : Hid (∀ v ∈ padL xs, 0 ≤ v ∧ v ≤ 1000000) := Lib.hid (fun v h => by
    unfold padL at h
    rcases List.mem_append.1 h with h | h
    · exact hv v h
    · rw [List.eq_of_mem_replicate h]; exact ⟨by decide, by decide⟩)
  have HXL := Lib.hid hxl
  clear hx hy hr hrl hv
  go_enter Tryd.func33, Tryd.ntmps33
  go_wp2_with (go_at_call 62; refine HOWN.out.mono ?_; rintro e W1 ⟨A1, c1, rfl, ho1, hb1⟩)
  rw [HXL.out] at ho1
  clear hxl
  obtain ⟨W2, hW2⟩ : ∃ W2, W2 = W1.alloc (.cells #[.slice B n cL, .slice A1 m c1, .int .i64 bud, .int .i64 0, .int .i64 0] 62) := ⟨_, rfl⟩
  have hB2 : Blk W2 W1.heap.size 62 #[.slice B n cL, .slice A1 m c1, .int .i64 bud, .int .i64 0, .int .i64 0] := by rw [hW2]; exact Blk.new _ _ _
  have ho2 : Own W2 w.heap.size 2 1 A1 m c1 (ints xs) := by rw [hW2]; exact ho1.alloc _
  have hz2 : Below w.heap.size w W2 := by rw [hW2]; exact hb1.alloc hb1.size _
  have hlg : w.heap.size ≤ W1.heap.size := hb1.size
  rw [← hW2]
  clear hW2 ho1 hb1
  generalize W1.heap.size = g at *
  go_loopw [] (fun wr => ∃ (k c : Nat) (A : Option Addr), m ≤ k ∧ k ≤ 16 ∧ Blk wr g 62 #[.slice B n cL, .slice A k c, .int .i64 bud, .int .i64 0, .int .i64 0] ∧ Own wr w.heap.size 2 1 A k c (ints (xs ++ List.replicate (k - m) 0)) ∧ Below w.heap.size w wr) (fun wr => padM g wr)
  case atStart => exact ⟨m, c1, A1, Nat.le_refl _, hm, hB2, by rw [Nat.sub_self]; simpa using ho2, hz2⟩
  case round =>
    clear hB2 ho2 hz2
    obtain ⟨k, c, A, hmk, hk, hB, ho, hz⟩ := hrel
    have x1 : wr.cell? ⟨g, 1, none⟩ = some (.slice A k c) := hB.cell 1
    have HM0 := Lib.hid (padM_of x1)
    by_cases hlt : k < 16
    · have hl2 : (k : Int) < 16 := by omega
      go_wp2_with (at_builtin; refine wpList_append_Own rfl (.tmp 24) (.tmp 25) rfl elI (lo := w.heap.size) rfl (ho.alloc _) rfl (Rd.new1 wr (.int .i64 0) _) (by simp [Value.oneCell']) (by omega) (by simp only [maxLen]; omega) (by simp; have := hz.size; omega) ?_; intro A2 c2 w2 ho3 hg3 hw3; have hb3 := (hB.alloc (.cells #[.int .i64 0] 2)).grown (ho.alloc _) hg3 (by decide); have cc1 := hb3.cell 1; have ff1 := hb3.frozen 1)
      have he : ints (xs ++ List.replicate (k - m) 0) ++ [Value.int .i64 0] = ints (xs ++ List.replicate (k + 1 - m) 0) := by
        rw [show k + 1 - m = k - m + 1 by omega, List.replicate_succ', ← List.append_assoc]; simp [ints]
      have ho4 : Own w2 w.heap.size 2 1 A2 (k + 1) c2 (ints (xs ++ List.replicate (k + 1 - m) 0)) := by rw [← he]; exact ho3
      have hBF := hb3.set_ 1 (.slice A2 (k + 1) c2)
      have hz3 := (ho.alloc (.cells #[.int .i64 0] 2)).below_of (hz.alloc hz.size _) hg3 (by simp; have := hz.size; omega)
      have hM : padM g (w2.setCell ⟨g, 1, none⟩ (.slice A2 (k + 1) c2)) < padM g wr := by
        rw [HM0.out, padM_of (hBF.cell 1)]; omega
      exact ⟨⟨k + 1, c2, A2, by omega, by omega, hBF, ho4.far (p := ⟨g, 1, none⟩) (hb3.apt ho4 (by decide)) _, hz3.setCell (p := ⟨g, 1, none⟩) hlg _⟩, hM⟩
    · obtain rfl : k = 16 := by omega
      have hl2 : ¬ ((16 : Nat) : Int) < 16 := by decide
      have hq : LpQ w g (.slice B n cL) A c bud (.ok ⟨padL xs, bud⟩) wr := ⟨Nat.le_refl _, HV.out, ⟨by rw [show (bud : Int) - ((bud : Nat) : Int) = 0 by omega]; exact hB, by unfold padL; rw [HXL.out]; exact ho, hz, hlg⟩⟩
      go_wp2_with fail
      refine (HDO.out g A c wr hq).mono ?_
      rintro e W3 ⟨⟨u, rfl⟩, hq3, _⟩
      go_wp2_with fail
      go_ret
      exact ⟨g, A, c, rfl, hq3⟩
/-- What RunLoop answers. -/
def runLoopF (rs : List R3) (xs : List Int) (b : Int) : List Int × Int × Int :=
  if (decide (rs.length ≤ 150) && validLp rs 0) = false then ([], 0, 1)
  else if inB b 1 20000 = false ∨ 16 < xs.length ∨ countsB xs = false then ([], 0, 2)
  else match runLp rs ⟨padL xs, b.toNat⟩ with
    | .ok s => (s.vs, (b.toNat : Int) - s.left, 0)
    | .error k => ([], 0, k)
/-- A slice in new memory and two numbers. -/
def NewI3 (w : World) (r : List Int × Int × Int) (e : Ending) (w' : World) : Prop :=
  ∃ A c, e = .returned (.tuple #[.slice A r.1.length c, .int .i64 r.2.1, .int .i64 r.2.2]) ∧ Own w' w.heap.size 2 1 A r.1.length c (ints r.1) ∧ Below w.heap.size w w'
theorem l07Counts_is {A : Option Addr} {n c : Nat} {xs : List Int} {w : World} {v : Bool} (hx : SI w A n xs) (hn : n ≤ 1048576) (h : countsB xs = v) :
    Calls Tryd.prog 32 #[.slice A n c] w fun e w' => e = .returned (.bool v) ∧ w = w' := h ▸ l07Counts_any A n c xs w hx hn
set_option maxRecDepth 100000 in
set_option maxHeartbeats 8000000 in
theorem specRunLoop_any (B : Option Addr) (n cL : Nat) (rs : List R3) (C : Option Addr) (m d : Nat) (xs : List Int) (b : Int) (w : World) (hx : S3 w B n rs) (hn : n ≤ 1048576) (hy : SI w C m xs) (hm : m ≤ 1048576) :
    Calls Tryd.prog 8 #[.slice B n cL, .slice C m d, .int .i64 b] w (NewI3 w (runLoopF rs xs b)) := by
  have HIS := Lib.hid (l17Is_any B n cL rs w hx hn)
  have HX := Lib.hid hx
  have HY := Lib.hid hy
  have HM := Lib.hid hy.len
  clear hx hy
  cases hv : (decide (rs.length ≤ 150) && validLp rs 0) with
  | false =>
    have HF : Hid (runLoopF rs xs b = ([], 0, 1)) := Lib.hid (by unfold runLoopF; rw [if_pos hv])
    rw [hv] at HIS
    clear hv
    rw [HF.out]
    go_enter Tryd.func8, Tryd.ntmps8
    go_wp2_with (go_at_call 30; refine HIS.out.mono ?_; rintro e w1 ⟨rfl, z1⟩)
    exact bodyPost_ret (v := .tuple #[.slice none 0 0, .int .i64 0, .int .i64 1]) (by simp [results, Tryd.results8, go_sem]) rfl ⟨none, 0, rfl, Own.nil, z1⟩
  | true =>
    rw [hv] at HIS
    have HVB : Hid (validLp rs 0 = true) := Lib.hid (by simp only [Bool.and_eq_true] at hv; exact hv.2)
    have HC : Hid (∀ w1, Below w.heap.size w w1 → Calls Tryd.prog 32 #[.slice C m d] w1 fun e w' => e = .returned (.bool (countsB xs)) ∧ w1 = w') := Lib.hid (fun w1 z => l07Counts_any C m d xs w1 (Rd.below HY.out z) hm)
    by_cases hbad : inB b 1 20000 = false ∨ 16 < xs.length ∨ countsB xs = false
    · have HF : Hid (runLoopF rs xs b = ([], 0, 2)) := Lib.hid (by unfold runLoopF; rw [if_neg (by rw [hv]; decide), if_pos hbad])
      rw [HM.out] at hbad
      rw [HF.out]
      clear hv HF
      cases hbb : inB b 1 20000 with
      | false =>
        have HBB := Lib.hid hbb
        clear hbb hbad
        go_enter Tryd.func8, Tryd.ntmps8
        go_wp2_with (first | (go_at_call 30; refine HIS.out.mono ?_; rintro e w1 ⟨rfl, z1⟩) | (go_at_call 31; refine (l05Budget_is HBB.out _).mono ?_; rintro e w' ⟨rfl, rfl⟩))
        exact bodyPost_ret (v := .tuple #[.slice none 0 0, .int .i64 0, .int .i64 2]) (by simp [results, Tryd.results8, go_sem]) rfl ⟨none, 0, rfl, Own.nil, z1⟩
      | true =>
        have HBB := Lib.hid hbb
        by_cases hm2 : 16 < m
        · have hm3 : (m : Int) > 16 := by omega
          clear hbb hbad
          go_enter Tryd.func8, Tryd.ntmps8
          go_wp2_with (first | (go_at_call 30; refine HIS.out.mono ?_; rintro e w1 ⟨rfl, z1⟩) | (go_at_call 31; refine (l05Budget_is HBB.out _).mono ?_; rintro e w' ⟨rfl, rfl⟩))
          exact bodyPost_ret (v := .tuple #[.slice none 0 0, .int .i64 0, .int .i64 2]) (by simp [results, Tryd.results8, go_sem]) rfl ⟨none, 0, rfl, Own.nil, z1⟩
        · have hm3 : ¬ (m : Int) > 16 := by omega
          have hcb : countsB xs = false := by rcases hbad with h | h | h
                                              · rw [hbb] at h; cases h
                                              · omega
                                              · exact h
          rw [hcb] at HC
          clear hbb hbad hcb
          go_enter Tryd.func8, Tryd.ntmps8
          go_wp2_with (first | (go_at_call 30; refine HIS.out.mono ?_; rintro e w1 ⟨rfl, z1⟩) | (go_at_call 31; refine (l05Budget_is HBB.out _).mono ?_; rintro e w' ⟨rfl, rfl⟩) | (go_at_call 32; refine (HC.out _ z1).mono ?_; rintro e w' ⟨rfl, rfl⟩))
          exact bodyPost_ret (v := .tuple #[.slice none 0 0, .int .i64 0, .int .i64 2]) (by simp [results, Tryd.results8, go_sem]) rfl ⟨none, 0, rfl, Own.nil, z1⟩
    · have hbb : inB b 1 20000 = true := by cases h : inB b 1 20000 <;> simp_all
      have hcb : countsB xs = true := by cases h : countsB xs <;> simp_all
      have hm2 : m ≤ 16 := by have := HM.out; omega
      have hm3 : ¬ (m : Int) > 16 := by omega
      obtain ⟨hb1, hb2⟩ := (inB_iff _ _ _).1 hbb
      obtain ⟨bud, rfl⟩ : ∃ bud : Nat, b = (bud : Int) := ⟨b.toNat, by omega⟩
      have HF : Hid (runLoopF rs xs bud = match runLp rs ⟨padL xs, bud⟩ with
        | .ok s => (s.vs, (bud : Int) - s.left, 0)
        | .error k => ([], 0, k)) := Lib.hid (by unfold runLoopF; rw [if_neg (by rw [hv]; decide), if_neg hbad, Int.toNat_natCast])
      have HBB := Lib.hid hbb
      have HPL := Lib.hid (fun w1 (z : Below w.heap.size w w1) => l17Play_any B n cL rs C m d xs bud w1 (HX.out.below z) hn (Rd.below HY.out z) hm2 ((countsB_iff xs).1 hcb) HVB.out (by omega))
      rw [hcb] at HC
      clear hv hbad hcb hbb
      go_enter Tryd.func8, Tryd.ntmps8
      go_wp2_with (first | (go_at_call 30; refine HIS.out.mono ?_; rintro e w1 ⟨rfl, z1⟩) | (go_at_call 31; refine (l05Budget_is HBB.out _).mono ?_; rintro e w' ⟨rfl, rfl⟩) | (go_at_call 32; refine (HC.out _ z1).mono ?_; rintro e w' ⟨rfl, rfl⟩))
      refine (HPL.out w1 z1).mono ?_
      rintro e W ⟨g, A, c, rfl, hq⟩
      cases hr : runLp rs ⟨padL xs, bud⟩ with
      | ok s =>
        rw [hr] at hq
        have HF2 : Hid (runLoopF rs xs bud = (s.vs, (bud : Int) - s.left, 0)) := Lib.hid (by rw [HF.out, hr])
        have x1 : W.cell? ⟨g, 1, none⟩ = some (.slice A 16 c) := hq.2.2.box.cell 1
        have x3 : W.cell? ⟨g, 3, none⟩ = some (.int .i64 ((bud : Int) - s.left)) := hq.2.2.box.cell 3
        have x4 : W.cell? ⟨g, 4, none⟩ = some (.int .i64 0) := hq.2.2.box.cell 4
        clear hr HF
        go_wp2_with fail
        go_quiet (fail)
        go_wp2_with fail
        rw [HF2.out]
        exact bodyPost_ret (v := .tuple #[.slice A 16 c, .int .i64 ((bud : Int) - s.left), .int .i64 0]) (by simp [results, Tryd.results8, go_sem]) rfl ⟨A, c, by rw [hq.2.2.len], by rw [hq.2.2.len]; exact ((hq.2.2.vars.mono z1.size).below (below_drewN (Below.refl _ _) _)), z1.trans ((hq.2.2.low.mono z1.size).trans ((below_drewN (Below.refl _ _) _).mono (Nat.le_trans z1.size hq.2.2.low.size)))⟩
      | error k =>
        rw [hr] at hq
        obtain ⟨hkk, V, st, hB, hlow, _⟩ := hq
        have HF2 : Hid (runLoopF rs xs bud = ([], 0, k)) := Lib.hid (by rw [HF.out, hr])
        have x4 : W.cell? ⟨g, 4, none⟩ = some (.int .i64 k) := hB.cell 4
        have hd5 : (k != 0) = true := by simp; omega
        clear hr HF hB hkk
        go_wp2_with fail
        go_quiet (fail)
        go_wp2_with fail
        rw [HF2.out]
        exact bodyPost_ret (v := .tuple #[.slice none 0 0, .int .i64 0, .int .i64 k]) (by simp [results, Tryd.results8, go_sem]) rfl ⟨none, 0, rfl, Own.nil, z1.trans ((hlow.mono z1.size).trans ((below_drewN (Below.refl _ _) _).mono (Nat.le_trans z1.size hlow.size)))⟩
end Go.Proofs.YtacajmgokdgbgaaDoor
