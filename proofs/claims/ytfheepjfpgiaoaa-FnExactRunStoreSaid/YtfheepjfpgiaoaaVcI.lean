/-
  Contracts of impl's validCommands and ValidWhile.
-/
import Derived.Test.YtfheepjfpgiaoaaExI
import Derived.Test.YtfheepjfpgiaoaaWhF
import Derived.Deep.RegionHeld3
namespace Go.Proofs.Ytfheepjfpgiaoaa
open Go.RowKit

theorem flat_cut {α : Type} {f : α → List Value} {s : Nat} (hf : ∀ a, (f a).length = s) (rs : List α) (i j : Nat) : (cutL rs i j).flatMap f = ((rs.flatMap f).take (j * s)).drop (i * s) := by
  have ht : ∀ (rs : List α) (j : Nat), (rs.take j).flatMap f = (rs.flatMap f).take (j * s) := by
    intro rs
    induction rs with
    | nil => intro j; simp
    | cons r t ih =>
      intro j
      cases j with
      | zero => simp
      | succ j =>
        rw [List.take_succ_cons, List.flatMap_cons, List.flatMap_cons, ih, List.take_append, hf, Nat.succ_mul, Nat.add_sub_cancel, List.take_of_length_le (l := f r) (by rw [hf]; omega)]
  have hd : ∀ (rs : List α) (i : Nat), (rs.drop i).flatMap f = (rs.flatMap f).drop (i * s) := by
    intro rs
    induction rs with
    | nil => intro i; simp
    | cons r t ih =>
      intro i
      cases i with
      | zero => simp
      | succ i =>
        rw [List.drop_succ_cons, List.flatMap_cons, ih, List.drop_append, hf, Nat.succ_mul, Nat.add_sub_cancel, show (f r).drop (i * s + s) = [] from List.drop_eq_nil_iff.2 (by rw [hf]; omega), List.nil_append]
  unfold cutL
  rw [hd, ht]
theorem Rd.cutS {w : World} {s : Nat} {A A' : Option Addr} {n i j : Nat} {cs : List Value} (h : Rd w s A n cs) (hij : i ≤ j) (hj : j ≤ n) (hA : i < j → ∀ b off, A = some ⟨b, off, none⟩ → A' = some ⟨b, off + i * s, none⟩) : Rd w s A' (j - i) ((cs.take (j * s)).drop (i * s)) := by
  have hl := h.1
  have h1 : i * s ≤ j * s := Nat.mul_le_mul_right s hij
  have h2 : j * s ≤ n * s := Nat.mul_le_mul_right s hj
  refine ⟨by rw [List.length_drop, List.length_take, Nat.sub_mul]; omega, fun hn => ?_⟩
  rw [List.length_drop, List.length_take] at hn
  obtain ⟨b, off, rfl, hc⟩ := h.2 (by omega)
  have hlt : i < j := by
    rcases Nat.lt_or_ge i j with h3 | h3
    · exact h3
    · have := Nat.mul_le_mul_right s h3; omega
  refine ⟨b, off + i * s, hA hlt b off rfl, fun k hk => ?_⟩
  rw [List.length_drop, List.length_take] at hk
  have := hc (i * s + k) (by omega)
  rw [Nat.add_assoc, this]
  simp [List.getElem_drop, List.getElem_take]
theorem cutL_mem {α : Type} {l : List α} {i j : Nat} {x : α} (h : x ∈ cutL l i j) : x ∈ l := List.mem_of_mem_take (List.mem_of_mem_drop h)
theorem cmds_cut (ts : List Ce) (i j : Nat) : cmds (cutL ts i j) = cutL (cmds ts) i j := by unfold cmds cutL; rw [List.map_drop, List.map_take]
theorem SC.cut {w : World} {A A' : Option Addr} {n i j : Nat} {ts : List Ce} (h : SC w A n ts) (hij : i ≤ j) (hj : j ≤ n) (hA : i < j → ∀ b off, A = some ⟨b, off, none⟩ → A' = some ⟨b, off + i * 4, none⟩) : SC w A' (j - i) (cutL ts i j) :=
  ⟨by rw [flat_cut Ce.cells_len]; exact h.1.cutS hij hj hA, fun t ht => h.2 t (cutL_mem ht)⟩
theorem validC_ex {c : Cmd} {r : List Cmd} (h : isEx c.e = false) : validC (c :: r) = false := by rw [validC_cons, h]; rfl
theorem validC_set {c : Cmd} {r : List Cmd} (h : isEx c.e = true) (hk : c.k = 0) : validC (c :: r) = (inB c.v 0 5 && (c.l == 0 && validC r)) := by rw [validC_cons, h, if_pos hk, Bool.true_and]
theorem validC_wh {c : Cmd} {r : List Cmd} (h : isEx c.e = true) (hk : c.k = 1) : validC (c :: r) = (c.v == 0 && (inB c.l 0 r.length && (validC (r.take c.l.toNat) && validC (r.drop c.l.toNat)))) := by rw [validC_cons, h, if_neg (by omega), if_pos hk, Bool.true_and]
theorem validC_no {c : Cmd} {r : List Cmd} (h0 : c.k ≠ 0) (h1 : c.k ≠ 1) : validC (c :: r) = false := by rw [validC_cons, if_neg h0, if_neg h1, Bool.and_false]
set_option maxRecDepth 100000 in
set_option maxHeartbeats 8000000 in
theorem validCommands_any : ∀ (n : Nat) (A : Option Addr) (c : Nat) (ts : List Ce) (w : World), SC w A n ts → n ≤ 1048576 → n ≤ c → (∀ t ∈ ts, t.e.length ≤ 1048576) →
    Calls Try.prog 152 #[.slice A n c] w fun e w' => e = .returned (.bool (validC (cmds ts))) ∧ Below w.heap.size w w' := by
  intro n
  induction n using Nat.strongRecOn with
  | _ n ih =>
  intro A c ts w hx hn hnc hrows
  have HL := Lib.hid hx.len
  have HRW := Lib.hid hrows
  have HCL : Hid ((cmds ts).length = n) := Lib.hid (by rw [cmds_len]; exact hx.len)
  have IH : Hid (∀ (m : Nat) (A' : Option Addr) (c' : Nat) (us : List Ce) (w' : World), m < n → SC w' A' m us → m ≤ c' → (∀ t ∈ us, t.e.length ≤ 1048576) → Calls Try.prog 152 #[.slice A' m c'] w' fun e w'' => e = .returned (.bool (validC (cmds us))) ∧ Below w'.heap.size w' w'') :=
    Lib.hid (fun m A' c' us w' h1 h2 h3 h4 => ih m h1 A' c' us w' h2 (by omega) h3 h4)
  have hsa : cutL (cmds ts) 0 n = cmds ts := by rw [← HCL.out]; exact cutL_all _
  clear ih hrows
  go_enter Try.func152, Try.ntmps152
  go_wp2_with fail
  go_loopw [3] (fun s3 wr => ∃ t : Nat, t ≤ n ∧ s3 = .int .i64 (t : Int) ∧ Hid (validC (cmds ts) = validC (cutL (cmds ts) t n)) ∧ Below w.heap.size w wr) (fun s3 _ => n - (intOf s3).toNat)
  case atStart => exact ⟨0, Nat.zero_le _, rfl, Lib.hid (by rw [hsa]), Below.refl _ _⟩
  case round =>
    obtain ⟨t, htj, rfl, HV, zr⟩ := hrel
    by_cases hlt : t < n
    rotate_left
    · have hl2 : ¬ (t : Int) < (n : Int) := by omega
      have HE : Hid (validC (cmds ts) = true) := Lib.hid (by rw [HV.out, show t = n by omega, cutL_self]; rfl)
      go_wp2_with fail
      go_ret
      exact ⟨ret_bool HE.out.symm, zr⟩
    have hl2 : (t : Int) < (n : Int) := by omega
    obtain ⟨r, b, off, HR, hrm, rfl, hbl, q0, q1, q2, q3, hre⟩ := (hx.below zr).pick (k := t) hlt
    have hrl := HRW.out r hrm
    have HC : Hid ((cmds ts)[t]? = some r.cmd) := Lib.hid (by unfold cmds; rw [List.getElem?_map, HR.out]; rfl)
    have HSC := Lib.hid (cutL_cons HC.out hlt)
    obtain ⟨rk, rv, rl, rA, rc, re⟩ := r
    dsimp only [Ce.cmd] at q0 q1 q2 q3 hre hrl HSC
    clear hrm hsa
    obtain ⟨W1, hW_⟩ : ∃ W_, W_ = wr.alloc (.cells #[.int .i64 rk, .int .i64 rv, .int .i64 rl, .slice rA re.length rc] 99) := ⟨_, rfl⟩
    have b1 : Blk W1 wr.heap.size 99 #[.int .i64 rk, .int .i64 rv, .int .i64 rl, .slice rA re.length rc] := by rw [hW_]; exact Blk.new wr _ _
    have z1 : Below wr.heap.size wr W1 := by rw [hW_]; exact (Below.refl _ _).alloc (Nat.le_refl _) _
    have HW1 := Lib.hid hW_
    clear hW_
    have y1 := zr.trans (z1.mono zr.size)
    have i1 : (0 : Int) ≤ (t : Int) := by omega
    have x0 : W1.cell? ⟨wr.heap.size, 0, none⟩ = some (.int .i64 rk) := b1.cell 0
    have x1 : W1.cell? ⟨wr.heap.size, 1, none⟩ = some (.int .i64 rv) := b1.cell 1
    have x2 : W1.cell? ⟨wr.heap.size, 2, none⟩ = some (.int .i64 rl) := b1.cell 2
    have x3 : W1.cell? ⟨wr.heap.size, 3, none⟩ = some (.slice rA re.length rc) := b1.cell 3
    have HVE := Lib.hid (validExpr_any rA re.length rc re W1 (hre.below z1) (by omega))
    go_upto_region 5 with fail
    rw [← HW1.out]
    clear q0 q1 q2 q3 i1 hre
    cases he : isEx re with
    | false =>
      have HF : Hid (validC (cmds ts) = false) := Lib.hid (by rw [HV.out, HSC.out, validC_ex he])
      rw [he] at HVE
      clear he
      go_wp2_with (go_at_call 83; refine HVE.out.mono ?_; rintro e W2 ⟨rfl, z2⟩; have HZ2 := Lib.hid (y1.trans (z2.mono y1.size)))
      go_ret
      exact ⟨ret_bool HF.out.symm, HZ2.out⟩
    | true =>
      have HEX := Lib.hid he
      rw [he] at HVE
      clear he
      go_wp2_with fail
      refine HVE.out.mono ?_
      rintro e W2 ⟨rfl, z2⟩
      have y2 := y1.trans (z2.mono y1.size)
      have b2 := b1.below' z2
      clear x0 x1 x2 x3 HVE
      have x0 : W2.cell? ⟨wr.heap.size, 0, none⟩ = some (.int .i64 rk) := b2.cell 0
      have x1 : W2.cell? ⟨wr.heap.size, 1, none⟩ = some (.int .i64 rv) := b2.cell 1
      have x2 : W2.cell? ⟨wr.heap.size, 2, none⟩ = some (.int .i64 rl) := b2.cell 2
      have x3 : W2.cell? ⟨wr.heap.size, 3, none⟩ = some (.slice rA re.length rc) := b2.cell 3
      obtain ⟨t1, ht1⟩ : ∃ t1 : Nat, t1 = t + 1 := ⟨_, rfl⟩
      rw [← ht1] at HSC
      have w3 : IntKind.i64.wrap ((t : Int) + 1) = (t1 : Int) := by rw [show ((t : Int) + 1) = (t1 : Int) by omega]; exact IntWalk.i64_in _ (by omega)
      by_cases h0 : rk = 0
      · have e0 : (rk == 0) = true := by simpa using h0
        have HVS : Hid (validC (cmds ts) = (inB rv 0 5 && (rl == 0 && validC (cutL (cmds ts) t1 n)))) := Lib.hid (by rw [HV.out, HSC.out, validC_set HEX.out h0])
        clear h0
        cases hv : inB rv 0 5 with
        | false =>
          have HF : Hid (validC (cmds ts) = false) := Lib.hid (by rw [HVS.out, hv]; rfl)
          have HVV := Lib.hid hv
          clear hv
          go_wp2_with (go_at_call 84; refine (isVar_any rv _).mono ?_; rintro e w' ⟨rfl, rfl⟩; rw [HVV.out])
          go_ret
          exact ⟨ret_bool HF.out.symm, y2⟩
        | true =>
          have HVV := Lib.hid hv
          by_cases hl0 : rl = 0
          · have e1 : (rl != 0) = false := by simp [hl0]
            have HF : Hid (validC (cmds ts) = validC (cutL (cmds ts) t1 n)) := Lib.hid (by rw [HVS.out, hv, hl0]; rfl)
            clear hv hl0
            go_wp2_with (go_at_call 84; refine (isVar_any rv _).mono ?_; rintro e w' ⟨rfl, rfl⟩; rw [HVV.out])
            go_roundw
            case rel => exact ⟨t1, by omega, by go_num, HF, y2⟩
            case measure => (simp [intOf] <;> omega)
          · have e1 : (rl != 0) = true := by simp [hl0]
            have HF : Hid (validC (cmds ts) = false) := Lib.hid (by rw [HVS.out, hv]; simp [hl0])
            clear hv hl0
            go_wp2_with (go_at_call 84; refine (isVar_any rv _).mono ?_; rintro e w' ⟨rfl, rfl⟩; rw [HVV.out])
            go_ret
            exact ⟨ret_bool HF.out.symm, y2⟩
      have e0 : (rk == 0) = false := by simpa using h0
      by_cases h1 : rk = 1
      rotate_left
      · have e1 : (rk == 1) = false := by simpa using h1
        have HF : Hid (validC (cmds ts) = false) := Lib.hid (by rw [HV.out, HSC.out, validC_no h0 h1])
        clear h0 h1
        go_wp2_with fail
        go_ret
        exact ⟨ret_bool HF.out.symm, y2⟩
      have e1 : (rk == 1) = true := by simpa using h1
      have HVW : Hid (validC (cmds ts) = (rv == 0 && (inB rl 0 ((n : Int) - (t : Int) - 1) && (validC ((cutL (cmds ts) t1 n).take rl.toNat) && validC ((cutL (cmds ts) t1 n).drop rl.toNat))))) := Lib.hid (by
        rw [HV.out, HSC.out, validC_wh HEX.out h1, cutL_len (by rw [HCL.out]; exact Nat.le_refl _)]
        rw [show ((n - t1 : Nat) : Int) = (n : Int) - (t : Int) - 1 by omega])
      clear h0 h1
      by_cases hv0 : rv = 0
      rotate_left
      · have ev : (rv != 0) = true := by simp [hv0]
        have HF : Hid (validC (cmds ts) = false) := Lib.hid (by rw [HVW.out]; simp [hv0])
        clear hv0
        go_wp2_with fail
        go_ret
        exact ⟨ret_bool HF.out.symm, y2⟩
      have ev : (rv != 0) = false := by simp [hv0]
      have HV0 := Lib.hid hv0
      clear hv0
      have w1 : IntKind.i64.wrap ((n : Int) - (t : Int)) = (n : Int) - (t : Int) := IntWalk.i64_in _ (by omega)
      have w2 : IntKind.i64.wrap ((n : Int) - (t : Int) - 1) = (n : Int) - (t : Int) - 1 := IntWalk.i64_in _ (by omega)
      cases hin : inB rl 0 ((n : Int) - (t : Int) - 1) with
      | false =>
        have HF : Hid (validC (cmds ts) = false) := Lib.hid (by rw [HVW.out, hin, Bool.false_and, Bool.and_false])
        have HIN := Lib.hid hin
        clear hin
        go_wp2_with (go_at_call 109; refine (within_is HIN.out _).mono ?_; rintro e w' ⟨rfl, rfl⟩)
        go_ret
        exact ⟨ret_bool HF.out.symm, y2⟩
      | true =>
        have HIN := Lib.hid hin
        have hc := (inB_iff _ _ _).1 hin
        obtain ⟨B, hB⟩ : ∃ B : Nat, rl = (B : Int) := ⟨rl.toNat, by omega⟩
        obtain ⟨e1', he1⟩ : ∃ e1' : Nat, e1' = t1 + B := ⟨_, rfl⟩
        obtain ⟨e0', he0⟩ : ∃ e0' : Nat, e0' = t + B := ⟨_, rfl⟩
        have he1j : e1' ≤ n := by omega
        have HVB : Hid (validC (cmds ts) = (validC (cmds (cutL ts t1 e1')) && validC (cutL (cmds ts) e1' n))) := Lib.hid (by
          rw [HVW.out, hin, HV0.out, hB, Int.toNat_natCast, cutL_take _ _ _ _ (by omega), cutL_drop, he1, cmds_cut]; rfl)
        have w4 : IntKind.i64.wrap ((t1 : Int) + rl) = (e1' : Int) := by rw [show ((t1 : Int) + rl) = (e1' : Int) by omega]; exact IntWalk.i64_in _ (by omega)
        have w6 : IntKind.i64.wrap ((t : Int) + rl) = (e0' : Int) := by rw [show ((t : Int) + rl) = (e0' : Int) by omega]; exact IntWalk.i64_in _ (by omega)
        have w7 : IntKind.i64.wrap ((e0' : Int) + 1) = (e1' : Int) := by rw [show ((e0' : Int) + 1) = (e1' : Int) by omega]; exact IntWalk.i64_in _ (by omega)
        have he01 : e0' + 1 = e1' ∧ t < e1' ∧ e0' < 1048576 := by omega
        have ht1e : t1 ≤ e1' := by omega
        have ht1n : e1' - t1 < n := by omega
        have hcap1 : ¬ (c : Int) < (e1' : Int) := by omega
        have hcap2 : ¬ (e1' : Int) < (t1 : Int) := by omega
        have HREC : Hid (∀ (A' : Option Addr) (c' : Nat), (t1 < e1' → A' = some ⟨b, off + t1 * 4, none⟩) → e1' - t1 ≤ c' → Calls Try.prog 152 #[.slice A' (e1' - t1) c'] W2 fun e w'' => e = .returned (.bool (validC (cmds (cutL ts t1 e1')))) ∧ Below W2.heap.size W2 w'') := Lib.hid (fun A' c' h1 h2 => IH.out (e1' - t1) A' c' (cutL ts t1 e1') W2 ht1n ((hx.below y2).cut ht1e he1j (fun h b' off' e => by cases e; exact h1 h)) h2 (fun t ht => HRW.out t (cutL_mem ht)))
        clear hin hc hB he1 he0 ht1
        rcases Nat.lt_or_ge t1 c with hct | hct
        · have hct2 : (t1 : Int) < (c : Int) := by omega
          cases hb : validC (cmds (cutL ts t1 e1')) with
          | false =>
            have HF : Hid (validC (cmds ts) = false) := Lib.hid (by rw [HVB.out, hb]; rfl)
            rw [hb] at HREC
            clear hb
            go_wp2_with (first | (go_at_call 109; refine (within_is HIN.out _).mono ?_; rintro e w' ⟨rfl, rfl⟩) | (go_at_call 152; refine (HREC.out _ _ (fun h => by first | rfl | omega) (by omega)).mono ?_; rintro e W3 ⟨rfl, z3⟩; have HZ3 := Lib.hid (y2.trans (z3.mono y2.size))))
            all_goals go_ret
            all_goals exact ⟨ret_bool HF.out.symm, HZ3.out⟩
          | true =>
            have HF : Hid (validC (cmds ts) = validC (cutL (cmds ts) e1' n)) := Lib.hid (by rw [HVB.out, hb]; rfl)
            rw [hb] at HREC
            clear hb
            go_wp2_with (first | (go_at_call 109; refine (within_is HIN.out _).mono ?_; rintro e w' ⟨rfl, rfl⟩) | (go_at_call 152; refine (HREC.out _ _ (fun h => by first | rfl | omega) (by omega)).mono ?_; rintro e W3 ⟨rfl, z3⟩; have HZ3 := Lib.hid (y2.trans (z3.mono y2.size)); have x2' : W3.cell? ⟨wr.heap.size, 2, none⟩ = some (.int .i64 rl) := (b2.below' z3).cell 2))
            all_goals go_roundw
            all_goals first | exact ⟨e1', by omega, by go_num, HF, HZ3.out⟩ | (simp [intOf] <;> omega)
        · obtain rfl : c = t1 := by omega
          cases hb : validC (cmds (cutL ts c e1')) with
          | false =>
            have HF : Hid (validC (cmds ts) = false) := Lib.hid (by rw [HVB.out, hb]; rfl)
            rw [hb] at HREC
            clear hb
            go_wp2_with (first | (go_at_call 109; refine (within_is HIN.out _).mono ?_; rintro e w' ⟨rfl, rfl⟩) | (go_at_call 152; refine (HREC.out _ _ (fun h => by first | rfl | omega) (by omega)).mono ?_; rintro e W3 ⟨rfl, z3⟩; have HZ3 := Lib.hid (y2.trans (z3.mono y2.size))))
            all_goals go_ret
            all_goals exact ⟨ret_bool HF.out.symm, HZ3.out⟩
          | true =>
            have HF : Hid (validC (cmds ts) = validC (cutL (cmds ts) e1' n)) := Lib.hid (by rw [HVB.out, hb]; rfl)
            rw [hb] at HREC
            clear hb
            go_wp2_with (first | (go_at_call 109; refine (within_is HIN.out _).mono ?_; rintro e w' ⟨rfl, rfl⟩) | (go_at_call 152; refine (HREC.out _ _ (fun h => by first | rfl | omega) (by omega)).mono ?_; rintro e W3 ⟨rfl, z3⟩; have HZ3 := Lib.hid (y2.trans (z3.mono y2.size)); have x2' : W3.cell? ⟨wr.heap.size, 2, none⟩ = some (.int .i64 rl) := (b2.below' z3).cell 2))
            all_goals go_roundw
            all_goals first | exact ⟨e1', by omega, by go_num, HF, HZ3.out⟩ | (simp [intOf] <;> omega)
set_option maxHeartbeats 1000000 in
theorem validWhile_any (A : Option Addr) (n c : Nat) (ts : List Ce) (w : World) (hx : SC w A n ts) (hn : n ≤ 1048576) (hnc : n ≤ c) (hr : ∀ t ∈ ts, t.e.length ≤ 1048576) :
    Calls Try.prog 69 #[.slice A n c] w fun e w' => e = .returned (.bool (validWh (cmds ts))) ∧ Below w.heap.size w w' := by
  have hl : (cmds ts).length = n := by rw [cmds_len]; exact hx.len
  have HV := Lib.hid (validCommands_any n A c ts w hx hn hnc hr)
  by_cases h : n ≤ 80
  · have i1 : (n : Int) ≤ 80 := by omega
    have HR : Hid (validWh (cmds ts) = validC (cmds ts)) := Lib.hid (by unfold validWh; rw [hl, decide_eq_true h, Bool.true_and])
    obtain ⟨b, hb⟩ : ∃ b, validC (cmds ts) = b := ⟨_, rfl⟩
    rw [hb] at HV HR
    clear hb hl
    go_enter Try.func69, Try.ntmps69
    go_wp2_with (go_at_call 152; refine HV.out.mono ?_; rintro e W2 ⟨rfl, z2⟩; have HZ2 := Lib.hid z2)
    go_ret
    exact ⟨ret_bool HR.out.symm, HZ2.out⟩
  · have i1 : ¬ (n : Int) ≤ 80 := by omega
    have HR : Hid (validWh (cmds ts) = false) := Lib.hid (by unfold validWh; rw [hl, decide_eq_false h, Bool.false_and])
    clear hl
    go_enter Try.func69, Try.ntmps69
    go_wp2_with fail
    go_ret
    exact ⟨ret_bool HR.out.symm, Below.refl _ _⟩
end Go.Proofs.Ytfheepjfpgiaoaa
