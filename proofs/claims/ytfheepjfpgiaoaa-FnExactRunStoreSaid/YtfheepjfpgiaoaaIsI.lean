/-
  Contract of the reference's l22Is.
-/
import Derived.Test.YtfheepjfpgiaoaaEsI
import Derived.Test.YtfheepjfpgiaoaaVcI
namespace Go.Proofs.Ytfheepjfpgiaoaa
open Go.RowKit

theorem elIi : Elem Try.prog 193 3 1 8 (.int .i64 0) := ⟨Try.underlying193, by kernel_rfl, rfl, by decide⟩
/-- The ends of open bodies rise, from the innermost to the whole program's. -/
def Srt : Nat → List Nat → Nat → Prop
  | _, [], _ => False
  | i, [E], n => i ≤ E ∧ E = n
  | i, E :: F :: Es, n => i ≤ E ∧ Srt E (F :: Es) n
theorem Srt.le {i n : Nat} : ∀ {Es : List Nat}, Srt i Es n → i ≤ n
  | [], h => h.elim
  | [E], h => by obtain ⟨h1, h2⟩ := h; omega
  | E :: F :: Es, h => by have := Srt.le h.2; have := h.1; omega
theorem Srt.top {i n E : Nat} {Es : List Nat} (h : Srt i (E :: Es) n) : i ≤ E ∧ E ≤ n := by
  cases Es with
  | nil => exact ⟨h.1, Nat.le_of_eq h.2⟩
  | cons F Es => exact ⟨h.1, h.2.le⟩
theorem Srt.next {i j n E : Nat} {Es : List Nat} (h : Srt i (E :: Es) n) (hj : j ≤ E) : Srt j (E :: Es) n := by
  cases Es with
  | nil => exact ⟨hj, h.2⟩
  | cons F Es => exact ⟨hj, h.2⟩
theorem Srt.push {i j n E X : Nat} {Es : List Nat} (h : Srt i (E :: Es) n) (hj : j ≤ X) (hX : X ≤ E) : Srt j (X :: E :: Es) n := ⟨hj, h.next hX⟩
theorem segV_end {cs : List Cmd} {n : Nat} : ∀ {Es : List Nat} {i : Nat}, Srt i Es n → n ≤ i → segV cs i Es = true
  | [], _, h, _ => h.elim
  | [E], i, h, hn => by
    obtain ⟨h1, h2⟩ := h
    obtain rfl : E = i := by omega
    rw [segV, cutL_self]; rfl
  | E :: F :: Es, i, h, hn => by
    have h1 := h.2.le
    obtain rfl : E = i := by have := h.1; omega
    rw [segV, cutL_self, segV_end h.2 hn]; rfl
theorem segV_pop {cs : List Cmd} {i : Nat} {Es : List Nat} : segV cs i (i :: Es) = segV cs i Es := by rw [segV, cutL_self]; rfl
set_option maxRecDepth 100000 in
set_option maxHeartbeats 8000000 in
theorem l22Is_any (A : Option Addr) (n c : Nat) (ts : List Ce) (w : World) (hx : SC w A n ts) (hn : n ≤ 1048576) (hrows : ∀ t ∈ ts, t.e.length ≤ 1048576) :
    Calls Try.prog 62 #[.slice A n c] w fun e w' => e = .returned (.bool (validWh (cmds ts))) ∧ Below w.heap.size w w' := by
  have HL := Lib.hid hx.len
  have HCL : Hid ((cmds ts).length = n) := Lib.hid (by rw [cmds_len]; exact hx.len)
  have HRW := Lib.hid hrows
  clear hrows
  by_cases h80 : 80 < n
  · have i1 : (n : Int) > 80 := by omega
    have HR : Hid (validWh (cmds ts) = false) := Lib.hid (by unfold validWh; rw [HCL.out, decide_eq_false (by omega)]; rfl)
    go_enter Try.func62, Try.ntmps62
    go_wp2_with fail
    go_ret
    exact ⟨ret_bool HR.out.symm, Below.refl _ _⟩
  have i1 : ¬ (n : Int) > 80 := by omega
  have HV : Hid (validWh (cmds ts) = validC (cmds ts)) := Lib.hid (by unfold validWh; rw [HCL.out, decide_eq_true (by omega), Bool.true_and])
  obtain ⟨R, hR⟩ : ∃ R, validC (cmds ts) = R := ⟨_, rfl⟩
  have HR := Lib.hid hR
  clear hR
  have o0 : Own (w.alloc (.cells #[.int .i64 (n : Int)] 3)) w.heap.size 3 1 (some ⟨w.heap.size, 0, none⟩) 1 1 (ints (([n] : List Nat).reverse.map fun j : Nat => (j : Int))) := Own.lit w #[.int .i64 (n : Int)] _ 1 1 w.heap.size rfl (by simp [maxLen]) (Nat.le_refl _)
  have z0 : Below w.heap.size w (w.alloc (.cells #[.int .i64 (n : Int)] 3)) := (Below.refl _ _).alloc (Nat.le_refl _) _
  have hs0 : segV (cmds ts) 0 [n] = R := by rw [segV, ← HCL.out, cutL_all, segV, Bool.and_true]; exact HR.out
  go_enter Try.func62, Try.ntmps62
  go_wp2_with fail
  go_loopw [3, 4] (fun s3 s4 wr => ∃ (i : Nat) (EA : Option Addr) (ec : Nat) (E : Nat) (Es : List Nat), i ≤ n ∧ s4 = .int .i64 (i : Int) ∧ s3 = .slice EA (E :: Es).length ec ∧ Hid (Own wr w.heap.size 3 1 EA (E :: Es).length ec (ints ((E :: Es).reverse.map fun j : Nat => (j : Int)))) ∧ Hid (Srt i (E :: Es) n) ∧ Hid (segV (cmds ts) i (E :: Es) = R) ∧ Es.length ≤ i ∧ Below w.heap.size w wr) (fun _ s4 _ => n - (intOf s4).toNat)
  case atStart => exact ⟨0, _, 1, n, [], Nat.zero_le _, rfl, rfl, Lib.hid o0, Lib.hid ⟨Nat.zero_le _, rfl⟩, Lib.hid hs0, Nat.zero_le _, z0⟩
  case round =>
    obtain ⟨i, EA, ec, E, Es, hi, rfl, rfl, HO, HS, HG, hel, hz⟩ := hrel
    clear o0 z0 hs0
    by_cases hlt : i < n
    rotate_left
    · have j1 : ¬ (i : Int) < (n : Int) := by omega
      have HT : Hid (validWh (cmds ts) = true) := Lib.hid (by rw [HV.out, HR.out, ← HG.out]; exact segV_end HS.out (by omega))
      go_wp2_with fail
      go_ret
      exact ⟨ret_bool HT.out.symm, hz⟩
    have j1 : (i : Int) < (n : Int) := by omega
    generalize wr = Wo at *
    go_wp2_with fail
    go_loopw [3] (fun s3 wr => ∃ (EA : Option Addr) (ec : Nat) (E : Nat) (Es : List Nat), s3 = .slice EA (E :: Es).length ec ∧ Hid (Own wr w.heap.size 3 1 EA (E :: Es).length ec (ints ((E :: Es).reverse.map fun j : Nat => (j : Int)))) ∧ Hid (Srt i (E :: Es) n) ∧ Hid (segV (cmds ts) i (E :: Es) = R) ∧ Es.length ≤ i ∧ Below w.heap.size w wr) (fun s3 _ => match s3 with | .slice _ k _ => k | _ => 0)
    case atStart => exact ⟨EA, ec, E, Es, rfl, HO, HS, HG, hel, hz⟩
    case round =>
      clear HO HS HG hel hz
      obtain ⟨EA, ec, E, Es, rfl, HO, HS, HG, hel, hz⟩ := hrel
      obtain ⟨eb, eo, hEA, _, _, ecell, _⟩ := HO.out.at_ (k := Es.length) (by rw [length_ints]; simp)
      have hEc : wr.cell? ⟨eb, eo + Es.length, none⟩ = some (.int .i64 (E : Int)) := by rw [ecell, ints_get]; simp
      clear ecell
      subst hEA
      obtain ⟨m, hm⟩ : ∃ m, Es.length = m := ⟨_, rfl⟩
      obtain ⟨M, hM⟩ : ∃ M, (E :: Es).length = M := ⟨_, rfl⟩
      have hmM : m + 1 = M := by rw [← hm, ← hM]; rfl
      rw [hm] at hEc hel
      have HMM := Lib.hid hM
      have Hm := Lib.hid hm
      have hMc : M ≤ ec := by have h5 := HO.out.le; rw [hM] at h5; exact h5
      have w1 : IntKind.i64.wrap ((M : Int) - 1) = (m : Int) := by rw [show ((M : Int) - 1) = (m : Int) by omega]; exact IntWalk.i64_in _ (by omega)
      have k1 : (0 : Int) ≤ (m : Int) := by omega
      have k2 : (m : Int) < (M : Int) := by omega
      by_cases hp : E = i ∧ Es ≠ []
      · obtain ⟨rfl, hne⟩ := hp
        obtain ⟨F, Es', rfl⟩ : ∃ F Es', Es = F :: Es' := by
          cases Es with
          | nil => exact absurd rfl hne
          | cons F Es' => exact ⟨F, Es', rfl⟩
        have k3 : (M : Int) > 1 := by rw [List.length_cons] at hm; omega
        have k4 : ((E : Int) == (E : Int)) = true := by simp
        have k5 : ¬ (ec : Int) < (m : Int) := by omega
        have k6 : (m : Int) ≤ (ec : Int) := by omega
        have k7 : ¬ ec = 0 := by omega
        have HO2 : Hid (Own wr w.heap.size 3 1 (some ⟨eb, eo, none⟩) (F :: Es').length ec (ints ((F :: Es').reverse.map fun j : Nat => (j : Int)))) := Lib.hid (by
          have h2 := Own.cut HO.out (i := 0) (j := (F :: Es').length) (Nat.zero_le _) (by simp) (A' := some ⟨eb, eo, none⟩) (fun e => e) (fun b off e => .inl (by rw [e]; rfl))
          rw [Nat.sub_zero, Nat.sub_zero, List.drop_zero, ints_take] at h2
          have e2 : ((E :: F :: Es').reverse.map fun j : Nat => (j : Int)).take (F :: Es').length = (F :: Es').reverse.map fun j : Nat => (j : Int) := by
            rw [List.reverse_cons, List.map_append, List.take_append_of_le_length (by simp), List.take_of_length_le (by simp)]
          rw [e2] at h2
          exact h2)
        have HS2 : Hid (Srt E (F :: Es') n) := Lib.hid HS.out.2
        have HG2 : Hid (segV (cmds ts) E (F :: Es') = R) := Lib.hid (by rw [← segV_pop]; exact HG.out)
        have hel2 : Es'.length ≤ E := by rw [List.length_cons] at hm; omega
        clear hm hne hM hmM
        rw [HMM.out]
        go_wp2_with fail
        go_roundw
        case rel => exact ⟨some ⟨eb, eo, none⟩, ec, F, Es', by rw [Hm.out], HO2, HS2, HG2, hel2, hz⟩
        case measure => (show m < _; first | omega | (simp; omega))
      have hiE : i < E := by
        have h1 := HS.out.top
        rcases Nat.lt_or_ge i E with h2 | h2
        · exact h2
        · exfalso
          have h3 : E = i := by omega
          cases Es with
          | nil => have := HS.out.2; omega
          | cons F Es' => exact hp ⟨h3, by simp⟩
      have hEn := HS.out.top.2
      have k4 : ((E : Int) == (i : Int)) = false := by simp; omega
      rw [HMM.out]
      obtain ⟨ce, pb, po, HT, hcm, rfl, hpb, q0, q1, q2, q3, hre⟩ := (hx.below hz).pick (k := i) hlt
      have hrl := HRW.out ce hcm
      have HC : Hid ((cmds ts)[i]? = some ce.cmd) := Lib.hid (by unfold cmds; rw [List.getElem?_map, HT.out]; rfl)
      have HSC : Hid (segV (cmds ts) i (E :: Es) = (validC (ce.cmd :: cutL (cmds ts) (i + 1) E) && segV (cmds ts) E Es)) := Lib.hid (by rw [segV, cutL_cons HC.out hiE])
      obtain ⟨rk, rv, rl, rA, rc, re⟩ := ce
      dsimp only [Ce.cmd] at q0 q1 q2 q3 hre hrl HSC
      have HVE := Lib.hid (l22Expr_any rA re.length rc re wr hre (by omega))
      have j2 : (0 : Int) ≤ (i : Int) := by omega
      obtain ⟨i', hi'⟩ : ∃ i', i + 1 = i' := ⟨_, rfl⟩
      rw [hi'] at HSC
      have w3 : IntKind.i64.wrap ((i : Int) + 1) = (i' : Int) := by rw [show ((i : Int) + 1) = (i' : Int) by omega]; exact IntWalk.i64_in _ (by omega)
      have hiE' : i' ≤ E := by omega
      have hEi : E ≤ 80 := by omega
      have hii1 : i < i' ∧ i' ≤ n ∧ m ≤ i' ∧ n ≤ 80 := by omega
      have HII := Lib.hid hi'
      by_cases hMg : M > 1
      case' pos => have k3 : (M : Int) > 1 := by omega
      case' neg => have k3 : ¬ (M : Int) > 1 := by omega
      all_goals
        clear hcm hp hm hM hMg hi'
        go_upto_region 10 with fail
        cases he : isEx re with
        | false =>
          have HE : Hid (validWh (cmds ts) = false) := Lib.hid (by rw [HV.out, HR.out, ← HG.out, HSC.out, validC_ex he]; rfl)
          rw [he] at HVE
          clear he
          go_wp2_with (go_at_call 147; refine HVE.out.mono ?_; rintro e w' ⟨rfl, rfl⟩)
          go_ret
          exact ⟨ret_bool HE.out.symm, hz⟩
        | true =>
          have HEX := Lib.hid he
          rw [he] at HVE
          clear he
          cases hv : inB rv 0 5 with
          | false =>
            have HE : Hid (validWh (cmds ts) = false) := Lib.hid (by
              rw [HV.out, HR.out, ← HG.out, HSC.out]
              by_cases h0 : rk = 0
              · rw [validC_set HEX.out h0]; dsimp only; rw [hv]; rfl
              · by_cases h1 : rk = 1
                · rw [validC_wh HEX.out h1]
                  have h2 : (rv == 0) = false := by
                    simp only [beq_eq_false_iff_ne]
                    rintro rfl
                    cases hv
                  dsimp only; rw [h2]; rfl
                · rw [validC_no h0 h1]; rfl)
            have HVV := Lib.hid hv
            clear hv
            go_wp2_with (first | (go_at_call 147; refine HVE.out.mono ?_; rintro e w' ⟨rfl, rfl⟩) | (go_at_call 148; refine (l00In_is HVV.out _).mono ?_; rintro e w' ⟨rfl, rfl⟩))
            go_ret
            exact ⟨ret_bool HE.out.symm, hz⟩
          | true =>
            have HVV := Lib.hid hv
            by_cases h0 : rk = 0
            · have e0 : (rk == 0) = true := by simpa using h0
              by_cases hl0 : rl = 0
              · have e1 : (rl != 0) = false := by simp [hl0]
                have HG2 : Hid (segV (cmds ts) i' (E :: Es) = R) := Lib.hid (by rw [← HG.out, HSC.out, validC_set HEX.out h0]; dsimp only; rw [hv, hl0, segV]; rfl)
                have HS2 := Lib.hid (HS.out.next hiE')
                clear hv h0 hl0
                go_wp2_with (first | (go_at_call 147; refine HVE.out.mono ?_; rintro e w' ⟨rfl, rfl⟩) | (go_at_call 148; refine (l00In_is HVV.out _).mono ?_; rintro e w' ⟨rfl, rfl⟩))
                go_roundw
                case rel => exact ⟨i', some ⟨eb, eo, none⟩, ec, E, Es, hii1.2.1, rfl, by rw [HMM.out], HO, HS2, HG2, by rw [Hm.out]; exact hii1.2.2.1, hz⟩
                case measure => (simp [intOf] <;> omega)
              · have e1 : (rl != 0) = true := by simp [hl0]
                have HE : Hid (validWh (cmds ts) = false) := Lib.hid (by rw [HV.out, HR.out, ← HG.out, HSC.out, validC_set HEX.out h0]; simp [hl0])
                clear hv h0 hl0
                go_wp2_with (first | (go_at_call 147; refine HVE.out.mono ?_; rintro e w' ⟨rfl, rfl⟩) | (go_at_call 148; refine (l00In_is HVV.out _).mono ?_; rintro e w' ⟨rfl, rfl⟩))
                go_ret
                exact ⟨ret_bool HE.out.symm, hz⟩
            have e0 : (rk == 0) = false := by simpa using h0
            by_cases h1 : rk = 1
            rotate_left
            · have e1 : (rk == 1) = false := by simpa using h1
              have HE : Hid (validWh (cmds ts) = false) := Lib.hid (by rw [HV.out, HR.out, ← HG.out, HSC.out, validC_no h0 h1]; rfl)
              clear hv h0 h1
              go_wp2_with (first | (go_at_call 147; refine HVE.out.mono ?_; rintro e w' ⟨rfl, rfl⟩) | (go_at_call 148; refine (l00In_is HVV.out _).mono ?_; rintro e w' ⟨rfl, rfl⟩))
              go_ret
              exact ⟨ret_bool HE.out.symm, hz⟩
            have e1 : (rk == 1) = true := by simpa using h1
            have HVW := Lib.hid (validC_wh (c := ⟨rk, rv, rl, re⟩) (r := cutL (cmds ts) i' E) HEX.out h1)
            clear h0 h1 hv
            go_upto_region 18 with (first | (go_at_call 147; refine HVE.out.mono ?_; rintro e w' ⟨rfl, rfl⟩) | (go_at_call 148; refine (l00In_is HVV.out _).mono ?_; rintro e w' ⟨rfl, rfl⟩))
            by_cases hv0 : rv = 0
            rotate_left
            · have ev : (rv != 0) = true := by simp [hv0]
              have HE : Hid (validWh (cmds ts) = false) := Lib.hid (by rw [HV.out, HR.out, ← HG.out, HSC.out, HVW.out]; simp [hv0])
              clear hv0
              go_quiet (fail)
              go_wp2_with fail
              go_ret
              exact ⟨ret_bool HE.out.symm, hz.trans ((below_drewN (Below.refl _ _) _).mono hz.size)⟩
            have ev : (rv != 0) = false := by simp [hv0]
            have w5 : IntKind.i64.wrap ((E : Int) - (i : Int)) = (E : Int) - (i : Int) := IntWalk.i64_in _ (by omega)
            have w6 : IntKind.i64.wrap ((E : Int) - (i : Int) - 1) = (E : Int) - (i : Int) - 1 := IntWalk.i64_in _ (by omega)
            have hrl' : ((cutL (cmds ts) i' E).length : Int) = (E : Int) - (i : Int) - 1 := by rw [cutL_len (by rw [HCL.out]; exact hEn)]; have := HII.out; omega
            cases hin : inB rl 0 ((E : Int) - (i : Int) - 1) with
            | false =>
              have HE : Hid (validWh (cmds ts) = false) := Lib.hid (by rw [HV.out, HR.out, ← HG.out, HSC.out, HVW.out]; (try dsimp only); rw [hrl', hin]; simp)
              have HIN := Lib.hid hin
              clear hin hv0 hrl'
              go_quiet ((go_at_call 148; exact quiet_left (l00In_is HIN.out _)))
              go_wp2_with fail
              go_ret
              exact ⟨ret_bool HE.out.symm, hz.trans ((below_drewN (Below.refl _ _) _).mono hz.size)⟩
            | true =>
              have HIN := Lib.hid hin
              have hcc := (inB_iff _ _ _).1 hin
              obtain ⟨B, rfl⟩ : ∃ B : Nat, rl = (B : Int) := ⟨rl.toNat, by omega⟩
              obtain ⟨X, hX⟩ : ∃ X, i' + B = X := ⟨_, rfl⟩
              have hXE : i' ≤ X ∧ X ≤ E := by have := HII.out; omega
              have w7 : IntKind.i64.wrap ((i' : Int) + (B : Int)) = (X : Int) := by rw [show (i' : Int) + (B : Int) = (X : Int) by omega]; exact IntWalk.i64_in _ (by omega)
              have HG2 : Hid (segV (cmds ts) i' (X :: E :: Es) = R) := Lib.hid (by
                rw [← HG.out, HSC.out, HVW.out]
                try dsimp only
                rw [hrl', hin, hv0, Int.toNat_natCast, cutL_take _ _ _ _ (by omega), cutL_drop, hX]
                simp only [segV, beq_self_eq_true, Bool.true_and, Bool.and_assoc])
              have HS2 := Lib.hid (HS.out.push hXE.1 hXE.2)
              have HL2 : Hid (ints ((X :: E :: Es).reverse.map fun j : Nat => (j : Int)) = ints ((E :: Es).reverse.map fun j : Nat => (j : Int)) ++ [.int .i64 (X : Int)]) := Lib.hid (by simp [ints])
              have hM81 : M ≤ 82 := by omega
              clear hin hv0 hrl' hcc hX
              go_quiet ((go_at_call 148; exact quiet_left (l00In_is HIN.out _)))
              obtain ⟨V, hV⟩ : ∃ V, V = wr.drewN nq := ⟨_, rfl⟩
              rw [← hV]
              have zV : Below wr.heap.size wr V := by rw [hV]; exact below_drewN (Below.refl _ _) _
              have hOV := (HO.out.below zV).alloc (.cells #[.int .i64 (X : Int)] 3)
              rw [HMM.out] at hOV
              have r0 : V.cell? ⟨pb, po + i * 4 + 2, none⟩ = some (.int .i64 (B : Int)) := (zV.cell (p := ⟨pb, po + i * 4 + 2, none⟩) hpb).trans q2
              have hzV := hz.trans (zV.mono hz.size)
              have hloV := hzV.size
              have HOV := Lib.hid hOV
              have HZV := Lib.hid hzV
              clear hV zV q0 q1 q2 q3 hEc hOV hzV hre
              go_wp2_with (at_builtin; refine wpList_append_Own rfl (.tmp 88) (.tmp 96) rfl elIi (lo := w.heap.size) rfl HOV.out rfl (Rd.new1 V _ _) (by intro u hu; simp at hu; subst hu; rfl) (by omega) (by simp only [maxLen]; omega) (by simp; omega) ?_; intro A2 c2 w2 o2 hg2 _; have HO2 := Lib.hid o2; have HB2 := Lib.hid (HOV.out.below_of (HZV.out.alloc hloV _) hg2 (by simp; omega)))
              go_roundw
              case rel => exact ⟨i', A2, c2, X, E :: Es, hii1.2.1, rfl, by rw [List.length_cons, HMM.out], Lib.hid (by rw [List.length_cons, HMM.out, HL2.out]; exact HO2.out), HS2, HG2, by rw [HMM.out]; omega, HB2.out⟩
              case measure => (simp [intOf] <;> omega)
end Go.Proofs.Ytfheepjfpgiaoaa
