/-
  Contract of the reference's l22Is.
-/
import Derived.Test.YtfheepjfpgiaoaaPkBranch0
import Derived.Test.YtfheepjfpgiaoaaEsI
import Derived.Test.YtfheepjfpgiaoaaNowS
import Derived.Test.YtfheepjfpgiaoaaEvW
import Derived.Test.YtfheepjfpgiaoaaTrP
import Derived.Test.YtfheepjfpgiaoaaRecs
import Derived.Test.YtfheepjfpgiaoaaBase
import Derived.Deep.RegionHeld3
import Derived.Deep.DeepCutAuto
namespace Go.Proofs.Ytfheepjfpgiaoaa
open Go.RowKit

theorem elIi : Elem Try.prog 193 3 1 8 (.int .i64 0) := ⟨Try.underlying193, by kernel_rfl, rfl, by decide⟩
/-- The ends of open bodies rise, from the innermost to the whole program's. -/
def Srt : Nat → List Nat → Nat → Prop
  | _, [], _ => False
  | i, [E], n => i ≤ E ∧ E = n
  | i, E :: F :: Es, n => i ≤ E ∧ Srt E (F :: Es) n
theorem Srt.le {i n : Nat} : ∀ {Es : List Nat}, Srt i Es n → i ≤ n
  | [], h => h.elim
  | [E], h => by obtain ⟨h1, h2⟩ := h; omega
  | E :: F :: Es, h => by have := Srt.le h.2; have := h.1; omega
theorem Srt.top {i n E : Nat} {Es : List Nat} (h : Srt i (E :: Es) n) : i ≤ E ∧ E ≤ n := by
  cases Es with
  | nil => exact ⟨h.1, Nat.le_of_eq h.2⟩
  | cons F Es => exact ⟨h.1, h.2.le⟩
theorem Srt.next {i j n E : Nat} {Es : List Nat} (h : Srt i (E :: Es) n) (hj : j ≤ E) : Srt j (E :: Es) n := by
  cases Es with
  | nil => exact ⟨hj, h.2⟩
  | cons F Es => exact ⟨hj, h.2⟩
theorem Srt.push {i j n E X : Nat} {Es : List Nat} (h : Srt i (E :: Es) n) (hj : j ≤ X) (hX : X ≤ E) : Srt j (X :: E :: Es) n := ⟨hj, h.next hX⟩
theorem segV_end {cs : List Cmd} {n : Nat} : ∀ {Es : List Nat} {i : Nat}, Srt i Es n → n ≤ i → segV cs i Es = true
  | [], _, h, _ => h.elim
  | [E], i, h, hn => by
    obtain ⟨h1, h2⟩ := h
    obtain rfl : E = i := by omega
    rw [segV, cutL_self]; rfl
  | E :: F :: Es, i, h, hn => by
    have h1 := h.2.le
    obtain rfl : E = i := by have := h.1; omega
    rw [segV, cutL_self, segV_end h.2 hn]; rfl
theorem segV_pop {cs : List Cmd} {i : Nat} {Es : List Nat} : segV cs i (i :: Es) = segV cs i Es := by rw [segV, cutL_self]; rfl
set_option maxRecDepth 100000 in
set_option maxHeartbeats 8000000 in
theorem l22Is_any (A : Option Addr) (n c : Nat) (ts : List Ce) (w : World) (hx : SC w A n ts) (hn : n ≤ 1048576) (hrows : ∀ t ∈ ts, t.e.length ≤ 1048576) :
    Calls Try.prog 62 #[.slice A n c] w fun e w' => e = .returned (.bool (validWh (cmds ts))) ∧ Below w.heap.size w w' := by
  have HL := Lib.hid hx.len
  have HCL : Hid ((cmds ts).length = n) := Lib.hid (by rw [cmds_len]; exact hx.len)
  have HRW := Lib.hid hrows
  clear hrows
  by_cases h80 : 80 < n
  · have i1 : (n : Int) > 80 := by omega
    have HR : Hid (validWh (cmds ts) = false) := Lib.hid (by unfold validWh; rw [HCL.out, decide_eq_false (by omega)]; rfl)
    go_enter Try.func62, Try.ntmps62
    go_wp2_with fail
    go_ret
    exact ⟨ret_bool HR.out.symm, Below.refl _ _⟩
  have i1 : ¬ (n : Int) > 80 := by omega
  have HV : Hid (validWh (cmds ts) = validC (cmds ts)) := Lib.hid (by unfold validWh; rw [HCL.out, decide_eq_true (by omega), Bool.true_and])
  obtain ⟨R, hR⟩ : ∃ R, validC (cmds ts) = R := ⟨_, rfl⟩
  have HR := Lib.hid hR
  clear hR
  have o0 : Own (w.alloc (.cells #[.int .i64 (n : Int)] 3)) w.heap.size 3 1 (some ⟨w.heap.size, 0, none⟩) 1 1 (ints (([n] : List Nat).reverse.map fun j : Nat => (j : Int))) := Own.lit w #[.int .i64 (n : Int)] _ 1 1 w.heap.size rfl (by simp [maxLen]) (Nat.le_refl _)
  have z0 : Below w.heap.size w (w.alloc (.cells #[.int .i64 (n : Int)] 3)) := (Below.refl _ _).alloc (Nat.le_refl _) _
  have hs0 : segV (cmds ts) 0 [n] = R := by rw [segV, ← HCL.out, cutL_all, segV, Bool.and_true]; exact HR.out
  go_enter Try.func62, Try.ntmps62
  go_wp2_with fail
  go_loopw [3, 4] (fun s3 s4 wr => ∃ (i : Nat) (EA : Option Addr) (ec : Nat) (E : Nat) (Es : List Nat), i ≤ n ∧ s4 = .int .i64 (i : Int) ∧ s3 = .slice EA (E :: Es).length ec ∧ Hid (Own wr w.heap.size 3 1 EA (E :: Es).length ec (ints ((E :: Es).reverse.map fun j : Nat => (j : Int)))) ∧ Hid (Srt i (E :: Es) n) ∧ Hid (segV (cmds ts) i (E :: Es) = R) ∧ Es.length ≤ i ∧ Below w.heap.size w wr) (fun _ s4 _ => n - (intOf s4).toNat)
  case atStart => exact ⟨0, _, 1, n, [], Nat.zero_le _, rfl, rfl, Lib.hid o0, Lib.hid ⟨Nat.zero_le _, rfl⟩, Lib.hid hs0, Nat.zero_le _, z0⟩
  case round =>
    obtain ⟨i, EA, ec, E, Es, hi, rfl, rfl, HO, HS, HG, hel, hz⟩ := hrel
    clear o0 z0 hs0
    by_cases hlt : i < n
    rotate_left
    · have j1 : ¬ (i : Int) < (n : Int) := by omega
      have HT : Hid (validWh (cmds ts) = true) := Lib.hid (by rw [HV.out, HR.out, ← HG.out]; exact segV_end HS.out (by omega))
      go_wp2_with fail
      go_ret
      exact ⟨ret_bool HT.out.symm, hz⟩
    have j1 : (i : Int) < (n : Int) := by omega
    generalize wr = Wo at *
    go_wp2_with fail
    go_loopw [3] (fun s3 wr => ∃ (EA : Option Addr) (ec : Nat) (E : Nat) (Es : List Nat), s3 = .slice EA (E :: Es).length ec ∧ Hid (Own wr w.heap.size 3 1 EA (E :: Es).length ec (ints ((E :: Es).reverse.map fun j : Nat => (j : Int)))) ∧ Hid (Srt i (E :: Es) n) ∧ Hid (segV (cmds ts) i (E :: Es) = R) ∧ Es.length ≤ i ∧ Below w.heap.size w wr) (fun s3 _ => match s3 with | .slice _ k _ => k | _ => 0)
    case atStart => exact ⟨EA, ec, E, Es, rfl, HO, HS, HG, hel, hz⟩
    case round =>
      clear HO HS HG hel hz
      obtain ⟨EA, ec, E, Es, rfl, HO, HS, HG, hel, hz⟩ := hrel
      obtain ⟨eb, eo, hEA, _, _, ecell, _⟩ := HO.out.at_ (k := Es.length) (by rw [length_ints]; simp)
      have hEc : wr.cell? ⟨eb, eo + Es.length, none⟩ = some (.int .i64 (E : Int)) := by rw [ecell, ints_get]; simp
      clear ecell
      subst hEA
      obtain ⟨m, hm⟩ : ∃ m, Es.length = m := ⟨_, rfl⟩
      obtain ⟨M, hM⟩ : ∃ M, (E :: Es).length = M := ⟨_, rfl⟩
      have hmM : m + 1 = M := by rw [← hm, ← hM]; rfl
      rw [hm] at hEc hel
      have HMM := Lib.hid hM
      have Hm := Lib.hid hm
      have hMc : M ≤ ec := by have h5 := HO.out.le; rw [hM] at h5; exact h5
      have w1 : IntKind.i64.wrap ((M : Int) - 1) = (m : Int) := by rw [show ((M : Int) - 1) = (m : Int) by omega]; exact IntWalk.i64_in _ (by omega)
      have k1 : (0 : Int) ≤ (m : Int) := by omega
      have k2 : (m : Int) < (M : Int) := by omega
      by_cases hp : E = i ∧ Es ≠ []
      · obtain ⟨rfl, hne⟩ := hp
        obtain ⟨F, Es', rfl⟩ : ∃ F Es', Es = F :: Es' := by
          cases Es with
          | nil => exact absurd rfl hne
          | cons F Es' => exact ⟨F, Es', rfl⟩
        have k3 : (M : Int) > 1 := by rw [List.length_cons] at hm; omega
        have k4 : ((E : Int) == (E : Int)) = true := by simp
        have k5 : ¬ (ec : Int) < (m : Int) := by omega
        have k6 : (m : Int) ≤ (ec : Int) := by omega
        have k7 : ¬ ec = 0 := by omega
        have HO2 : Hid (Own wr w.heap.size 3 1 (some ⟨eb, eo, none⟩) (F :: Es').length ec (ints ((F :: Es').reverse.map fun j : Nat => (j : Int)))) := Lib.hid (by
          have h2 := Own.cut HO.out (i := 0) (j := (F :: Es').length) (Nat.zero_le _) (by simp) (A' := some ⟨eb, eo, none⟩) (fun e => e) (fun b off e => .inl (by rw [e]; rfl))
          rw [Nat.sub_zero, Nat.sub_zero, List.drop_zero, ints_take] at h2
          have e2 : ((E :: F :: Es').reverse.map fun j : Nat => (j : Int)).take (F :: Es').length = (F :: Es').reverse.map fun j : Nat => (j : Int) := by
            rw [List.reverse_cons, List.map_append, List.take_append_of_le_length (by simp), List.take_of_length_le (by simp)]
          rw [e2] at h2
          exact h2)
        have HS2 : Hid (Srt E (F :: Es') n) := Lib.hid HS.out.2
        have HG2 : Hid (segV (cmds ts) E (F :: Es') = R) := Lib.hid (by rw [← segV_pop]; exact HG.out)
        have hel2 : Es'.length ≤ E := by rw [List.length_cons] at hm; omega
        clear hm hne hM hmM
        rw [HMM.out]
        go_wp2_with fail
        go_roundw
        case rel => exact ⟨some ⟨eb, eo, none⟩, ec, F, Es', by rw [Hm.out], HO2, HS2, HG2, hel2, hz⟩
        case measure => (show m < _; first | omega | (simp; omega))
      have hiE : i < E := by
        have h1 := HS.out.top
        rcases Nat.lt_or_ge i E with h2 | h2
        · exact h2
        · exfalso
          have h3 : E = i := by omega
          cases Es with
          | nil => have := HS.out.2; omega
          | cons F Es' => exact hp ⟨h3, by simp⟩
      have hEn := HS.out.top.2
      have k4 : ((E : Int) == (i : Int)) = false := by simp; omega
      rw [HMM.out]
      obtain ⟨ce, pb, po, HT, hcm, rfl, hpb, q0, q1, q2, q3, hre⟩ := (hx.below hz).pick (k := i) hlt
      have hrl := HRW.out ce hcm
      have HC : Hid ((cmds ts)[i]? = some ce.cmd) := Lib.hid (by unfold cmds; rw [List.getElem?_map, HT.out]; rfl)
      have HSC : Hid (segV (cmds ts) i (E :: Es) = (validC (ce.cmd :: cutL (cmds ts) (i + 1) E) && segV (cmds ts) E Es)) := Lib.hid (by rw [segV, cutL_cons HC.out hiE])
      obtain ⟨rk, rv, rl, rA, rc, re⟩ := ce
      dsimp only [Ce.cmd] at q0 q1 q2 q3 hre hrl HSC
      have HVE := Lib.hid (l22Expr_any rA re.length rc re wr hre (by omega))
      have j2 : (0 : Int) ≤ (i : Int) := by omega
      obtain ⟨i', hi'⟩ : ∃ i', i + 1 = i' := ⟨_, rfl⟩
      rw [hi'] at HSC
      have w3 : IntKind.i64.wrap ((i : Int) + 1) = (i' : Int) := by rw [show ((i : Int) + 1) = (i' : Int) by omega]; exact IntWalk.i64_in _ (by omega)
      have hiE' : i' ≤ E := by omega
      have hEi : E ≤ 80 := by omega
      have hii1 : i < i' ∧ i' ≤ n ∧ m ≤ i' ∧ n ≤ 80 := by omega
      have HII := Lib.hid hi'
      by_cases hMg : M > 1
      case' pos => have k3 : (M : Int) > 1 := by omega
      case' neg => have k3 : ¬ (M : Int) > 1 := by omega
      all_goals
        clear hcm hp hm hM hMg hi'
        go_upto_region 10 with fail
        cases he : isEx re with
        | false =>
          have HE : Hid (validWh (cmds ts) = false) := Lib.hid (by rw [HV.out, HR.out, ← HG.out, HSC.out, validC_ex he]; rfl)
          rw [he] at HVE
          clear he
          go_wp2_with (go_at_call 147; refine HVE.out.mono ?_; rintro e w' ⟨rfl, rfl⟩)
          go_ret
          exact ⟨ret_bool HE.out.symm, hz⟩
        | true =>
          have HEX := Lib.hid he
          rw [he] at HVE
          clear he
          cases hv : inB rv 0 5 with
          | false =>
            have HE : Hid (validWh (cmds ts) = false) := Lib.hid (by
              rw [HV.out, HR.out, ← HG.out, HSC.out]
              by_cases h0 : rk = 0
              · rw [validC_set HEX.out h0]; dsimp only; rw [hv]; rfl
              · by_cases h1 : rk = 1
                · rw [validC_wh HEX.out h1]
                  have h2 : (rv == 0) = false := by
                    simp only [beq_eq_false_iff_ne]
                    rintro rfl
                    cases hv
                  dsimp only; rw [h2]; rfl
                · rw [validC_no h0 h1]; rfl)
            have HVV := Lib.hid hv
            clear hv
            go_wp2_with (first | (go_at_call 147; refine HVE.out.mono ?_; rintro e w' ⟨rfl, rfl⟩) | (go_at_call 148; refine (l00In_is HVV.out _).mono ?_; rintro e w' ⟨rfl, rfl⟩))
            go_ret
            exact ⟨ret_bool HE.out.symm, hz⟩
          | true =>
            have HVV := Lib.hid hv
            by_cases h0 : rk = 0
            · have e0 : (rk == 0) = true := by simpa using h0
              by_cases hl0 : rl = 0
              · have e1 : (rl != 0) = false := by simp [hl0]
                have HG2 : Hid (segV (cmds ts) i' (E :: Es) = R) := Lib.hid (by rw [← HG.out, HSC.out, validC_set HEX.out h0]; dsimp only; rw [hv, hl0, segV]; rfl)
                have HS2 := Lib.hid (HS.out.next hiE')
                clear hv h0 hl0
                go_wp2_with (first | (go_at_call 147; refine HVE.out.mono ?_; rintro e w' ⟨rfl, rfl⟩) | (go_at_call 148; refine (l00In_is HVV.out _).mono ?_; rintro e w' ⟨rfl, rfl⟩))
                go_roundw
                case rel => exact ⟨i', some ⟨eb, eo, none⟩, ec, E, Es, hii1.2.1, rfl, by rw [HMM.out], HO, HS2, HG2, by rw [Hm.out]; exact hii1.2.2.1, hz⟩
                case measure => (simp [intOf] <;> omega)
              · have e1 : (rl != 0) = true := by simp [hl0]
                have HE : Hid (validWh (cmds ts) = false) := Lib.hid (by rw [HV.out, HR.out, ← HG.out, HSC.out, validC_set HEX.out h0]; simp [hl0])
                clear hv h0 hl0
                go_wp2_with (first | (go_at_call 147; refine HVE.out.mono ?_; rintro e w' ⟨rfl, rfl⟩) | (go_at_call 148; refine (l00In_is HVV.out _).mono ?_; rintro e w' ⟨rfl, rfl⟩))
                go_ret
                exact ⟨ret_bool HE.out.symm, hz⟩
            have e0 : (rk == 0) = false := by simpa using h0
            by_cases h1 : rk = 1
            rotate_left
            · have e1 : (rk == 1) = false := by simpa using h1
              have HE : Hid (validWh (cmds ts) = false) := Lib.hid (by rw [HV.out, HR.out, ← HG.out, HSC.out, validC_no h0 h1]; rfl)
              clear hv h0 h1
              go_wp2_with (first | (go_at_call 147; refine HVE.out.mono ?_; rintro e w' ⟨rfl, rfl⟩) | (go_at_call 148; refine (l00In_is HVV.out _).mono ?_; rintro e w' ⟨rfl, rfl⟩))
              go_ret
              exact ⟨ret_bool HE.out.symm, hz⟩
            have e1 : (rk == 1) = true := by simpa using h1
            have HVW := Lib.hid (validC_wh (c := ⟨rk, rv, rl, re⟩) (r := cutL (cmds ts) i' E) HEX.out h1)
            clear h0 h1 hv
            go_upto_region 18 with (first | (go_at_call 147; refine HVE.out.mono ?_; rintro e w' ⟨rfl, rfl⟩) | (go_at_call 148; refine (l00In_is HVV.out _).mono ?_; rintro e w' ⟨rfl, rfl⟩))
            by_cases hv0 : rv = 0
            rotate_left
            · have ev : (rv != 0) = true := by simp [hv0]
              have HE : Hid (validWh (cmds ts) = false) := Lib.hid (by rw [HV.out, HR.out, ← HG.out, HSC.out, HVW.out]; simp [hv0])
              clear hv0
              go_quiet (fail)
              go_wp2_with fail
              go_ret
              exact ⟨ret_bool HE.out.symm, hz.trans ((below_drewN (Below.refl _ _) _).mono hz.size)⟩
            have ev : (rv != 0) = false := by simp [hv0]
            have w5 : IntKind.i64.wrap ((E : Int) - (i : Int)) = (E : Int) - (i : Int) := IntWalk.i64_in _ (by omega)
            have w6 : IntKind.i64.wrap ((E : Int) - (i : Int) - 1) = (E : Int) - (i : Int) - 1 := IntWalk.i64_in _ (by omega)
            have hrl' : ((cutL (cmds ts) i' E).length : Int) = (E : Int) - (i : Int) - 1 := by rw [cutL_len (by rw [HCL.out]; exact hEn)]; have := HII.out; omega
            cases hin : inB rl 0 ((E : Int) - (i : Int) - 1) with
            | false =>
              have HE : Hid (validWh (cmds ts) = false) := Lib.hid (by rw [HV.out, HR.out, ← HG.out, HSC.out, HVW.out]; (try dsimp only); rw [hrl', hin]; simp)
              have HIN := Lib.hid hin
              clear hin hv0 hrl'
              go_quiet ((go_at_call 148; exact quiet_left (l00In_is HIN.out _)))
              go_wp2_with fail
              go_ret
              exact ⟨ret_bool HE.out.symm, hz.trans ((below_drewN (Below.refl _ _) _).mono hz.size)⟩
            | true =>
              have HIN := Lib.hid hin
              have hcc := (inB_iff _ _ _).1 hin
              obtain ⟨B, rfl⟩ : ∃ B : Nat, rl = (B : Int) := ⟨rl.toNat, by omega⟩
              obtain ⟨X, hX⟩ : ∃ X, i' + B = X := ⟨_, rfl⟩
              have hXE : i' ≤ X ∧ X ≤ E := by have := HII.out; omega
              have w7 : IntKind.i64.wrap ((i' : Int) + (B : Int)) = (X : Int) := by rw [show (i' : Int) + (B : Int) = (X : Int) by omega]; exact IntWalk.i64_in _ (by omega)
              have HG2 : Hid (segV (cmds ts) i' (X :: E :: Es) = R) := Lib.hid (by
                rw [← HG.out, HSC.out, HVW.out]
                try dsimp only
                rw [hrl', hin, hv0, Int.toNat_natCast, cutL_take _ _ _ _ (by omega), cutL_drop, hX]
                simp only [segV, beq_self_eq_true, Bool.true_and, Bool.and_assoc])
              have HS2 := Lib.hid (HS.out.push hXE.1 hXE.2)
              have HL2 : Hid (ints ((X :: E :: Es).reverse.map fun j : Nat => (j : Int)) = ints ((E :: Es).reverse.map fun j : Nat => (j : Int)) ++ [.int .i64 (X : Int)]) := Lib.hid (by simp [ints])
              have hM81 : M ≤ 82 := by omega
              clear hin hv0 hrl' hcc hX
              go_quiet ((go_at_call 148; exact quiet_left (l00In_is HIN.out _)))
              obtain ⟨V, hV⟩ : ∃ V, V = wr.drewN nq := ⟨_, rfl⟩
              rw [← hV]
              have zV : Below wr.heap.size wr V := by rw [hV]; exact below_drewN (Below.refl _ _) _
              have hOV := (HO.out.below zV).alloc (.cells #[.int .i64 (X : Int)] 3)
              rw [HMM.out] at hOV
              have r0 : V.cell? ⟨pb, po + i * 4 + 2, none⟩ = some (.int .i64 (B : Int)) := (zV.cell (p := ⟨pb, po + i * 4 + 2, none⟩) hpb).trans q2
              have hzV := hz.trans (zV.mono hz.size)
              have hloV := hzV.size
              have HOV := Lib.hid hOV
              have HZV := Lib.hid hzV
              clear hV zV q0 q1 q2 q3 hEc hOV hzV hre
              go_wp2_with (at_builtin; refine wpList_append_Own rfl (.tmp 88) (.tmp 96) rfl elIi (lo := w.heap.size) rfl HOV.out rfl (Rd.new1 V _ _) (by intro u hu; simp at hu; subst hu; rfl) (by omega) (by simp only [maxLen]; omega) (by simp; omega) ?_; intro A2 c2 w2 o2 hg2 _; have HO2 := Lib.hid o2; have HB2 := Lib.hid (HOV.out.below_of (HZV.out.alloc hloV _) hg2 (by simp; omega)))
              go_roundw
              case rel => exact ⟨i', A2, c2, X, E :: Es, hii1.2.1, rfl, by rw [List.length_cons, HMM.out], Lib.hid (by rw [List.length_cons, HMM.out, HL2.out]; exact HO2.out), HS2, HG2, by rw [HMM.out]; omega, HB2.out⟩
              case measure => (simp [intOf] <;> omega)
end Go.Proofs.Ytfheepjfpgiaoaa

/-
  Contract of the reference's l22Run.
-/
namespace Go.Proofs.Ytfheepjfpgiaoaa
open Go.RowKit

def RunSP (w : World) (r : Option (List Tr × Nat × Bool)) (e : Ending) (w' : World) : Prop :=
  Below w.heap.size w w' ∧ match r with
  | some (s, k, d) => ∃ A c, e = .returned (.tuple #[.slice A 6 c, .int .i64 (k : Int), .bool d, .bool true]) ∧ NowS w' w.heap.size A c s
  | none => e = .returned (.tuple #[.slice none 0 0, .int .i64 0, .bool false, .bool false])
/-- A run, by what stands behind the ends of bodies. -/
theorem goW_flat (f n : Nat) (p : Pg) (S : List Pg) (s : List Tr) : goW f n p S s = if doneW p S = true then some (s, n, true) else match f with
    | 0 => some (s, n, false)
    | f + 1 => match stepW (normW p S).1 (normW p S).2 s with
      | none => none
      | some (p', S', s') => goW f (n + 1) p' S' s' := by
  cases f with
  | zero =>
    rw [goW]
    cases h : doneW p S <;> simp
  | succ f => rw [goW]; rfl
theorem NowS.at_ {w : World} {lo b off c : Nat} {s : List Tr} (h : NowS w lo (some ⟨b, off, none⟩) c s) {k : Nat} (hk : k < s.length) : (∃ v, w.cell? ⟨b, off + k, none⟩ = some v) ∧ w.frozen? ⟨b, off + k, none⟩ = false ∧ lo ≤ b ∧ b < w.heap.size := by
  obtain ⟨us, h1, h2⟩ := h
  obtain ⟨b', off', e, h3, h4, h5, h6⟩ := h2.1.at_ (k := k) (by rw [List.length_map, nums_len h1]; exact hk)
  cases e
  exact ⟨⟨_, h5⟩, h6, h3, h4⟩
theorem Rel.nil {l : List Cmd} {S : List Pg} {i : Nat} {p : Pg} (h : Rel l [] S i p) : S = [] ∧ l.drop i = p.enc := by
  cases h with
  | base h _ _ => exact ⟨rfl, h⟩
theorem Rel.cons {l : List Cmd} {L : List Nat} {S : List Pg} {i : Nat} {p : Pg} (h : Rel l L S i p) (hn : L ≠ []) : ∃ L' S' t e b r, L = t :: L' ∧ S = .wh e b r :: S' ∧ Rel l L' S' t (.wh e b r) ∧ i + p.enc.length = t + 1 + b.enc.length ∧ t < i := by
  cases h with
  | base _ _ _ => exact absurd rfl hn
  | loop h _ hi _ ht => exact ⟨_, _, _, _, _, _, rfl, rfl, h, hi, ht⟩
set_option maxRecDepth 100000 in
set_option maxHeartbeats 8000000 in
theorem l22Run_any (w : World) (PA : Option Addr) (n pc : Nat) (ts : List Ce) (SA : Option Addr) (sc : Nat) (s0 : List Tr) (bud : Nat) (pg : Pg) (hx : SC w PA n ts) (hn : n ≤ 1000) (hpg : cmds ts = pg.enc) (hok : pg.ok) (hs : TRd w SA s0) (h6 : s0.length = 6) (hs0 : ∀ t ∈ s0, t.nodes ≤ 2000) (hb : bud ≤ 1000000) :
    Calls Try.prog 65 #[.slice PA n pc, .slice SA 6 sc, .int .i64 (bud : Int)] w (RunSP w (goW bud 0 pg [] s0)) := by
  obtain ⟨R, hR⟩ : ∃ R, goW bud 0 pg [] s0 = R := ⟨_, rfl⟩
  rw [hR]
  have HX := Lib.hid hx
  have HCL : Hid ((cmds ts).length = n) := Lib.hid (by rw [cmds_len]; exact hx.len)
  have HS := Lib.hid hs
  have H6 := Lib.hid h6
  have HS0 := Lib.hid hs0
  have HPG := Lib.hid hpg
  have HOK := Lib.hid hok
  have HRR := Lib.hid hR
  have o0 := Own.lit0 w 43 1
  have z0 : Below w.heap.size w (w.alloc (.cells #[] 43)) := (Below.refl _ _).alloc (Nat.le_refl _) _
  have HN0 : Hid (NowS (w.alloc (.cells #[] 43)) w.heap.size (some ⟨w.heap.size, 0, none⟩) 0 (s0.take 0)) := Lib.hid ⟨[], rfl, o0, by simp, List.Pairwise.nil⟩
  clear hx hs h6 hs0 hpg hok hR o0
  go_enter Try.func65, Try.ntmps65
  go_wp2_with fail
  go_loopw [10, 11] (fun s10 s11 wr => ∃ (i : Nat) (NA : Option Addr) (nc : Nat), i ≤ 6 ∧ s11 = .int .i64 (i : Int) ∧ s10 = .slice NA i nc ∧ Hid (NowS wr w.heap.size NA nc (s0.take i)) ∧ Below w.heap.size w wr) (fun _ s11 _ => 6 - (intOf s11).toNat)
  case atStart => exact ⟨0, _, 0, by omega, rfl, rfl, HN0, z0⟩
  case round =>
    obtain ⟨i, NA, nc, hi, rfl, rfl, HN, hz⟩ := hrel
    clear HN0 z0
    by_cases hlt : i < 6
    · have i1 : (i : Int) < 6 := by omega
      have i2 : (0 : Int) ≤ (i : Int) := by omega
      have w1 : IntKind.i64.wrap ((i : Int) + 1) = ((i + 1 : Nat) : Int) := by rw [IntWalk.i64_in _ (by omega)]; omega
      obtain ⟨t, ht⟩ : ∃ t, s0[i]? = some t := ⟨s0[i]'(by rw [H6.out]; exact hlt), List.getElem?_eq_getElem (by rw [H6.out]; exact hlt)⟩
      have HTT := Lib.hid ht
      have htn : t.nodes ≤ 2000 := HS0.out t (List.mem_of_getElem? ht)
      obtain ⟨u, sb, so, hr, rfl, hsb, hcv⟩ := (HS.out.below hz).pick ht
      have HSB := Lib.hid (hr.sb.alloc (.cells #[] 4))
      have HTL : Hid ((s0.take i).length = i) := Lib.hid (by rw [List.length_take, H6.out]; omega)
      have hloz := hz.size
      obtain ⟨T, hT⟩ : ∃ T, t.nodes = T := ⟨_, rfl⟩
      have HTn := Lib.hid hT
      rw [hT] at HSB hcv htn
      obtain ⟨us, hus1, hus2⟩ := HN.out
      have HU1 := Lib.hid hus1
      have HU2 := Lib.hid hus2
      have o1 := Own.lit0 wr 4 1
      have y1 : Below wr.heap.size wr (wr.alloc (.cells #[] 4)) := (Below.refl _ _).alloc (Nat.le_refl _) _
      have hcv1 : (wr.alloc (.cells #[] 4)).cell? ⟨sb, so + i, none⟩ = some (.slice u.A T u.c) := (World.cell?_alloc_lt wr _ ⟨sb, so + i, none⟩ hsb).trans hcv
      clear ht hr hT hus1 hus2
      go_wp2_with (first
        | (at_builtin; refine wpList_append_Own rfl (.tmp 26) (.tmp 30) rfl elBool (lo := wr.heap.size) rfl o1 rfl HSB.out (bools_one _) (by omega) (by simp only [maxLen]; omega) (by simp) ?_; intro A2 c2 w2 o2 hg2 _; have HO2 := Lib.hid o2; have HZ2 := Lib.hid (y1.grown hg2 (by simp) (fun b hb => by simp [blk] at hb; omega)); have hza2 : Below w2.heap.size w2 (w2.alloc (.cells #[.slice A2 T c2] 43)) := (Below.refl _ _).alloc (Nat.le_refl _) _; have HUA := Lib.hid (show Own (w2.alloc (.cells #[.slice A2 T c2] 43)) w.heap.size 43 1 NA i nc (us.map Bl.val) by have h := ((HU2.out.below HZ2.out).below hza2).1; rw [HTL.out] at h; exact h); have hw2 := HZ2.out.size)
        | (at_builtin; refine wpList_append_Own rfl (.tmp 25) (.tmp 32) rfl elBBs (lo := w.heap.size) rfl HUA.out rfl (Rd.new1 w2 _ _) (by intro u hu; simp at hu; subst hu; rfl) (by omega) (by simp only [maxLen]; omega) (by simp; omega) ?_; intro A3 c3 w3 o3 hg3 _; have HO3 := Lib.hid o3; have HG3 := Lib.hid hg3))
      have hza2 : Below w2.heap.size w2 (w2.alloc (.cells #[.slice A2 T c2] 43)) := (Below.refl _ _).alloc (Nat.le_refl _) _
      have hzz := HZ2.out.trans (hza2.mono HZ2.out.size)
      have hfin : NowS w3 w.heap.size A3 c3 (s0.take i ++ [t]) := by
        refine NowS.push HU1.out HU2.out hzz hloz (A1 := A2) (c1 := c2) ?_ ?_ HG3.out
        · have h := HO2.out
          rw [Nat.zero_add, List.nil_append] at h
          rw [HTn.out]
          exact h.alloc _
        · rw [HTL.out, HTn.out]; exact HO3.out
      have HFIN : Hid (NowS w3 w.heap.size A3 c3 (s0.take (i + 1))) := Lib.hid (by
        obtain ⟨h1, h2⟩ := List.getElem?_eq_some_iff.1 HTT.out
        rw [List.take_succ_eq_append_getElem h1, h2]; exact hfin)
      have hzf : Below w.heap.size w w3 := HUA.out.below_of (hz.trans (hzz.mono hloz)) HG3.out (by simp; omega)
      clear hfin hza2 hzz
      go_roundw
      case rel => exact ⟨i + 1, A3, c3, by omega, by go_num, rfl, HFIN, hzf⟩
      case measure => (simp [intOf] <;> omega)
    · obtain rfl : i = 6 := by omega
      have i1 : ¬ ((6 : Nat) : Int) < 6 := by omega
      have HN6 : Hid (NowS wr w.heap.size NA nc s0) := Lib.hid (by have h := HN.out; rwa [List.take_of_length_le (by rw [H6.out]; exact Nat.le_refl _)] at h)
      obtain ⟨nb, no, hNA⟩ : ∃ nb no, NA = some ⟨nb, no, none⟩ := by
        obtain ⟨us, h1, h2⟩ := HN6.out
        obtain ⟨nb, no, e, _⟩ := h2.1.at_ (k := 0) (by rw [List.length_map, nums_len h1, H6.out]; decide)
        exact ⟨nb, no, e⟩
      subst hNA
      have o1 := Own.lit0 wr 3 1
      have y1 : Below wr.heap.size wr (wr.alloc (.cells #[] 3)) := (Below.refl _ _).alloc (Nat.le_refl _) _
      have hloz := hz.size
      have HO1 : Hid (Own (wr.alloc (.cells #[] 3)) w.heap.size 3 1 (some ⟨wr.heap.size, 0, none⟩) 0 0 (ints (([] : List Nat).reverse.map fun j : Nat => (j : Int)))) := Lib.hid (o1.mono hloz)
      have HN7 := Lib.hid (HN6.out.below y1)
      have hz7 : Below w.heap.size w (wr.alloc (.cells #[] 3)) := hz.trans (y1.mono hloz)
      clear HN o1 y1
      generalize wr = Wo at *
      go_wp2_with fail
      go_loopw [12, 13, 14] (fun s12 s13 s14 wr => ∃ (f nn : Nat) (p : Pg) (S : List Pg) (s : List Tr) (i : Nat) (OA : Option Addr) (oc : Nat) (L : List Nat), nn + f = bud ∧ s12 = .int .i64 (i : Int) ∧ s13 = .slice OA L.length oc ∧ s14 = .int .i64 (nn : Int) ∧ Hid (NowS wr w.heap.size (some ⟨nb, no, none⟩) nc s) ∧ Hid (Own wr w.heap.size 3 1 OA L.length oc (ints (L.reverse.map fun j : Nat => (j : Int)))) ∧ Hid (Rel (cmds ts) L S i p) ∧ Hid (∀ t ∈ s, t.nodes ≤ 2000) ∧ Hid (s.length = 6) ∧ Hid (goW f nn p S s = R) ∧ Below w.heap.size w wr) (fun _ _ s14 _ => bud + 1 - (intOf s14).toNat)
      case atStart => exact ⟨bud, 0, pg, [], s0, 0, _, 0, [], by omega, rfl, rfl, rfl, HN7, HO1, Lib.hid (.base (by rw [List.drop_zero]; exact HPG.out) (Nat.zero_le _) HOK.out), HS0, H6, HRR, hz7⟩
      case round =>
        clear HN6 HO1 HN7 hz7 hz hloz HRR HPG HOK HS0 H6 HS
        obtain ⟨f, nn, p, S, s, i, OA, oc, L, hnf, rfl, rfl, rfl, HN, HO, HRL, HSN, H6, HG, hz⟩ := hrel
        obtain ⟨D, hD⟩ : ∃ D, doneW p S = D := ⟨_, rfl⟩
        obtain ⟨Q, hQ⟩ : ∃ Q, normW p S = Q := ⟨_, rfl⟩
        have HDD := Lib.hid hD
        have HQQ := Lib.hid hQ
        have HGF := Lib.hid (goW_flat f nn p S s)
        rw [HG.out, hD, hQ] at HGF
        clear hD hQ
        generalize wr = Wp at *
        go_wp2_with fail
        go_loopw [12, 13] (fun s12 s13 wr => ∃ (i : Nat) (OA : Option Addr) (oc : Nat) (L : List Nat) (p : Pg) (S : List Pg), s12 = .int .i64 (i : Int) ∧ s13 = .slice OA L.length oc ∧ Hid (NowS wr w.heap.size (some ⟨nb, no, none⟩) nc s) ∧ Hid (Own wr w.heap.size 3 1 OA L.length oc (ints (L.reverse.map fun j : Nat => (j : Int)))) ∧ Hid (Rel (cmds ts) L S i p) ∧ Hid (doneW p S = D) ∧ Hid (normW p S = Q) ∧ Below w.heap.size w wr) (fun _ s13 _ => match s13 with | .slice _ k _ => k | _ => 0)
        case atStart => exact ⟨i, OA, oc, L, p, S, rfl, rfl, HN, HO, HRL, HDD, HQQ, hz⟩
        case round =>
          clear HN HO HRL HG HDD HQQ hz
          obtain ⟨i, OA, oc, L, p, S, rfl, rfl, HN, HO, HRL, HDD, HQQ, hz⟩ := hrel
          have hin : i ≤ n := by have h1 := HRL.out.le; rw [HCL.out] at h1; exact h1
          obtain ⟨M, hM⟩ : ∃ M, L.length = M := ⟨_, rfl⟩
          have HMM := Lib.hid hM
          have hMn : M ≤ 1000 := by have h1 := HRL.out.len_le; omega
          have HFIN : Hid (∀ (W : World), Below w.heap.size w W → NowS W w.heap.size (some ⟨nb, no, none⟩) nc s → R = some (s, nn, D) → ∀ e, e = .returned (.tuple #[.slice (some ⟨nb, no, none⟩) 6 nc, .int .i64 (nn : Int), .bool D, .bool true]) → RunSP w R e W) := Lib.hid (fun W h1 h2 h3 e he => ⟨h1, by rw [h3]; exact ⟨_, nc, he, h2⟩⟩)
          obtain ⟨L0, hL0⟩ : ∃ L0, L0 = L := ⟨_, rfl⟩
          obtain ⟨S0, hS0⟩ : ∃ S0, S0 = S := ⟨_, rfl⟩
          have HRL0 : Hid (Rel (cmds ts) L0 S0 i p) := Lib.hid (by rw [hL0, hS0]; exact HRL.out)
          have HO0 : Hid (Own wr w.heap.size 3 1 OA L0.length oc (ints (L0.reverse.map fun j : Nat => (j : Int)))) := Lib.hid (by rw [hL0]; exact HO.out)
          have HMM0 : Hid (L0.length = M) := Lib.hid (by rw [hL0]; exact hM)
          have HL0 := Lib.hid hL0
          have HS0 := Lib.hid hS0
          clear hL0 hS0
          rw [hM]
          by_cases hLe : L = []
          case' pos =>
            subst hLe
            obtain ⟨rfl, hd⟩ := HRL.out.nil
            have HQ0 : Hid (Q = (p, S0)) := Lib.hid (by rw [← HQQ.out, HS0.out]; cases p <;> rfl)
            have HND : Hid (D = false → p ≠ .done) := Lib.hid (by rintro h1 rfl; rw [← HDD.out] at h1; exact absurd h1 (by decide))
            have k0 : ((i : Int) == (n : Int)) = D := by
              have h1 := congrArg List.length hd
              rw [List.length_drop, HCL.out] at h1
              rw [← HDD.out]
              cases p with
              | done =>
                show ((i : Int) == (n : Int)) = true
                simp [Pg.enc] at h1
                simp; omega
              | set v e r =>
                show ((i : Int) == (n : Int)) = false
                simp [Pg.enc] at h1
                simp; omega
              | wh e b r =>
                show ((i : Int) == (n : Int)) = false
                simp [Pg.enc] at h1
                simp; omega
            have i6 : ¬ 0 < M := by have h1 := HMM.out; simp at h1; omega
            have i7 : ¬ (0 : Int) < (M : Int) := by omega
            have i8 : ¬ (M : Int) > 0 := by omega
            clear hd hM HMM HRL HDD HQQ HO HL0 HS0
          case' neg =>
            obtain ⟨L', S', t, e, b, r, rfl, rfl, h1, hi, hti⟩ := HRL.out.cons hLe
            clear hLe
            have HR1 := Lib.hid h1
            obtain ⟨hwt, _, _, _⟩ := h1.wh
            have htn : t < n := by have := (List.getElem?_eq_some_iff.1 hwt).1; rw [HCL.out] at this; exact this
            obtain ⟨ce, pb, po, HT, _, hPA, hpb, _, _, c2, _, _⟩ := (HX.out.below hz).pick htn
            have hce : ce.l = (b.enc.length : Int) := by
              have h2 : (cmds ts)[t]? = some ce.cmd := by unfold cmds; rw [List.getElem?_map, HT.out]; rfl
              rw [hwt] at h2
              have h3 := Option.some.inj h2
              exact (congrArg Cmd.l h3).symm
            rw [hce] at c2
            have hbn : t + 1 + b.enc.length ≤ n := by
              obtain ⟨_, _, h2, _⟩ := h1.wh
              have h3 := h2.le; rw [HCL.out] at h3; omega
            obtain ⟨lb, lo, hLA, _, hlb, lc0, _⟩ := HO.out.at_ (k :=  L'.length) (by rw [length_ints]; simp)
            have hLc : wr.cell? ⟨lb, lo +  L'.length, none⟩ = some (.int .i64 (t : Int)) := by
              rw [lc0, ints_get]
              simp
            obtain ⟨m, hm⟩ : ∃ m,  L'.length = m := ⟨_, rfl⟩
            obtain ⟨B, hB⟩ : ∃ B, b.enc.length = B := ⟨_, rfl⟩
            have hmM : m + 1 = M := by rw [← hm, ← hM]; rfl
            rw [hB] at c2 hi hbn
            rw [hm] at hLc
            have Hm := Lib.hid hm
            subst hPA
            subst hLA
            have w1 : IntKind.i64.wrap ((M : Int) - 1) = (m : Int) := by rw [show ((M : Int) - 1) = (m : Int) by omega]; exact IntWalk.i64_in _ (by omega)
            have w2 : IntKind.i64.wrap ((t : Int) + 1) = ((t + 1 : Nat) : Int) := by rw [IntWalk.i64_in _ (by omega)]; omega
            have w3 : IntKind.i64.wrap (((t + 1 : Nat) : Int) + (B : Int)) = ((t + 1 + B : Nat) : Int) := by rw [IntWalk.i64_in _ (by omega)]; omega
            obtain ⟨T1, hT1⟩ : ∃ T1, t + 1 = T1 := ⟨_, rfl⟩
            rw [hT1] at w2 w3
            obtain ⟨T, hT⟩ : ∃ T, T1 + B = T := ⟨_, rfl⟩
            rw [hT] at w3
            have i0 : ¬ (m : Int) < 0 := by omega
            have i1 : (0 : Int) ≤ (m : Int) := by omega
            have i2 : (m : Int) < (M : Int) := by omega
            have i3 : (0 : Int) ≤ (t : Int) := by omega
            have i4 : (t : Int) < (n : Int) := by omega
            have i6 : 0 < M := by omega
            have i7 : (0 : Int) < (M : Int) := by omega
            have i8 : (M : Int) > 0 := by omega
            by_cases hpe : p.enc.length = 0
            · obtain rfl : p = .done := by
                cases p with
                | done => rfl
                | set v e r => simp [Pg.enc] at hpe
                | wh e b r => simp [Pg.enc] at hpe
              have i5 : ((i : Int) == (T : Int)) = true := by simp; omega
              have HDD2 : Hid (doneW (.wh e b r) S' = D) := Lib.hid HDD.out
              have HQQ2 : Hid (normW (.wh e b r) S' = Q) := Lib.hid HQQ.out
              have HO2 : Hid (Own wr w.heap.size 3 1 (some ⟨lb, lo, none⟩)  L'.length oc (ints (L'.reverse.map fun j : Nat => (j : Int)))) := Lib.hid (by
                have h2 := Own.cut HO.out (i := 0) (j :=  L'.length) (Nat.zero_le _) (by simp) (A' := some ⟨lb, lo, none⟩) (fun e => e) (fun b off e => .inl (by rw [e]; rfl))
                rw [Nat.sub_zero, Nat.sub_zero, List.drop_zero, ints_take] at h2
                have e2 : ((t :: L').reverse.map fun j : Nat => (j : Int)).take  L'.length = L'.reverse.map fun j : Nat => (j : Int) := by
                  rw [List.reverse_cons, List.map_append, List.take_append_of_le_length (by simp), List.take_of_length_le (by simp)]
                rw [e2] at h2
                exact h2)
              have hMc : M ≤ oc := by have h5 := HO.out.le; rw [hM] at h5; exact h5
              have j1 : ¬ (oc : Int) < (m : Int) := by omega
              have j2 : (m : Int) ≤ (oc : Int) := by omega
              have j3 : ¬ (oc : Int) = 0 := by omega
              have j4 : ¬ oc = 0 := by omega
              have hmM2 : m < M := by omega
              clear h1 hi hti hwt HT hce hbn lc0 hm hM hB hmM hT hpe hin hT1 HO HRL HDD HQQ
              go_wp2_with fail
              go_quiet (fail)
              go_wp2_with fail
              go_roundw
              case rel => exact ⟨t, some ⟨lb, lo, none⟩, oc, L', .wh e b r, S', rfl, by rw [Hm.out], Lib.hid (HN.out.below (below_drewN (Below.refl _ _) nq)), Lib.hid (HO2.out.drewN nq), HR1, HDD2, HQQ2, below_drewN hz nq⟩
              case measure => (show m < _; first | omega | (simp; omega))
            have i5 : ((i : Int) == (T : Int)) = false := by simp; omega
            have HQ0 : Hid (Q = (p, S0)) := Lib.hid (by rw [← HQQ.out, HS0.out]; cases p with
              | done => exact absurd rfl hpe
              | set v e r => rfl
              | wh e b r => rfl)
            have HND : Hid (D = false → p ≠ .done) := Lib.hid (by rintro _ rfl; exact hpe rfl)
            have hD2 : D = false := by rw [← HDD.out]; cases p with
              | done => exact absurd rfl hpe
              | set v e r => rfl
              | wh e b r => rfl
            have k0 : ((i : Int) == (n : Int)) = D := by rw [hD2]; simp; omega
            clear h1 hi hti hwt HT hce hbn lc0 hm hM hB hmM hT hpe hin hT1 hD2 HO HRL HDD HQQ HMM HL0 HS0 Hm HR1
          all_goals
            go_wp2_with fail
            go_quiet (fail)
            have hzV := below_drewN hz nq
            have HNV := Lib.hid (HN.out.below (below_drewN (Below.refl _ _) nq))
            have HOV := Lib.hid (HO0.out.drewN nq)
            clear HN HO0 hz
            generalize wr.drewN nq = V at *
            by_cases hD : D = true
            · have hR2 : R = some (s, nn, D) := by have h1 := HGF.out; rw [if_pos hD] at h1; rw [h1, hD]
              have HRR := Lib.hid hR2
              have HDD := Lib.hid hD
              rw [hD] at k0
              clear hD hR2
              go_wp2_with fail
              exact bodyPost_ret (v := .tuple #[.slice (some ⟨nb, no, none⟩) 6 nc, .int .i64 (nn : Int), .bool true, .bool true]) (by simp [results, Try.results65, go_sem]) rfl (HFIN.out _ hzV HNV.out HRR.out _ (by rw [HDD.out]))
            have hDf : D = false := by simpa using hD
            by_cases hbd : nn = bud
            · obtain rfl : f = 0 := by omega
              have hR2 : R = some (s, nn, D) := by have h1 := HGF.out; rw [if_neg hD] at h1; rw [h1, hDf]
              have HRR := Lib.hid hR2
              have HDD := Lib.hid hDf
              have k1 : ((nn : Int) == (bud : Int)) = true := by simp; omega
              rw [hDf] at k0
              clear hD hDf hR2 hbd
              go_wp2_with fail
              exact bodyPost_ret (v := .tuple #[.slice (some ⟨nb, no, none⟩) 6 nc, .int .i64 (nn : Int), .bool false, .bool true]) (by simp [results, Try.results65, go_sem]) rfl (HFIN.out _ hzV HNV.out HRR.out _ (by rw [HDD.out]))
            obtain ⟨f, rfl⟩ : ∃ f', f = f' + 1 := ⟨f - 1, by omega⟩
            have k1 : ((nn : Int) == (bud : Int)) = false := by simp; omega
            have HST : Hid (R = match stepW p S0 s with
              | none => none
              | some (p', S', s') => goW f (nn + 1) p' S' s') := Lib.hid (by have h1 := HGF.out; rw [if_neg hD, HQ0.out] at h1; exact h1)
            have hpn := HND.out hDf
            rw [hDf] at k0
            clear hD hDf hbd HGF HND
            cases p with
            | done => exact absurd rfl hpn
            | set v e r =>
              clear hpn
              obtain ⟨hat, hv6, hge, hrn⟩ := HRL0.out.set
              have HRN := Lib.hid hrn
              clear hrn
              have hatn : i < n := by have h1 := (List.getElem?_eq_some_iff.1 hat).1; rw [HCL.out] at h1; exact h1
              obtain ⟨ce, gb, go, HT, _, hPA, hgb, c0, c1, c2, c3, hre⟩ := (HX.out.below hzV).pick hatn
              have HDC := Lib.hid (fun w4 (z4 : Below V.heap.size V w4) => And.intro ((z4.cell (p := ⟨gb, go + i * 4, none⟩) hgb).trans c0) (And.intro ((z4.cell (p := ⟨gb, go + i * 4 + 1, none⟩) hgb).trans c1) ((z4.cell (p := ⟨gb, go + i * 4 + 2, none⟩) hgb).trans c2)))
              cases hPA
              have hce : ce.cmd = ⟨0, v, 0, e.enc⟩ := by
                have h2 : (cmds ts)[i]? = some ce.cmd := by unfold cmds; rw [List.getElem?_map, HT.out]; rfl
                rw [hat] at h2
                exact (Option.some.inj h2).symm
              obtain ⟨rk, rv, rl, rA, rc, re⟩ := ce
              cases hce
              dsimp only at c0 c1 c2 c3 hre HDC
              have HEV := Lib.hid (l22Eval_any e rA e.enc.length rc _ nc s V hre (by rw [ex_len]; exact hge.2) hge.1 HNV.out.trd H6.out HSN.out)
              obtain ⟨N, hN⟩ : ∃ N, e.enc.length = N := ⟨_, rfl⟩
              rw [hN] at c3 HEV
              have i10 : (0 : Int) ≤ (i : Int) := by omega
              have i11 : (i : Int) < (n : Int) := by omega
              clear hN HT hat hge hre
              cases hev : e.ev s with
              | none =>
                have HR2 : Hid (R = none) := Lib.hid (by rw [HST.out]; show (match (e.ev s).map _ with | none => none | some (p', S', s') => goW f (nn + 1) p' S' s') = none; rw [hev]; rfl)
                rw [hev] at HEV
                clear hev
                go_wp2_with (go_at_call 150; refine HEV.out.mono ?_; rintro e4 w4 ⟨hz4, rfl⟩; have HZ4 := Lib.hid (hzV.trans (hz4.mono hzV.size)))
                exact bodyPost_ret (v := .tuple #[.slice none 0 0, .int .i64 0, .bool false, .bool false]) (by simp [results, Try.results65, go_sem]) rfl ⟨HZ4.out, by rw [HR2.out]⟩
              | some x =>
                rw [hev] at HEV
                have HEE := Lib.hid hev
                have HXN : Hid (x.nodes ≤ 2000) := Lib.hid (ev_nodes HSN.out e x hev)
                obtain ⟨X, hX⟩ : ∃ X, x.nodes = X := ⟨_, rfl⟩
                have HXX := Lib.hid hX
                clear hev hX
                have i12 : (0 : Int) ≤ (v : Int) := by omega
                have i13 : (v : Int) < 6 := by omega
                have hnn : nn < bud := by omega
                have w11 : IntKind.i64.wrap ((i : Int) + 1) = ((i + 1 : Nat) : Int) := by rw [IntWalk.i64_in _ (by omega)]; omega
                have w12 : IntKind.i64.wrap ((nn : Int) + 1) = ((nn + 1 : Nat) : Int) := by rw [IntWalk.i64_in _ (by omega)]; omega
                go_upto_region 21 with (go_at_call 150; refine HEV.out.mono ?_; rintro e4 w4 ⟨hz4, A2, c2', rfl, ho4⟩; have HZ4 := Lib.hid hz4; have HA2 := Lib.hid ho4; have d0 := (HDC.out _ hz4).1; have d1 := (HDC.out _ hz4).2.1)
                obtain ⟨⟨vv, hvv⟩, hvf, hnb1, hnb2⟩ := (HNV.out.below HZ4.out).at_ (k := v) (by rw [H6.out]; exact hv6)
                have HNB := Lib.hid hnb1
                rw [HXX.out]
                clear hz4 ho4 hnb1 c0 c1 c2 c3
                go_wp2_with fail
                go_roundw
                case rel =>
                  refine ⟨f, nn + 1, r, S0, s.set v x, i + 1, _, oc, L0, by omega, rfl, by rw [HMM0.out], rfl, Lib.hid ?_, Lib.hid ((HOV.out.below HZ4.out).far (p := ⟨nb, no + v, none⟩) (fun e => by obtain ⟨us, _, h2⟩ := HNV.out; exact Own.blk_ne HOV.out h2.1 (by decide) nb e rfl) _), HRN, Lib.hid ?_, Lib.hid (by rw [List.length_set]; exact H6.out), Lib.hid ?_, ?_⟩
                  · have h1 := NowS.set (k := v) HNV.out HZ4.out (by rw [H6.out]; exact hv6) hzV.size HA2.out
                    rw [HXX.out] at h1
                    exact h1
                  · intro t ht
                    rcases List.mem_or_eq_of_mem_set ht with h | h
                    · exact HSN.out t h
                    · rw [h]; exact HXN.out
                  · rw [HST.out]
                    show _ = (match (e.ev s).map (fun x => (r, S0, s.set v x)) with | none => none | some (p', S', s') => goW f (nn + 1) p' S' s')
                    rw [HEE.out]; rfl
                  · exact (hzV.trans (HZ4.out.mono hzV.size)).setCell (p := ⟨nb, no + v, none⟩) HNB.out _
                case measure => (simp [intOf] <;> omega)
            | wh e b r =>
              clear hpn
              obtain ⟨hat, hge, hrA, hrB⟩ := HRL0.out.wh
              have HRA := Lib.hid hrA
              have HRB := Lib.hid hrB
              clear hrA hrB
              have hatn : i < n := by have h1 := (List.getElem?_eq_some_iff.1 hat).1; rw [HCL.out] at h1; exact h1
              obtain ⟨ce, gb, go, HT, _, hPA, hgb, c0, c1, c2, c3, hre⟩ := (HX.out.below hzV).pick hatn
              have HDC := Lib.hid (fun w4 (z4 : Below V.heap.size V w4) => And.intro ((z4.cell (p := ⟨gb, go + i * 4, none⟩) hgb).trans c0) (And.intro ((z4.cell (p := ⟨gb, go + i * 4 + 1, none⟩) hgb).trans c1) ((z4.cell (p := ⟨gb, go + i * 4 + 2, none⟩) hgb).trans c2)))
              cases hPA
              have hce : ce.cmd = ⟨1, 0, b.enc.length, e.enc⟩ := by
                have h2 : (cmds ts)[i]? = some ce.cmd := by unfold cmds; rw [List.getElem?_map, HT.out]; rfl
                rw [hat] at h2
                exact (Option.some.inj h2).symm
              obtain ⟨rk, rv, rl, rA, rc, re⟩ := ce
              cases hce
              dsimp only at c0 c1 c2 c3 hre HDC
              have HEV := Lib.hid (l22Eval_any e rA e.enc.length rc _ nc s V hre (by rw [ex_len]; exact hge.2) hge.1 HNV.out.trd H6.out HSN.out)
              obtain ⟨N, hN⟩ : ∃ N, e.enc.length = N := ⟨_, rfl⟩
              rw [hN] at c3 HEV
              have i10 : (0 : Int) ≤ (i : Int) := by omega
              have i11 : (i : Int) < (n : Int) := by omega
              clear hN HT hat hge hre
              cases hev : e.ev s with
              | none =>
                have HR2 : Hid (R = none) := Lib.hid (by rw [HST.out]; show (match (e.ev s).map _ with | none => none | some (p', S', s') => goW f (nn + 1) p' S' s') = none; rw [hev]; rfl)
                rw [hev] at HEV
                clear hev
                go_wp2_with (go_at_call 150; refine HEV.out.mono ?_; rintro e4 w4 ⟨hz4, rfl⟩; have HZ4 := Lib.hid (hzV.trans (hz4.mono hzV.size)))
                exact bodyPost_ret (v := .tuple #[.slice none 0 0, .int .i64 0, .bool false, .bool false]) (by simp [results, Try.results65, go_sem]) rfl ⟨HZ4.out, by rw [HR2.out]⟩
              | some x =>
                rw [hev] at HEV
                have HEE := Lib.hid hev
                have HXN : Hid (x.nodes ≤ 2000) := Lib.hid (ev_nodes HSN.out e x hev)
                obtain ⟨X, hX⟩ : ∃ X, x.nodes = X := ⟨_, rfl⟩
                have HXX := Lib.hid hX
                clear hev hX
                have i12 : (0 : Int) < (X : Int) := by have h1 := nodes_pos x; rw [HXX.out] at h1; omega
                have hnn : nn < bud := by omega
                have w11 : IntKind.i64.wrap ((i : Int) + 1) = ((i + 1 : Nat) : Int) := by rw [IntWalk.i64_in _ (by omega)]; omega
                have w12 : IntKind.i64.wrap ((nn : Int) + 1) = ((nn + 1 : Nat) : Int) := by rw [IntWalk.i64_in _ (by omega)]; omega
                obtain ⟨B, hB⟩ : ∃ B, b.enc.length = B := ⟨_, rfl⟩
                have hiB : i + 1 + B ≤ n := by have h1 := HRA.out.le; rw [HCL.out, hB] at h1; exact h1
                rw [hB] at c2 HRA HDC
                have w13 : IntKind.i64.wrap (1 + (B : Int)) = ((1 + B : Nat) : Int) := by rw [IntWalk.i64_in _ (by omega)]; omega
                have w14 : IntKind.i64.wrap ((i : Int) + ((1 + B : Nat) : Int)) = ((i + 1 + B : Nat) : Int) := by rw [IntWalk.i64_in _ (by omega)]; omega
                obtain ⟨B1, hB1⟩ : ∃ B1, 1 + B = B1 := ⟨_, rfl⟩
                rw [hB1] at w13 w14
                clear hB hB1
                go_upto_region 21 with (go_at_call 150; refine HEV.out.mono ?_; rintro e4 w4 ⟨hz4, A2, c2', rfl, ho4⟩; have HZ4 := Lib.hid hz4; have HA2 := Lib.hid ho4; have d0 := (HDC.out _ hz4).1; have d2 := (HDC.out _ hz4).2.2)
                obtain ⟨ab, ao, hA2, _, _, hc2, _⟩ := ho4.at_ (k := 0) (by rw [length_bools, enc_len]; exact nodes_pos x)
                subst hA2
                rw [HXX.out]
                have HNW := Lib.hid (HNV.out.below hz4)
                have hOW := HOV.out.below hz4
                have HOW0 := Lib.hid hOW
                rw [HMM0.out] at hOW
                have HOW := Lib.hid hOW
                clear hOW
                have HZW := Lib.hid (hzV.trans (hz4.mono hzV.size))
                have hloW := HZW.out.size
                clear hz4 ho4 c0 c1 c2 c3
                by_cases hxn : x = .nil
                · have hc : w4.cell? ⟨ab, ao, none⟩ = some (.bool false) := by subst hxn; exact hc2
                  have HG5 : Hid (goW f (nn + 1) r S0 s = R) := Lib.hid (by
                    rw [HST.out]
                    show _ = (match (e.ev s).map (fun x => if x = .nil then (r, S0, s) else (b, .wh e b r :: S0, s)) with | none => none | some (p', S', s') => goW f (nn + 1) p' S' s')
                    rw [HEE.out, Option.map_some, if_pos hxn])
                  clear hc2 hxn
                  go_wp2_with fail
                  go_roundw
                  case rel => exact ⟨f, nn + 1, r, S0, s, i + 1 + B, _, oc, L0, by omega, rfl, by rw [HMM0.out], rfl, HNW, HOW0, HRA, HSN, H6, HG5, HZW.out⟩
                  case measure => (simp [intOf] <;> omega)
                · have hc : w4.cell? ⟨ab, ao, none⟩ = some (.bool true) := by
                    cases x with
                    | nil => exact absurd rfl hxn
                    | nd y z => exact hc2
                  have HG5 : Hid (goW f (nn + 1) b (.wh e b r :: S0) s = R) := Lib.hid (by
                    rw [HST.out]
                    show _ = (match (e.ev s).map (fun x => if x = .nil then (r, S0, s) else (b, .wh e b r :: S0, s)) with | none => none | some (p', S', s') => goW f (nn + 1) p' S' s')
                    rw [HEE.out, Option.map_some, if_neg hxn])
                  clear hc2 hxn
                  have hza : Below w4.heap.size w4 (w4.alloc (.cells #[.int .i64 (i : Int)] 3)) := (Below.refl _ _).alloc (Nat.le_refl _) _
                  have HOA := Lib.hid (HOW.out.below hza)
                  have HNA := Lib.hid (HNW.out.below hza)
                  have HZA := Lib.hid (HZW.out.trans (hza.mono hloW))
                  clear hza
                  go_wp2_with (at_builtin; refine wpList_append_Own rfl (.tmp 115) (.tmp 117) rfl elIi (lo := w.heap.size) rfl HOA.out rfl (Rd.new1 w4 _ _) (by intro u hu; simp at hu; subst hu; rfl) (by omega) (by simp only [maxLen]; omega) (by simp; omega) ?_; intro A5 c5 w5 o5 hg5 _; have HO5 := Lib.hid o5; have HG := Lib.hid hg5)
                  go_roundw
                  case rel =>
                    refine ⟨f, nn + 1, b, .wh e b r :: S0, s, i + 1, A5, c5, i :: L0, by omega, rfl, by rw [List.length_cons, HMM0.out], rfl, Lib.hid (HNA.out.grown HOA.out HG.out), Lib.hid ?_, HRB, HSN, H6, HG5, HOA.out.below_of HZA.out HG.out (by simp; omega)⟩
                    have h1 := HO5.out
                    rw [List.length_cons, HMM0.out, List.reverse_cons, List.map_append]
                    simpa [ints] using h1
                  case measure => (simp [intOf] <;> omega)
end Go.Proofs.Ytfheepjfpgiaoaa

/-
  Contract of the reference's l22Start.
-/
namespace Go.Proofs.Ytfheepjfpgiaoaa
open Go.RowKit

theorem NowS.one {w : World} {lo c1 : Nat} {t : Tr} {A1 : Option Addr} (ho : Own w lo 4 1 A1 t.nodes c1 (bools t.enc)) (hlo : lo ≤ w.heap.size) : NowS (w.alloc (.cells #[.slice A1 t.nodes c1] 43)) lo (some ⟨w.heap.size, 0, none⟩) 1 [t] := by
  refine ⟨[⟨A1, c1, t.enc⟩], rfl, ?_, ?_, by simp [AptB]⟩
  · have h := Own.lit w #[.slice A1 t.nodes c1] 43 1 1 lo rfl (by simp [maxLen]) hlo
    have e1 : Bl.val ⟨A1, c1, t.enc⟩ = .slice A1 t.nodes c1 := by unfold Bl.val; rw [enc_len]
    rw [List.map_singleton, e1]
    exact h
  · intro u hu
    rw [List.mem_singleton.1 hu]
    show Own _ lo 4 1 A1 t.enc.length c1 (bools t.enc)
    rw [enc_len]
    exact ho.alloc _
def fillW (t : Tr) (i : Nat) : List Tr := t :: List.replicate (i - 1) .nil
theorem fillW_len (t : Tr) {i : Nat} (h : 1 ≤ i) : (fillW t i).length = i := by unfold fillW; rw [List.length_cons, List.length_replicate]; omega
theorem fillW_succ (t : Tr) {i : Nat} (h : 1 ≤ i) : fillW t (i + 1) = fillW t i ++ [.nil] := by
  obtain ⟨j, rfl⟩ : ∃ j, i = j + 1 := ⟨i - 1, by omega⟩
  unfold fillW
  rw [Nat.add_sub_cancel, Nat.add_sub_cancel, List.replicate_succ']
  rfl
def StaP (w : World) (t : Tr) (e : Ending) (w' : World) : Prop := ∃ A c, e = .returned (.slice A 6 c) ∧ NowS w' w.heap.size A c (startW t) ∧ Below w.heap.size w w'
end Go.Proofs.Ytfheepjfpgiaoaa

/-
  Trees in memory: nodes of three cells (head, tail, how many nodes), shared at will, never written again. Contracts of impl's nodesOf, pair, headOf, tailOf, equal.
-/
namespace Go.Proofs.Ytfheepjfpgiaoaa
open Go.RowKit

/-- A tree behind a pointer. -/
def TrAt (w : World) : Tr → Option Addr → Prop
  | .nil, p => p = none
  | .nd h t, p => ∃ g a b, p = some ⟨g, 0, none⟩ ∧ Blk w g 224 #[.pointer a, .pointer b, .int .i64 ((1 + h.nodes + t.nodes : Nat) : Int)] ∧ TrAt w h a ∧ TrAt w t b
/-- All nodes are as they were. -/
def KT (w w' : World) : Prop := ∀ g cs, Blk w g 224 cs → Blk w' g 224 cs
theorem KT.refl (w : World) : KT w w := fun _ _ h => h
theorem KT.trans {a b c : World} (h : KT a b) (k : KT b c) : KT a c := fun g cs x => k g cs (h g cs x)
theorem KT.below {w w' : World} (z : Below w.heap.size w w') : KT w w' := fun _ _ h => h.below' z
theorem KT.drewN (w : World) (n : Nat) : KT w (w.drewN n) := fun _ _ h => h.drewN n
theorem KT.undrew {w w' : World} {n : Nat} (h : KT (w.drewN n) w') : KT w w' := fun g cs x => h g cs (x.drewN n)
theorem KT.setCell {w : World} {g i : Nat} {t : TypeId} {cur : Array Value} (h : Blk w g t cur) (ht : t ≠ 224) (u : Value) : KT w (w.setCell ⟨g, i, none⟩ u) := fun g2 cs x => x.far (p := ⟨g, i, none⟩) (fun e => by
  have e : g2 = g := e
  subst e
  have h1 := Eq.trans (Eq.symm h) x
  simp at h1
  exact ht h1.2) u
theorem KT.grown {w w2 : World} {lo n c s : Nat} {e : TypeId} {A : Option Addr} {cs : List Value} (h : Own w lo e s A n c cs) (hg : w.grownBy w2 (blk A)) (he : 224 ≠ e) : KT w w2 := fun _ _ x => x.grown h hg he
theorem KT.own {w : World} {lo n c s : Nat} {e : TypeId} {b off k : Nat} {cs : List Value} (h : Own w lo e s (some ⟨b, off, none⟩) n c cs) (he : 224 ≠ e) (u : Value) : KT w (w.setCell ⟨b, off + k, none⟩ u) := fun g cs' x => x.far (p := ⟨b, off + k, none⟩) (fun e2 => by
  have e2 : g = b := e2
  subst e2
  exact x.apt h he rfl) u
theorem TrAt.kt {w w' : World} (k : KT w w') : ∀ {t : Tr} {p : Option Addr}, TrAt w t p → TrAt w' t p
  | .nil, _, h => h
  | .nd _ _, _, ⟨g, a, b, e, hb, hh, ht⟩ => ⟨g, a, b, e, k g _ hb, TrAt.kt k hh, TrAt.kt k ht⟩
theorem TrAt.below {w w' : World} {t : Tr} {p : Option Addr} (h : TrAt w t p) (z : Below w.heap.size w w') : TrAt w' t p := h.kt (KT.below z)
theorem TrAt.drewN {w : World} {t : Tr} {p : Option Addr} (h : TrAt w t p) (n : Nat) : TrAt (w.drewN n) t p := h.kt (KT.drewN w n)
theorem TrAt.fn {w : World} : ∀ {t u : Tr} {p : Option Addr}, TrAt w t p → TrAt w u p → t = u
  | .nil, .nil, _, _, _ => rfl
  | .nil, .nd _ _, _, h, ⟨_, _, _, e, _⟩ => by rw [show _ = none from h] at e; cases e
  | .nd _ _, .nil, _, ⟨_, _, _, e, _⟩, h => by rw [show _ = none from h] at e; cases e
  | .nd h t, .nd h' t', _, ⟨g, a, b, e, hb, hh, ht⟩, ⟨g', a', b', e', hb', hh', ht'⟩ => by
    rw [e] at e'
    simp only [Option.some.injEq, Addr.mk.injEq, and_true] at e'
    subst e'
    have h1 := Eq.trans (Eq.symm hb) hb'
    simp at h1
    obtain ⟨rfl, rfl, _⟩ := h1
    rw [TrAt.fn hh hh', TrAt.fn ht ht']
theorem TrAt.of_none {w : World} {t : Tr} (h : TrAt w t none) : t = .nil := by
  cases t with
  | nil => rfl
  | nd a b => obtain ⟨_, _, _, e, _⟩ := h; cases e
theorem TrAt.new {w : World} {h t : Tr} {a b : Option Addr} (hh : TrAt w h a) (ht : TrAt w t b) : TrAt (w.alloc (.cells #[.pointer a, .pointer b, .int .i64 ((1 + h.nodes + t.nodes : Nat) : Int)] 224)) (.nd h t) (some ⟨w.heap.size, 0, none⟩) := by
  have z : Below w.heap.size w (w.alloc (.cells #[.pointer a, .pointer b, .int .i64 ((1 + h.nodes + t.nodes : Nat) : Int)] 224)) := (Below.refl _ _).alloc (Nat.le_refl _) _
  exact ⟨_, a, b, rfl, Blk.new w _ _, hh.below z, ht.below z⟩

theorem nodesOf_any (t : Tr) (p : Option Addr) (w : World) (h : TrAt w t p) : Calls Try.prog 176 #[.pointer p] w fun e w' => e = .returned (.int .i64 (t.nodes : Int)) ∧ w = w' := by
  cases t with
  | nil =>
    obtain rfl : p = none := h
    go_enter Try.func176, Try.ntmps176
    go_wp2_with fail
    go_ret
    exact ⟨rfl, rfl⟩
  | nd a b =>
    obtain ⟨g, x, y, rfl, hb, _, _⟩ := h
    obtain ⟨N, hN⟩ : ∃ N : Int, ((1 + a.nodes + b.nodes : Nat) : Int) = N := ⟨_, rfl⟩
    rw [hN] at hb
    have HN := Lib.hid hN
    have c2 : w.cell? ⟨g, 2, none⟩ = some (.int .i64 N) := hb.cell 2
    clear hN hb
    go_enter Try.func176, Try.ntmps176
    go_wp2_with fail
    go_ret
    exact ⟨ret_int (by rw [← HN.out]; rfl), rfl⟩
theorem headOf_any (t : Tr) (p : Option Addr) (w : World) (h : TrAt w t p) : Calls Try.prog 96 #[.pointer p] w fun e w' => (∃ q, e = .returned (.pointer q) ∧ TrAt w t.hd q) ∧ w = w' := by
  cases t with
  | nil =>
    obtain rfl : p = none := h
    go_enter Try.func96, Try.ntmps96
    go_wp2_with fail
    go_ret
    exact ⟨⟨_, rfl, rfl⟩, rfl⟩
  | nd a b =>
    obtain ⟨g, x, y, rfl, hb, hx, _⟩ := h
    have c0 : w.cell? ⟨g, 0, none⟩ = some (.pointer x) := hb.cell 0
    clear hb
    go_enter Try.func96, Try.ntmps96
    go_wp2_with fail
    go_ret
    exact ⟨⟨_, rfl, hx⟩, rfl⟩
theorem tailOf_any (t : Tr) (p : Option Addr) (w : World) (h : TrAt w t p) : Calls Try.prog 97 #[.pointer p] w fun e w' => (∃ q, e = .returned (.pointer q) ∧ TrAt w t.tl q) ∧ w = w' := by
  cases t with
  | nil =>
    obtain rfl : p = none := h
    go_enter Try.func97, Try.ntmps97
    go_wp2_with fail
    go_ret
    exact ⟨⟨_, rfl, rfl⟩, rfl⟩
  | nd a b =>
    obtain ⟨g, x, y, rfl, hb, _, hy⟩ := h
    have c1 : w.cell? ⟨g, 1, none⟩ = some (.pointer y) := hb.cell 1
    clear hb
    go_enter Try.func97, Try.ntmps97
    go_wp2_with fail
    go_ret
    exact ⟨⟨_, rfl, hy⟩, rfl⟩
/-- A pair in a new node. -/
def PairP (w : World) (h t : Tr) (a b : Option Addr) (e : Ending) (w' : World) : Prop := e = .returned (.pointer (some ⟨w.heap.size, 0, none⟩)) ∧ w' = w.alloc (.cells #[.pointer a, .pointer b, .int .i64 ((1 + h.nodes + t.nodes : Nat) : Int)] 224)
theorem pair_any (h t : Tr) (a b : Option Addr) (w : World) (hh : TrAt w h a) (ht : TrAt w t b) (hn : h.nodes + t.nodes ≤ 1000000000) : Calls Try.prog 175 #[.pointer a, .pointer b] w (PairP w h t a b) := by
  have H1 := Lib.hid (nodesOf_any h a w hh)
  have H2 := Lib.hid (nodesOf_any t b w ht)
  obtain ⟨n, hnn⟩ : ∃ n, h.nodes = n := ⟨_, rfl⟩
  obtain ⟨m, hm⟩ : ∃ m, t.nodes = m := ⟨_, rfl⟩
  unfold PairP
  rw [hnn, hm] at hn ⊢
  rw [hnn] at H1
  rw [hm] at H2
  have w1 : IntKind.i64.wrap (1 + (n : Int)) = ((1 + n : Nat) : Int) := by rw [IntWalk.i64_in _ (by omega)]; omega
  have w2 : IntKind.i64.wrap (((1 + n : Nat) : Int) + (m : Int)) = ((1 + n + m : Nat) : Int) := by rw [IntWalk.i64_in _ (by omega)]; omega
  obtain ⟨N, hN⟩ : ∃ N : Int, ((1 + n + m : Nat) : Int) = N := ⟨_, rfl⟩
  obtain ⟨M, hM⟩ : ∃ M : Int, ((1 + n : Nat) : Int) = M := ⟨_, rfl⟩
  rw [hN] at w2 ⊢
  rw [hM] at w1 w2
  clear hN hM hnn hm hh ht
  go_enter Try.func175, Try.ntmps175
  go_wp2_with (first | (go_at_call_of 176 a; with_reducible refine H1.out.mono ?_; rintro e w' ⟨rfl, rfl⟩) | (go_at_call 176; refine H2.out.mono ?_; rintro e w' ⟨rfl, rfl⟩))
  go_ret
  exact ⟨rfl, rfl⟩
end Go.Proofs.Ytfheepjfpgiaoaa
