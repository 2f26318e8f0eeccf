/-
  Contracts of impl's exprFollow, termEnd over expression elements, isWhileVariable, ValidExpr.
-/
import Derived.Test.YtfheepjfpgiaoaaCm
import Derived.Deep.QuietTactic
import Derived.BigQuiet
import Derived.Deep.DeepCutAuto
namespace Go.Proofs.Ytfheepjfpgiaoaa
open Go.RowKit

theorem fE_le (x : R2) : fE x ≤ 2 := by unfold fE; split <;> (try split) <;> omega
set_option maxHeartbeats 1000000 in
theorem exprFollow_any (x : R2) (w : World) : Calls Try.prog 170 #[.agg #[.int .i64 x.a, .int .i64 x.b]] w fun e w' => e = .returned (.int .i64 ((fE x : Nat) : Int)) ∧ Below w.heap.size w w' := by
  obtain ⟨a, b⟩ := x
  dsimp only
  have HY := Lib.hid ((Below.refl w.heap.size w).alloc (Nat.le_refl _) (.cells #[.int .i64 a, .int .i64 b] 118))
  by_cases h3 : a = 3
  · have e3 : (a == 3) = true := by simpa using h3
    have HR : Hid (fE ⟨a, b⟩ = 1) := Lib.hid (by unfold fE; rw [if_pos (.inl h3)])
    clear h3
    go_enter Try.func170, Try.ntmps170
    go_wp2_with fail
    go_ret
    exact ⟨ret_int (by rw [HR.out]; rfl), HY.out⟩
  have e3 : (a == 3) = false := by simpa using h3
  by_cases h4 : a = 4
  · have e4 : (a == 4) = true := by simpa using h4
    have HR : Hid (fE ⟨a, b⟩ = 1) := Lib.hid (by unfold fE; rw [if_pos (.inr h4)])
    clear h3 h4
    go_enter Try.func170, Try.ntmps170
    go_wp2_with fail
    go_ret
    exact ⟨ret_int (by rw [HR.out]; rfl), HY.out⟩
  have e4 : (a == 4) = false := by simpa using h4
  by_cases h2 : a = 2
  · have e2 : (a == 2) = true := by simpa using h2
    have HR : Hid (fE ⟨a, b⟩ = 2) := Lib.hid (by unfold fE; rw [if_neg (by simp [h3, h4]), if_pos (.inl h2)])
    clear h3 h4 h2
    go_enter Try.func170, Try.ntmps170
    go_wp2_with fail
    go_ret
    exact ⟨ret_int (by rw [HR.out]; rfl), HY.out⟩
  have e2 : (a == 2) = false := by simpa using h2
  by_cases h5 : a = 5
  · have e5 : (a == 5) = true := by simpa using h5
    have HR : Hid (fE ⟨a, b⟩ = 2) := Lib.hid (by unfold fE; rw [if_neg (by simp [h3, h4]), if_pos (.inr h5)])
    clear h3 h4 h2 h5
    go_enter Try.func170, Try.ntmps170
    go_wp2_with fail
    go_ret
    exact ⟨ret_int (by rw [HR.out]; rfl), HY.out⟩
  have e5 : (a == 5) = false := by simpa using h5
  have HR : Hid (fE ⟨a, b⟩ = 0) := Lib.hid (by unfold fE; rw [if_neg (by simp [h3, h4]), if_neg (by simp [h2, h5])])
  clear h3 h4 h2 h5
  go_enter Try.func170, Try.ntmps170
  go_wp2_with fail
  go_ret
  exact ⟨ret_int (by rw [HR.out]; rfl), HY.out⟩
set_option maxRecDepth 100000 in
set_option maxHeartbeats 1000000 in
theorem termEndE_any (A : Option Addr) (n c : Nat) (rs : List R2) (w : World) (hx : S2 w A n rs) (hn : n ≤ 1152921504606846976) :
    Calls Try.prog 169 #[.slice A n c, .int .i64 0, .func (.func 170) #[] #[]] w fun e w' => e = .returned (.int .i64 (endV fE rs 1 0)) ∧ Below w.heap.size w w' := by
  have HL := Lib.hid hx.len
  have hcall := Try.call170
  go_enter Try.func169, Try.ntmps169
  go_wp2_with fail
  go_loopw [1, 7] (fun s1 s7 wr => ∃ k o : Nat, k ≤ n ∧ o ≤ k + 1 ∧ s1 = .int .i64 (k : Int) ∧ s7 = .int .i64 (o : Int) ∧ Hid (endV fE rs o k = endV fE rs 1 0) ∧ Below w.heap.size w wr) (fun s1 _ _ => n - (intOf s1).toNat)
  case atStart => exact ⟨0, 1, by omega, by omega, rfl, rfl, rfl, Below.refl _ _⟩
  case round =>
    obtain ⟨k, o, hk, ho, rfl, rfl, he, hz⟩ := hrel
    by_cases h0 : o = 0
    · subst h0
      have HE : Hid (endV fE rs 1 0 = (k : Int)) := Lib.hid (by rw [← he.out, endV_zero])
      have i1 : ¬ ((0 : Nat) : Int) > 0 := by omega
      go_wp2_with fail
      go_ret
      exact ⟨ret_int HE.out.symm, hz⟩
    · have i1 : ((o : Nat) : Int) > 0 := by omega
      have i0 : 0 < o := by omega
      by_cases hlt : k < n
      · obtain ⟨r, g, off, HT, _, rfl, _, hc0, hc1⟩ := (hx.below hz).pick hlt
        have HN := Lib.hid (endV_next fE (l := rs) (o := o) i0 HT.out)
        have hf := fE_le r
        have HF := Lib.hid (exprFollow_any r wr)
        obtain ⟨f, hff⟩ : ∃ f, fE r = f := ⟨_, rfl⟩
        rw [hff] at HN hf HF
        have w1 : IntKind.i64.wrap ((f : Int) - 1) = (f : Int) - 1 := IntWalk.i64_in _ (by omega)
        have w2 : IntKind.i64.wrap ((o : Int) + ((f : Int) - 1)) = ((o - 1 + f : Nat) : Int) := by rw [IntWalk.i64_in _ (by omega)]; omega
        have w3 : IntKind.i64.wrap ((k : Int) + 1) = ((k + 1 : Nat) : Int) := by rw [IntWalk.i64_in _ (by omega)]; omega
        have hfo : o - 1 + f ≤ k + 1 + 1 := by omega
        obtain ⟨o', ho'⟩ : ∃ o', o - 1 + f = o' := ⟨_, rfl⟩
        rw [ho'] at w2 hfo HN
        clear hff hf ho'
        go_wp2_with (refine HF.out.mono ?_; rintro e w' ⟨rfl, z'⟩)
        go_roundw
        case rel => exact ⟨k + 1, o', by omega, by omega, by go_num, rfl, Lib.hid (by rw [← HN.out]; exact he.out), hz.trans (z'.mono hz.size)⟩
        case measure => (simp [intOf] <;> omega)
      · have HE : Hid (endV fE rs 1 0 = -1) := Lib.hid (by rw [← he.out]; exact endV_out fE i0 (by rw [HL.out]; omega))
        go_wp2_with fail
        go_ret
        exact ⟨ret_int HE.out.symm, hz⟩
theorem sizeExpr_any (A : Option Addr) (n c : Nat) (w : World) (hn : n ≤ 9223372036854775807) :
    Calls Try.prog 168 #[.slice A n c] w fun e w' => e = .returned (.int .i64 n) ∧ w = w' := by
  go_enter Try.func168, Try.ntmps168
  go_wp2
  go_ret
  exact ⟨rfl, rfl⟩
theorem isVar_any (v : Int) (w : World) : Calls Try.prog 84 #[.int .i64 v] w fun e w' => e = .returned (.bool (inB v 0 5)) ∧ w = w' := by
  go_enter Try.func84, Try.ntmps84
  go_wp2_with (go_at_call 109; refine (within_is rfl _).mono ?_; rintro e w' ⟨rfl, rfl⟩)
  go_ret
  exact ⟨rfl, rfl⟩
theorem all_next {α : Type} {p : α → Bool} {l : List α} {k : Nat} {x : α} (hx : l[k]? = some x) (hp : p x = true) (h : (l.take k).all p = true) : (l.take (k + 1)).all p = true := by
  obtain ⟨hk, rfl⟩ := List.getElem?_eq_some_iff.1 hx
  rw [List.take_succ_eq_append_getElem hk, List.all_append, h, List.all_cons, hp]; rfl
theorem all_not {α : Type} {p : α → Bool} {l : List α} {k : Nat} {x : α} (hx : l[k]? = some x) (hp : p x = false) : l.all p = false := List.all_eq_false.2 ⟨x, List.mem_of_getElem? hx, by simp [hp]⟩
theorem endV_wholeE {l : List R2} : (endV fE l 1 0 == (l.length : Int)) = (endI fE l 1 == some l.length) := by
  unfold endV
  rw [List.drop_zero]
  cases endI fE l 1 with
  | none =>
    have h1 : ((-1 : Int) == (l.length : Int)) = false := by simp
    exact h1
  | some j =>
    show (((0 + j : Nat) : Int) == (l.length : Int)) = (some j == some l.length)
    rw [Nat.zero_add, Bool.eq_iff_iff]; simp; omega
theorem isEx_long {l : List R2} (h : ¬ (1 ≤ (l.length : Int) ∧ (l.length : Int) ≤ 40)) : isEx l = false := by
  unfold isEx
  by_cases h0 : l.length ≤ 40
  · have : l = [] := List.eq_nil_of_length_eq_zero (by omega)
    subst this; rfl
  · rw [decide_eq_false h0]; rfl
theorem isEx_short {l : List R2} (h : l.length ≤ 40) : isEx l = (l.all okE && endI fE l 1 == some l.length) := by unfold isEx; rw [decide_eq_true h, Bool.true_and]
set_option maxRecDepth 100000 in
set_option maxHeartbeats 2000000 in
theorem validExpr_any (A : Option Addr) (n c : Nat) (rs : List R2) (w : World) (hx : S2 w A n rs) (hn : n ≤ 1152921504606846976) :
    Calls Try.prog 83 #[.slice A n c] w fun e w' => e = .returned (.bool (isEx rs)) ∧ Below w.heap.size w w' := by
  have HL := Lib.hid hx.len
  cases hin : inB (n : Int) 1 40 with
  | false =>
    have HI := Lib.hid hin
    have HF : Hid (isEx rs = false) := Lib.hid (isEx_long (by rw [HL.out]; intro h; rw [(inB_iff _ _ _).2 h] at hin; cases hin))
    clear hin
    go_enter Try.func83, Try.ntmps83
    go_wp2_with (first | (go_at_call 168; refine (sizeExpr_any _ _ _ _ (by omega)).mono ?_; rintro e w' ⟨rfl, rfl⟩) | (go_at_call 109; refine (within_is HI.out _).mono ?_; rintro e w' ⟨rfl, rfl⟩))
    go_ret
    exact ⟨ret_bool HF.out.symm, Below.refl _ _⟩
  | true =>
    have HI := Lib.hid hin
    have hn40 : n ≤ 40 := by have := (inB_iff _ _ _).1 hin; omega
    have HF := Lib.hid (isEx_short (l := rs) (by rw [HL.out]; exact hn40))
    clear hin
    go_enter Try.func83, Try.ntmps83
    go_wp2_with (first | (go_at_call 168; refine (sizeExpr_any _ _ _ _ (by omega)).mono ?_; rintro e w' ⟨rfl, rfl⟩) | (go_at_call 109; refine (within_is HI.out _).mono ?_; rintro e w' ⟨rfl, rfl⟩))
    go_loopw [11] (fun s11 wr => ∃ k : Nat, k ≤ n ∧ s11 = .int .i64 (k : Int) ∧ Hid ((rs.take k).all okE = true) ∧ Below w.heap.size w wr) (fun s11 _ => n - (intOf s11).toNat)
    case atStart => exact ⟨0, by omega, rfl, by simp [Hid], Below.refl _ _⟩
    case round =>
      obtain ⟨k, hk, rfl, he, hz⟩ := hrel
      by_cases hlt : k < n
      · obtain ⟨r, g, off, HT, _, rfl, _, hc0, hc1⟩ := (hx.below hz).pick hlt
        have i1 : (k : Int) < (n : Int) := by omega
        have i2 : (0 : Int) ≤ (k : Int) := by omega
        obtain ⟨ra, rb⟩ := r
        dsimp only at hc0 hc1
        obtain ⟨W1, hW_⟩ : ∃ W_, W_ = wr.alloc (.cells #[.int .i64 ra, .int .i64 rb] 118) := ⟨_, rfl⟩
        have b1 : Blk W1 wr.heap.size 118 #[.int .i64 ra, .int .i64 rb] := by rw [hW_]; exact Blk.new wr _ _
        have z1 : Below wr.heap.size wr W1 := by rw [hW_]; exact (Below.refl _ _).alloc (Nat.le_refl _) _
        have HW1 := Lib.hid hW_
        clear hW_
        have x0 : W1.cell? ⟨wr.heap.size, 0, none⟩ = some (.int .i64 ra) := b1.cell 0
        have x1 : W1.cell? ⟨wr.heap.size, 1, none⟩ = some (.int .i64 rb) := b1.cell 1
        have hz1 : Below w.heap.size w W1 := hz.trans (z1.mono hz.size)
        have w1 : IntKind.i64.wrap ((k : Int) + 1) = ((k + 1 : Nat) : Int) := by rw [IntWalk.i64_in _ (by omega)]; omega
        clear b1 z1
        cases ha : inB ra 0 5 with
        | false =>
          have HA := Lib.hid ha
          have HR : Hid (isEx rs = false) := Lib.hid (by rw [HF.out, all_not HT.out (by unfold okE; dsimp only; rw [ha]; rfl)]; rfl)
          clear ha
          go_upto_region 6 with fail
          rw [← HW1.out]
          go_wp2_with (first | (go_at_call 109; refine (within_is HA.out _).mono ?_; rintro e w' ⟨rfl, rfl⟩))
          go_ret
          exact ⟨ret_bool HR.out.symm, hz1⟩
        | true =>
          have HA := Lib.hid ha
          cases hb : inB rb 0 5 with
          | false =>
            have HB := Lib.hid hb
            have HR : Hid (isEx rs = false) := Lib.hid (by rw [HF.out, all_not HT.out (by unfold okE; dsimp only; rw [ha, hb]; rfl)]; rfl)
            clear ha hb
            go_upto_region 6 with fail
            rw [← HW1.out]
            go_wp2_with (first | (go_at_call 109; refine (within_is HA.out _).mono ?_; rintro e w' ⟨rfl, rfl⟩) | (go_at_call 84; refine (isVar_any rb _).mono ?_; rintro e w' ⟨rfl, rfl⟩; rw [HB.out]))
            go_ret
            exact ⟨ret_bool HR.out.symm, hz1⟩
          | true =>
            have HB := Lib.hid hb
            by_cases h1 : ra = 1
            · have e1 : (ra != 1) = false := by simp [h1]
              have HK : Hid ((rs.take (k + 1)).all okE = true) := Lib.hid (all_next HT.out (by unfold okE; dsimp only; rw [ha, hb, h1]; rfl) he.out)
              clear ha hb h1
              go_upto_region 6 with fail
              rw [← HW1.out]
              go_wp2_with (first | (go_at_call 109; refine (within_is HA.out _).mono ?_; rintro e w' ⟨rfl, rfl⟩) | (go_at_call 84; refine (isVar_any rb _).mono ?_; rintro e w' ⟨rfl, rfl⟩; rw [HB.out]))
              go_roundw
              case rel => exact ⟨k + 1, by omega, by go_num, HK, hz1⟩
              case measure => (simp [intOf] <;> omega)
            · have e1 : (ra != 1) = true := by simp [h1]
              by_cases h0 : rb = 0
              · have e0 : (rb != 0) = false := by simp [h0]
                have HK : Hid ((rs.take (k + 1)).all okE = true) := Lib.hid (all_next HT.out (by unfold okE; dsimp only; rw [ha, hb, h0]; simp) he.out)
                clear ha hb h1 h0
                go_upto_region 6 with fail
                rw [← HW1.out]
                go_wp2_with (first | (go_at_call 109; refine (within_is HA.out _).mono ?_; rintro e w' ⟨rfl, rfl⟩) | (go_at_call 84; refine (isVar_any rb _).mono ?_; rintro e w' ⟨rfl, rfl⟩; rw [HB.out]))
                go_roundw
                case rel => exact ⟨k + 1, by omega, by go_num, HK, hz1⟩
                case measure => (simp [intOf] <;> omega)
              · have e0 : (rb != 0) = true := by simp [h0]
                have HR : Hid (isEx rs = false) := Lib.hid (by rw [HF.out, all_not HT.out (by unfold okE; dsimp only; rw [ha, hb]; simp [h1, h0])]; rfl)
                clear ha hb h1 h0
                go_upto_region 6 with fail
                rw [← HW1.out]
                go_wp2_with (first | (go_at_call 109; refine (within_is HA.out _).mono ?_; rintro e w' ⟨rfl, rfl⟩) | (go_at_call 84; refine (isVar_any rb _).mono ?_; rintro e w' ⟨rfl, rfl⟩; rw [HB.out]))
                go_ret
                exact ⟨ret_bool HR.out.symm, hz1⟩
      · have HT := Lib.hid (termEndE_any A n c rs wr (hx.below hz) hn)
        have HA : Hid (rs.all okE = true) := Lib.hid (by have := he.out; rwa [List.take_of_length_le (by rw [HL.out]; omega)] at this)
        have HV := Lib.hid (endV_wholeE (l := rs))
        have HV2 := HV.out
        rw [HL.out] at HV2
        have hS2 : (endV fE rs 1 0 == (n : Int)) = isEx rs := by rw [HF.out, HA.out, Bool.true_and, HL.out]; exact HV2
        obtain ⟨V, hV⟩ : ∃ V, endV fE rs 1 0 = V := ⟨_, rfl⟩
        rw [hV] at HT hS2
        obtain ⟨r, hr⟩ : ∃ r, isEx rs = r := ⟨_, rfl⟩
        rw [hr] at hS2
        have HRR := Lib.hid hr
        have i1 : ¬ (k : Int) < (n : Int) := by omega
        clear HF hr HV HV2 hV
        go_wp2_with (first | (go_at_call 169; refine HT.out.mono ?_; rintro e w' ⟨rfl, z'⟩; have HZ := Lib.hid (hz.trans (z'.mono hz.size))))
        go_ret
        exact ⟨ret_bool HRR.out.symm, HZ.out⟩
end Go.Proofs.Ytfheepjfpgiaoaa
