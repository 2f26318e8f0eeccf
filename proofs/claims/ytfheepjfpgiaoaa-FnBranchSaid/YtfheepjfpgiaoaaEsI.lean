/-
  Contracts of the reference's l21Compare, l22Many, l22Expr.
-/
import Derived.Test.YtfheepjfpgiaoaaExI
import Derived.Test.YtfheepjfpgiaoaaTsI
import Derived.Test.YtfheepjfpgiaoaaL00A
namespace Go.Proofs.Ytfheepjfpgiaoaa
open Go.RowKit

/-- The first place where two lists part. -/
def lexB : List Bool → List Bool → Int
  | x :: xs, y :: ys => if x = y then lexB xs ys else if y then -1 else 1
  | _, _ => 0
def cmpB (xs ys : List Bool) : Int := if xs.length < ys.length then -1 else if ys.length < xs.length then 1 else lexB xs ys
theorem lexB_eq : ∀ {xs ys : List Bool}, xs.length = ys.length → (lexB xs ys == 0) = decide (xs = ys)
  | [], [], _ => rfl
  | [], _ :: _, h => by simp at h
  | _ :: _, [], h => by simp at h
  | x :: xs, y :: ys, h => by
    rw [lexB]
    by_cases hxy : x = y
    · rw [if_pos hxy, lexB_eq (by simpa using h), hxy]; simp
    · rw [if_neg hxy]
      have : decide (x :: xs = y :: ys) = false := decide_eq_false (fun e => hxy (List.cons.inj e).1)
      rw [this]
      cases y <;> rfl
theorem cmpB_eq (xs ys : List Bool) : (cmpB xs ys == 0) = decide (xs = ys) := by
  unfold cmpB
  by_cases h1 : xs.length < ys.length
  · rw [if_pos h1, decide_eq_false (fun e => by rw [e] at h1; omega)]; rfl
  · rw [if_neg h1]
    by_cases h2 : ys.length < xs.length
    · rw [if_pos h2, decide_eq_false (fun e => by rw [e] at h2; omega)]; rfl
    · rw [if_neg h2, lexB_eq (by omega)]
theorem lexB_drop {xs ys : List Bool} {k : Nat} {x y : Bool} (hx : xs[k]? = some x) (hy : ys[k]? = some y) : lexB (xs.drop k) (ys.drop k) = if x = y then lexB (xs.drop (k + 1)) (ys.drop (k + 1)) else if y then -1 else 1 := by
  obtain ⟨h3, h4⟩ := List.getElem?_eq_some_iff.1 hx
  obtain ⟨h5, h6⟩ := List.getElem?_eq_some_iff.1 hy
  rw [List.drop_eq_getElem_cons h3, List.drop_eq_getElem_cons h5, lexB, h4, h6]
set_option maxRecDepth 100000 in
set_option maxHeartbeats 2000000 in
theorem l21Compare_any (A : Option Addr) (n c : Nat) (xs : List Bool) (B : Option Addr) (m d : Nat) (ys : List Bool) (w : World) (hx : SB w A n xs) (hy : SB w B m ys) (hn : n ≤ 1000000000) (hm : m ≤ 1000000000) :
    Calls Try.prog 226 #[.slice A n c, .slice B m d] w fun e w' => e = .returned (.int .i64 (cmpB xs ys)) ∧ ∃ q, w' = w.drewN q := by
  have HL := Lib.hid hx.len
  have HM := Lib.hid hy.len
  by_cases h1 : n < m
  · have i1 : (n : Int) < (m : Int) := by omega
    have HR : Hid (cmpB xs ys = -1) := Lib.hid (by unfold cmpB; rw [HL.out, HM.out, if_pos h1])
    go_enter Try.func226, Try.ntmps226
    go_wp2_with fail
    go_ret
    exact ⟨ret_int HR.out.symm, 0, rfl⟩
  have i1 : ¬ (n : Int) < (m : Int) := by omega
  by_cases h2 : m < n
  · have i2 : (n : Int) > (m : Int) := by omega
    have HR : Hid (cmpB xs ys = 1) := Lib.hid (by unfold cmpB; rw [HL.out, HM.out, if_neg h1, if_pos h2])
    go_enter Try.func226, Try.ntmps226
    go_wp2_with fail
    go_ret
    exact ⟨ret_int HR.out.symm, 0, rfl⟩
  have i2 : ¬ (n : Int) > (m : Int) := by omega
  have HC : Hid (cmpB xs ys = lexB xs ys) := Lib.hid (by unfold cmpB; rw [HL.out, HM.out, if_neg h1, if_neg h2])
  obtain rfl : m = n := by omega
  go_enter Try.func226, Try.ntmps226
  go_wp2_with fail
  go_loopw [5] (fun i wr => ∃ k q : Nat, k ≤ m ∧ i = .int .i64 (k : Int) ∧ Hid (cmpB xs ys = lexB (xs.drop k) (ys.drop k)) ∧ wr = w.drewN q) (fun i _ => m - (intOf i).toNat)
  case atStart => exact ⟨0, 0, by omega, rfl, HC, rfl⟩
  case round =>
    obtain ⟨k, q, hk, rfl, he, rfl⟩ := hrel
    by_cases hlt : k < m
    · obtain ⟨x, b, off, HTx, rfl, _, hc⟩ := hx.pick hlt
      obtain ⟨y, b', off', HTy, rfl, _, hc'⟩ := hy.pick hlt
      have w3 : IntKind.i64.wrap ((k : Int) + 1) = ((k + 1 : Nat) : Int) := by rw [IntWalk.i64_in _ (by omega)]; omega
      have j1 : (0 : Int) ≤ (k : Int) := by omega
      have j2 : (k : Int) < (m : Int) := by omega
      have hcd : ∀ q, (w.drewN q).cell? ⟨b, off + k, none⟩ = some (.bool x) := fun q => hc
      have hcd' : ∀ q, (w.drewN q).cell? ⟨b', off' + k, none⟩ = some (.bool y) := fun q => hc'
      by_cases hxy : x = y
      · subst hxy
        have e1 : (x != x) = false := by simp
        have HN : Hid (cmpB xs ys = lexB (xs.drop (k + 1)) (ys.drop (k + 1))) := Lib.hid (by rw [he.out, lexB_drop HTx.out HTy.out, if_pos rfl])
        go_wp2_with fail
        go_quiet (fail)
        go_wp2_with fail
        go_roundw
        case rel => exact ⟨k + 1, _, by omega, by go_num, HN, rfl⟩
        case measure => (simp [intOf] <;> omega)
      · have e1 : (x != y) = true := by simpa using hxy
        have HR : Hid (cmpB xs ys = if y then -1 else 1) := Lib.hid (by rw [he.out, lexB_drop HTx.out HTy.out, if_neg hxy])
        clear e1
        cases y with
        | true =>
          obtain rfl : x = false := by cases x; rfl; exact absurd rfl hxy
          clear hxy
          go_wp2_with fail
          go_quiet (fail)
          go_wp2_with fail
          go_ret
          exact ⟨ret_int HR.out.symm, _, rfl⟩
        | false =>
          obtain rfl : x = true := by cases x; exact absurd rfl hxy; rfl
          clear hxy
          go_wp2_with fail
          go_quiet (fail)
          go_wp2_with fail
          go_ret
          exact ⟨ret_int HR.out.symm, _, rfl⟩
    · have i3 : ¬ (k : Int) < (m : Int) := by omega
      have HR : Hid (cmpB xs ys = 0) := Lib.hid (by rw [he.out, List.drop_of_length_le (by rw [HL.out]; omega)]; rfl)
      go_wp2_with fail
      go_ret
      exact ⟨ret_int HR.out.symm, q, rfl⟩
set_option maxHeartbeats 1000000 in
theorem l22Many_any (a b : Int) (w : World) : Calls Try.prog 160 #[.int .i64 a] w fun e w' => e = .returned (.int .i64 ((fE ⟨a, b⟩ : Nat) : Int)) ∧ w = w' := by
  by_cases h3 : a = 3
  · have e3 : (a == 3) = true := by simpa using h3
    have HR : Hid (fE ⟨a, b⟩ = 1) := Lib.hid (by unfold fE; rw [if_pos (.inl h3)])
    clear h3
    go_enter Try.func160, Try.ntmps160
    go_wp2_with fail
    go_ret
    exact ⟨ret_int (by rw [HR.out]; rfl), rfl⟩
  have e3 : (a == 3) = false := by simpa using h3
  by_cases h4 : a = 4
  · have e4 : (a == 4) = true := by simpa using h4
    have HR : Hid (fE ⟨a, b⟩ = 1) := Lib.hid (by unfold fE; rw [if_pos (.inr h4)])
    clear h3 h4
    go_enter Try.func160, Try.ntmps160
    go_wp2_with fail
    go_ret
    exact ⟨ret_int (by rw [HR.out]; rfl), rfl⟩
  have e4 : (a == 4) = false := by simpa using h4
  by_cases h2 : a = 2
  · have e2 : (a == 2) = true := by simpa using h2
    have HR : Hid (fE ⟨a, b⟩ = 2) := Lib.hid (by unfold fE; rw [if_neg (by simp [h3, h4]), if_pos (.inl h2)])
    clear h3 h4 h2
    go_enter Try.func160, Try.ntmps160
    go_wp2_with fail
    go_ret
    exact ⟨ret_int (by rw [HR.out]; rfl), rfl⟩
  have e2 : (a == 2) = false := by simpa using h2
  by_cases h5 : a = 5
  · have e5 : (a == 5) = true := by simpa using h5
    have HR : Hid (fE ⟨a, b⟩ = 2) := Lib.hid (by unfold fE; rw [if_neg (by simp [h3, h4]), if_pos (.inr h5)])
    clear h3 h4 h2 h5
    go_enter Try.func160, Try.ntmps160
    go_wp2_with fail
    go_ret
    exact ⟨ret_int (by rw [HR.out]; rfl), rfl⟩
  have e5 : (a == 5) = false := by simpa using h5
  have HR : Hid (fE ⟨a, b⟩ = 0) := Lib.hid (by unfold fE; rw [if_neg (by simp [h3, h4]), if_neg (by simp [h2, h5])])
  clear h3 h4 h2 h5
  go_enter Try.func160, Try.ntmps160
  go_wp2_with fail
  go_ret
  exact ⟨ret_int (by rw [HR.out]; rfl), rfl⟩
theorem needE_cons0 {x : R2} {l : List R2} : needE (x :: l) 0 = false := by simp [needE]
theorem needE_no {x : R2} {l : List R2} {o : Nat} (h : okE x = false) : needE (x :: l) o = false := by simp [needE, h]
theorem needE_yes {x : R2} {l : List R2} {o : Nat} (ho : 0 < o) (h : okE x = true) : needE (x :: l) o = needE l (o - 1 + fE x) := by
  have : (o != 0) = true := by simp; omega
  rw [needE, this, h, Bool.true_and, Bool.true_and]
set_option maxRecDepth 100000 in
set_option maxHeartbeats 2000000 in
theorem l22Expr_any (A : Option Addr) (n c : Nat) (rs : List R2) (w : World) (hx : S2 w A n rs) (hn : n ≤ 1152921504606846976) :
    Calls Try.prog 147 #[.slice A n c] w fun e w' => e = .returned (.bool (isEx rs)) ∧ w = w' := by
  have HL := Lib.hid hx.len
  by_cases h0 : n < 1
  · have i1 : (n : Int) < 1 := by omega
    have HF : Hid (isEx rs = false) := Lib.hid (isEx_long (by rw [HL.out]; omega))
    go_enter Try.func147, Try.ntmps147
    go_wp2_with fail
    go_ret
    exact ⟨ret_bool HF.out.symm, rfl⟩
  have i1 : ¬ (n : Int) < 1 := by omega
  by_cases h40 : 40 < n
  · have i2 : (n : Int) > 40 := by omega
    have HF : Hid (isEx rs = false) := Lib.hid (isEx_long (by rw [HL.out]; omega))
    go_enter Try.func147, Try.ntmps147
    go_wp2_with fail
    go_ret
    exact ⟨ret_bool HF.out.symm, rfl⟩
  have i2 : ¬ (n : Int) > 40 := by omega
  have HF : Hid (isEx rs = needE rs 1) := Lib.hid (by rw [isEx_need, decide_eq_true (by rw [HL.out]; omega), Bool.true_and])
  obtain ⟨R, hR⟩ : ∃ R, needE rs 1 = R := ⟨_, rfl⟩
  have HR := Lib.hid hR
  clear hR
  go_enter Try.func147, Try.ntmps147
  go_wp2_with fail
  go_loop [3, 4] (fun s3 s4 => ∃ k o : Nat, k ≤ n ∧ o ≤ k + 1 ∧ s3 = .int .i64 (o : Int) ∧ s4 = .int .i64 (k : Int) ∧ Hid (needE (rs.drop k) o = R)) (fun _ s4 => n - (intOf s4).toNat)
  case atStart => exact ⟨0, 1, by omega, by omega, rfl, rfl, Lib.hid (by rw [List.drop_zero]; exact HR.out)⟩
  case round =>
    obtain ⟨k, o, hk, ho, rfl, rfl, he⟩ := hrel
    by_cases hlt : k < n
    · have j1 : (k : Int) < (n : Int) := by omega
      have j2 : (0 : Int) ≤ (k : Int) := by omega
      obtain ⟨r, g, off, HT, _, rfl, _, c0, c1⟩ := hx.pick hlt
      have HD : Hid (rs.drop k = r :: rs.drop (k + 1)) := Lib.hid (by obtain ⟨h3, h4⟩ := List.getElem?_eq_some_iff.1 HT.out; rw [List.drop_eq_getElem_cons h3, h4])
      obtain ⟨ra, rb⟩ := r
      dsimp only at c0 c1
      by_cases ho0 : o = 0
      · subst ho0
        have e0 : (((0 : Nat) : Int) == 0) = true := rfl
        have HE : Hid (isEx rs = false) := Lib.hid (by rw [HF.out, HR.out, ← he.out, HD.out]; exact needE_cons0)
        go_wp2_with fail
        go_ret
        exact ⟨ret_bool HE.out.symm, rfl⟩
      have e0 : ((o : Int) == 0) = false := by simp; omega
      cases ha : inB ra 0 5 with
      | false =>
        have HA := Lib.hid ha
        have HE : Hid (isEx rs = false) := Lib.hid (by rw [HF.out, HR.out, ← he.out, HD.out]; exact needE_no (by unfold okE; dsimp only; rw [ha]; rfl))
        clear ha
        go_wp2_with (go_at_call 148; refine (l00In_is HA.out _).mono ?_; rintro e w' ⟨rfl, rfl⟩)
        go_ret
        exact ⟨ret_bool HE.out.symm, rfl⟩
      | true =>
        have HA := Lib.hid ha
        have hfl := fE_le ⟨ra, rb⟩
        have w3 : IntKind.i64.wrap ((k : Int) + 1) = ((k + 1 : Nat) : Int) := by rw [IntWalk.i64_in _ (by omega)]; omega
        have HMY := Lib.hid (l22Many_any ra rb w)
        by_cases h1 : ra = 1
        · have e1 : (ra == 1) = true := by simp [h1]
          have e1' : (ra != 1) = false := by simp [h1]
          cases hb : inB rb 0 5 with
          | false =>
            have HB := Lib.hid hb
            have HE : Hid (isEx rs = false) := Lib.hid (by rw [HF.out, HR.out, ← he.out, HD.out]; exact needE_no (by unfold okE; dsimp only; rw [ha, hb]; rfl))
            clear ha hb h1
            go_wp2_with (first | (go_at_call 148; (with_reducible refine (l00In_is HA.out _).mono ?_); rintro e w' ⟨rfl, rfl⟩) | (go_at_call 148; refine (l00In_is HB.out _).mono ?_; rintro e w' ⟨rfl, rfl⟩))
            go_ret
            exact ⟨ret_bool HE.out.symm, rfl⟩
          | true =>
            have HB := Lib.hid hb
            have HN := Lib.hid (needE_yes (l := rs.drop (k + 1)) (o := o) (by omega) (show okE ⟨ra, rb⟩ = true by unfold okE; dsimp only; rw [ha, hb, h1]; rfl))
            obtain ⟨f, hf⟩ : ∃ f, fE ⟨ra, rb⟩ = f := ⟨_, rfl⟩
            rw [hf] at HN HMY hfl
            have w1 : IntKind.i64.wrap ((f : Int) - 1) = (f : Int) - 1 := IntWalk.i64_in _ (by omega)
            obtain ⟨o', ho'⟩ : ∃ o', o - 1 + f = o' := ⟨_, rfl⟩
            rw [ho'] at HN
            have w2 : IntKind.i64.wrap ((o : Int) + ((f : Int) - 1)) = (o' : Int) := by rw [show (o : Int) + ((f : Int) - 1) = (o' : Int) by omega]; exact IntWalk.i64_in _ (by omega)
            have hle : o' ≤ k + 1 + 1 := by omega
            have HN2 : Hid (needE (rs.drop (k + 1)) o' = R) := Lib.hid (by rw [← HN.out, ← HD.out]; exact he.out)
            clear ha hb h1 hf ho'
            go_wp2_with (first | (go_at_call 160; refine HMY.out.mono ?_; rintro e w' ⟨rfl, rfl⟩) | (go_at_call 148; (with_reducible refine (l00In_is HA.out _).mono ?_); rintro e w' ⟨rfl, rfl⟩) | (go_at_call 148; refine (l00In_is HB.out _).mono ?_; rintro e w' ⟨rfl, rfl⟩))
            go_round
            case rel => exact ⟨k + 1, o', by omega, hle, rfl, by go_num, HN2⟩
            case measure => (simp [intOf] <;> omega)
        · have e1 : (ra == 1) = false := by simp [h1]
          have e1' : (ra != 1) = true := by simp [h1]
          by_cases hb0 : rb = 0
          · have e2 : (rb != 0) = false := by simp [hb0]
            have HN := Lib.hid (needE_yes (l := rs.drop (k + 1)) (o := o) (by omega) (show okE ⟨ra, rb⟩ = true by unfold okE; dsimp only; rw [ha, hb0]; simp [inB]))
            obtain ⟨f, hf⟩ : ∃ f, fE ⟨ra, rb⟩ = f := ⟨_, rfl⟩
            rw [hf] at HN HMY hfl
            have w1 : IntKind.i64.wrap ((f : Int) - 1) = (f : Int) - 1 := IntWalk.i64_in _ (by omega)
            obtain ⟨o', ho'⟩ : ∃ o', o - 1 + f = o' := ⟨_, rfl⟩
            rw [ho'] at HN
            have w2 : IntKind.i64.wrap ((o : Int) + ((f : Int) - 1)) = (o' : Int) := by rw [show (o : Int) + ((f : Int) - 1) = (o' : Int) by omega]; exact IntWalk.i64_in _ (by omega)
            have hle : o' ≤ k + 1 + 1 := by omega
            have HN2 : Hid (needE (rs.drop (k + 1)) o' = R) := Lib.hid (by rw [← HN.out, ← HD.out]; exact he.out)
            clear ha h1 hf ho' hb0
            go_wp2_with (first | (go_at_call 160; refine HMY.out.mono ?_; rintro e w' ⟨rfl, rfl⟩) | (go_at_call 148; refine (l00In_is HA.out _).mono ?_; rintro e w' ⟨rfl, rfl⟩))
            go_round
            case rel => exact ⟨k + 1, o', by omega, hle, rfl, by go_num, HN2⟩
            case measure => (simp [intOf] <;> omega)
          · have e2 : (rb != 0) = true := by simp [hb0]
            have HE : Hid (isEx rs = false) := Lib.hid (by rw [HF.out, HR.out, ← he.out, HD.out]; exact needE_no (by unfold okE; dsimp only; rw [ha]; simp [h1, hb0]))
            clear ha h1 hb0
            go_wp2_with (go_at_call 148; refine (l00In_is HA.out _).mono ?_; rintro e w' ⟨rfl, rfl⟩)
            go_ret
            exact ⟨ret_bool HE.out.symm, rfl⟩
    · have j1 : ¬ (k : Int) < (n : Int) := by omega
      have HE : Hid (isEx rs = (o == 0)) := Lib.hid (by rw [HF.out, HR.out, ← he.out, List.drop_of_length_le (by rw [HL.out]; omega)]; rfl)
      have e0 : ((o : Int) == 0) = (o == 0) := by rw [Bool.eq_iff_iff]; simp
      obtain ⟨r, hr⟩ : ∃ r, (o == 0) = r := ⟨_, rfl⟩
      rw [hr] at e0 HE
      clear hr
      go_wp2_with fail
      go_ret
      exact ⟨ret_bool HE.out.symm, rfl⟩
end Go.Proofs.Ytfheepjfpgiaoaa
