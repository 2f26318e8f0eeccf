/-
  Contracts of the reference's l17Part and l17Is: which loop programs are valid.
-/
import Derived.Test.YtacajmgokdgbgaaDoorPbLpU0
import Derived.Test.YtacajmgokdgbgaaDoorPbLpU1
import Derived.Deep.RegionHeld3
import Derived.Deep.DeepCutAuto
import Derived.BigQuiet
namespace Go.Proofs.YtacajmgokdgbgaaDoor
open Go.RowKit

theorem l17Var_is {v : Int} {b : Bool} (h : inB v 0 15 = b) (w : World) : Calls Tryd.prog 87 #[.int .i64 v] w fun e w' => e = .returned (.bool b) ∧ w = w' := by
  go_enter Tryd.func87, Tryd.ntmps87
  go_wp2_with (go_at_call 61; refine (l00In_is h _).mono ?_; rintro e w' ⟨rfl, rfl⟩)
  go_ret
  exact ⟨rfl, rfl⟩
theorem l17IsLoop_any (g : Nat) (x : R3) (w : World) (hb : Blk w g 64 #[.int .i64 x.a, .int .i64 x.b, .int .i64 x.c]) : Calls Tryd.prog 88 #[.pointer (some ⟨g, 0, none⟩)] w fun e w' => e = .returned (.bool (isLoopB x)) ∧ w = w' := by
  have x0 : w.cell? ⟨g, 0, none⟩ = some (.int .i64 x.a) := hb.cell 0
  by_cases h1 : x.a = 3
  · have h2 : (x.a == 3) = true := by simpa using h1
    clear h1
    go_enter Tryd.func88, Tryd.ntmps88
    go_wp2_with fail
    go_ret
    exact ⟨ret_bool (by unfold isLoopB; rw [h2]; rfl), rfl⟩
  · have h2 : (x.a == 3) = false := by simpa using h1
    clear h1
    go_enter Tryd.func88, Tryd.ntmps88
    go_wp2_with fail
    go_ret
    exact ⟨ret_bool (by unfold isLoopB; rw [h2]; rfl), rfl⟩
set_option maxRecDepth 100000 in
set_option maxHeartbeats 8000000 in
theorem l17Part_any : ∀ (K : Nat) (A : Option Addr) (n c : Nat) (rs : List R3) (i j d : Nat) (w : World), S3 w A n rs → n ≤ 1048576 → i ≤ j → j ≤ n → j - i ≤ K → d ≤ 7 →
    Calls Tryd.prog 60 #[.slice A n c, .int .i64 (i : Int), .int .i64 (j : Int), .int .i64 (d : Int)] w fun e w' => e = .returned (.bool (validLp (segL rs i j) d)) ∧ Below w.heap.size w w' := by
  intro K
  induction K using Nat.strongRecOn with
  | _ K ih =>
  intro A n c rs i j d w hx hn hij hjn hK hd
  have IH : Hid (∀ (t t1 e1 d1 : Nat) (w' : World), i ≤ t → t1 = t + 1 → t1 ≤ e1 → e1 ≤ j → d1 ≤ 7 → Below w.heap.size w w' → Calls Tryd.prog 60 #[.slice A n c, .int .i64 (t1 : Int), .int .i64 (e1 : Int), .int .i64 (d1 : Int)] w' fun e w'' => e = .returned (.bool (validLp (segL rs t1 e1) d1)) ∧ Below w'.heap.size w' w'') :=
    Lib.hid (fun t t1 e1 d1 w' h1 h2 h3 h4 h5 z => ih (K - 1) (by omega) A n c rs t1 e1 d1 w' (hx.below z) hn (by omega) (by omega) (by omega) h5)
  have HL := Lib.hid hx.len
  clear ih hK
  go_enter Tryd.func60, Tryd.ntmps60
  go_wp2_with fail
  go_loopw [9] (fun s9 wr => ∃ t : Nat, i ≤ t ∧ t ≤ j ∧ s9 = .int .i64 (t : Int) ∧ Hid (validLp (segL rs i j) d = validLp (segL rs t j) d) ∧ Below w.heap.size w wr) (fun s9 _ => j - (intOf s9).toNat)
  case atStart => exact ⟨i, Nat.le_refl _, hij, rfl, Lib.hid rfl, Below.refl _ _⟩
  case round =>
    obtain ⟨t, hit, htj, rfl, HV, zr⟩ := hrel
    by_cases hlt : t < j
    rotate_left
    · have hl2 : ¬ (t : Int) < (j : Int) := by omega
      have HE : Hid (validLp (segL rs i j) d = true) := Lib.hid (by rw [HV.out, segL_nil (by omega), validLp_nil])
      go_wp2_with fail
      go_ret
      exact ⟨ret_bool HE.out.symm, zr⟩
    have hl2 : (t : Int) < (j : Int) := by omega
    have htn : t < n := by omega
    obtain ⟨r, b, off, HR, hrm, rfl, hbl, q0, q1, q2⟩ := (hx.below zr).pick (k := t) htn
    have HSC := Lib.hid (segL_cons hlt HR.out)
    clear hrm
    obtain ⟨W1, hW_⟩ : ∃ W_, W_ = wr.alloc (.cells #[.int .i64 r.a, .int .i64 r.b, .int .i64 r.c] 64) := ⟨_, rfl⟩
    have b1 : Blk W1 wr.heap.size 64 #[.int .i64 r.a, .int .i64 r.b, .int .i64 r.c] := by rw [hW_]; exact Blk.new wr _ _
    have z1 : Below wr.heap.size wr W1 := by rw [hW_]; exact (Below.refl _ _).alloc (Nat.le_refl _) _
    have HW1 := Lib.hid hW_
    clear hW_
    have y1 := zr.trans (z1.mono zr.size)
    have i1 : (0 : Int) ≤ (t : Int) := by omega
    have i2 : (t : Int) < (n : Int) := by omega
    have x0 : W1.cell? ⟨wr.heap.size, 0, none⟩ = some (.int .i64 r.a) := b1.cell 0
    have x1 : W1.cell? ⟨wr.heap.size, 1, none⟩ = some (.int .i64 r.b) := b1.cell 1
    have x2 : W1.cell? ⟨wr.heap.size, 2, none⟩ = some (.int .i64 r.c) := b1.cell 2
    go_upto_region 5 with fail
    rw [← HW1.out]
    clear q0 q1 q2 i1 i2
    cases hv : inB r.b 0 15 with
    | false =>
      have HF : Hid (validLp (segL rs i j) d = false) := Lib.hid (by rw [HV.out, HSC.out, validLp_var hv])
      have HVV := Lib.hid hv
      clear hv
      cases hk : inB r.a 0 4 with
      | false =>
        have HKK := Lib.hid hk
        clear hk
        go_wp2_with (go_at_call 61; refine (l00In_is HKK.out _).mono ?_; rintro e w' ⟨rfl, rfl⟩)
        go_ret
        exact ⟨ret_bool HF.out.symm, y1⟩
      | true =>
        have HKK := Lib.hid hk
        clear hk
        go_wp2_with (first | (go_at_call 61; refine (l00In_is HKK.out _).mono ?_; rintro e w' ⟨rfl, rfl⟩) | (go_at_call 87; refine (l17Var_is HVV.out _).mono ?_; rintro e w' ⟨rfl, rfl⟩))
        go_ret
        exact ⟨ret_bool HF.out.symm, y1⟩
    | true =>
      have HVV := Lib.hid hv
      clear hv
      cases hk : inB r.a 0 4 with
      | false =>
        have HF : Hid (validLp (segL rs i j) d = false) := Lib.hid (by
          have h0 : ¬ (0 ≤ r.a ∧ r.a ≤ 4) := fun h => by rw [← inB_iff, hk] at h; cases h
          have h : isLoopB r = false ∧ flatB r = false := ⟨bool_false (isLoopB_iff r) (by omega), bool_false (flatB_iff r) (by omega)⟩
          rw [HV.out, HSC.out, validLp_flat h.1, h.2, HVV.out]; rfl)
        have HKK := Lib.hid hk
        clear hk
        go_wp2_with (go_at_call 61; refine (l00In_is HKK.out _).mono ?_; rintro e w' ⟨rfl, rfl⟩)
        go_ret
        exact ⟨ret_bool HF.out.symm, y1⟩
      | true =>
        have HKK := Lib.hid hk
        have hk2 := (inB_iff _ _ _).1 hk
        clear hk
        go_upto_region 7 with (first | (go_at_call 61; refine (l00In_is HKK.out _).mono ?_; rintro e w' ⟨rfl, rfl⟩) | (go_at_call 87; refine (l17Var_is HVV.out _).mono ?_; rintro e w' ⟨rfl, rfl⟩))
        obtain ⟨t1, ht1⟩ : ∃ t1 : Nat, t1 = t + 1 := ⟨_, rfl⟩
        have HT1 := Lib.hid ht1
        by_cases hf : r.a = 3 ∨ r.a = 4
        · have HLP := Lib.hid ((isLoopB_iff r).2 hf)
          have hd0 : (r.a == 2) = false := by simp; omega
          have hd1 : ¬ r.a < 2 := by omega
          have HVL : Hid (validLp (segL rs i j) d = (decide (d < 7) && inB r.c 0 ((j : Int) - (t : Int) - 1) && validLp ((segL rs t1 j).take r.c.toNat) (d + 1) && validLp ((segL rs t1 j).drop r.c.toNat) d)) := Lib.hid (by
            rw [HV.out, HSC.out, validLp_loop HLP.out, HVV.out, ht1, segL_len (by rw [HL.out]; exact hjn)]
            rw [show ((j - (t + 1) : Nat) : Int) = (j : Int) - (t : Int) - 1 by omega]; rfl)
          have HIL := Lib.hid (fun w' h => l17IsLoop_any wr.heap.size r w' h)
          rw [HLP.out] at HIL
          clear hf hk2
          by_cases h7 : 7 ≤ d
          · have h7i : (7 : Int) ≤ (d : Int) := by omega
            have HF : Hid (validLp (segL rs i j) d = false) := Lib.hid (by rw [HVL.out, decide_eq_false (by omega)]; rfl)
            go_wp2_with (go_at_call 88; refine (HIL.out _ b1).mono ?_; rintro e w' ⟨rfl, rfl⟩)
            go_ret
            exact ⟨ret_bool HF.out.symm, y1⟩
          have h7i : ¬ (7 : Int) ≤ (d : Int) := by omega
          have w1 : IntKind.i64.wrap ((j : Int) - (t : Int)) = (j : Int) - (t : Int) := IntWalk.i64_in _ (by omega)
          have w2 : IntKind.i64.wrap ((j : Int) - (t : Int) - 1) = (j : Int) - (t : Int) - 1 := IntWalk.i64_in _ (by omega)
          cases hin : inB r.c 0 ((j : Int) - (t : Int) - 1) with
          | false =>
            have HF : Hid (validLp (segL rs i j) d = false) := Lib.hid (by rw [HVL.out, hin, Bool.and_false]; rfl)
            have HIN := Lib.hid hin
            clear hin
            go_wp2_with (first | (go_at_call 88; refine (HIL.out _ b1).mono ?_; rintro e w' ⟨rfl, rfl⟩) | (go_at_call 61; refine (l00In_is HIN.out _).mono ?_; rintro e w' ⟨rfl, rfl⟩))
            go_ret
            exact ⟨ret_bool HF.out.symm, y1⟩
          | true =>
            have HIN := Lib.hid hin
            have hc := (inB_iff _ _ _).1 hin
            obtain ⟨B, hB⟩ : ∃ B : Nat, r.c = (B : Int) := ⟨r.c.toNat, by omega⟩
            obtain ⟨e1, he1⟩ : ∃ e1 : Nat, e1 = t1 + B := ⟨_, rfl⟩
            obtain ⟨e0, he0⟩ : ∃ e0 : Nat, e0 = t + B := ⟨_, rfl⟩
            obtain ⟨d1, hd1'⟩ : ∃ d1 : Nat, d1 = d + 1 := ⟨_, rfl⟩
            have he1j : e1 ≤ j := by omega
            have HVB : Hid (validLp (segL rs i j) d = (validLp (segL rs t1 e1) d1 && validLp (segL rs e1 j) d)) := Lib.hid (by
              rw [HVL.out, hin, decide_eq_true (by omega), hB, Int.toNat_natCast, segL_take (by omega), segL_drop, he1, hd1']; rfl)
            have HREC := Lib.hid (fun w' z => IH.out t t1 e1 d1 w' hit ht1 (by omega) he1j (by omega) z)
            have w3 : IntKind.i64.wrap ((t : Int) + 1) = (t1 : Int) := by rw [show ((t : Int) + 1) = (t1 : Int) by omega]; exact IntWalk.i64_in _ (by omega)
            have w4 : IntKind.i64.wrap ((t1 : Int) + r.c) = (e1 : Int) := by rw [show ((t1 : Int) + r.c) = (e1 : Int) by omega]; exact IntWalk.i64_in _ (by omega)
            have w5 : IntKind.i64.wrap ((d : Int) + 1) = (d1 : Int) := by rw [show ((d : Int) + 1) = (d1 : Int) by omega]; exact IntWalk.i64_in _ (by omega)
            have w6 : IntKind.i64.wrap ((t : Int) + r.c) = (e0 : Int) := by rw [show ((t : Int) + r.c) = (e0 : Int) by omega]; exact IntWalk.i64_in _ (by omega)
            have he01 : e0 + 1 = e1 ∧ t < e1 ∧ e0 < 1048576 := by omega
            clear hin hc hB he1 he0 hd1' ht1
            go_wp2_with (first | (go_at_call 88; refine (HIL.out _ b1).mono ?_; rintro e w' ⟨rfl, rfl⟩) | (go_at_call 61; refine (l00In_is HIN.out _).mono ?_; rintro e w' ⟨rfl, rfl⟩))
            refine (HREC.out _ y1).mono ?_
            rintro e W2 ⟨rfl, z2⟩
            have y2 := y1.trans (z2.mono y1.size)
            have b2 := b1.below' z2
            clear x0 x1 x2 HREC IH
            have x0 : W2.cell? ⟨wr.heap.size, 0, none⟩ = some (.int .i64 r.a) := b2.cell 0
            have x1 : W2.cell? ⟨wr.heap.size, 1, none⟩ = some (.int .i64 r.b) := b2.cell 1
            have x2 : W2.cell? ⟨wr.heap.size, 2, none⟩ = some (.int .i64 r.c) := b2.cell 2
            cases hb : validLp (segL rs t1 e1) d1 with
            | false =>
              have HF : Hid (validLp (segL rs i j) d = false) := Lib.hid (by rw [HVB.out, hb]; rfl)
              clear hb
              go_wp2_with fail
              go_ret
              exact ⟨ret_bool HF.out.symm, y2⟩
            | true =>
              have HF : Hid (validLp (segL rs i j) d = validLp (segL rs e1 j) d) := Lib.hid (by rw [HVB.out, hb]; rfl)
              clear hb
              go_wp2_with fail
              exact ⟨⟨e1, by omega, by omega, by go_num, HF, y2⟩, by simp [intOf]; omega⟩
        · have HNL := Lib.hid (bool_false (isLoopB_iff r) hf)
          have HIL := Lib.hid (fun w' h => l17IsLoop_any wr.heap.size r w' h)
          rw [HNL.out] at HIL
          have HVF : Hid (validLp (segL rs i j) d = (flatB r && validLp (segL rs t1 j) d)) := Lib.hid (by rw [HV.out, HSC.out, validLp_flat HNL.out, HVV.out, ht1]; rfl)
          by_cases h2 : r.a = 2
          · have hd0 : (r.a == 2) = true := by simpa using h2
            have hd1 : ¬ r.a < 2 := by omega
            cases hc : inB r.c 0 15 with
            | false =>
              have HF : Hid (validLp (segL rs i j) d = false) := Lib.hid (by
                have : flatB r = false := bool_false (flatB_iff r) (fun h => by
                  rw [← Bool.not_eq_true, inB_iff] at hc
                  omega)
                rw [HVF.out, this]; rfl)
              have HCC := Lib.hid hc
              clear hc h2 hf ht1
              go_wp2_with (go_at_call 87; refine (l17Var_is HCC.out _).mono ?_; rintro e w' ⟨rfl, rfl⟩)
              go_ret
              exact ⟨ret_bool HF.out.symm, y1⟩
            | true =>
              have HF : Hid (validLp (segL rs i j) d = validLp (segL rs t1 j) d) := Lib.hid (by
                have : flatB r = true := (flatB_iff r).2 (.inl ⟨h2, (inB_iff _ _ _).1 hc⟩)
                rw [HVF.out, this]; rfl)
              have HCC := Lib.hid hc
              have ht2 : t + 1 = t1 := ht1.symm
              clear hc h2 hf ht1
              go_wp2_with (first | (go_at_call 87; refine (l17Var_is HCC.out _).mono ?_; rintro e w' ⟨rfl, rfl⟩) | (go_at_call 88; refine (HIL.out _ b1).mono ?_; rintro e w' ⟨rfl, rfl⟩))
              exact ⟨⟨t1, by omega, by omega, by go_num, HF, y1⟩, by simp [intOf]; omega⟩
          · have hd0 : (r.a == 2) = false := by simpa using h2
            have hd1 : r.a < 2 := by omega
            by_cases h0 : r.c = 0
            · have hd3 : (r.c != 0) = false := by simpa using h0
              have HF : Hid (validLp (segL rs i j) d = validLp (segL rs t1 j) d) := Lib.hid (by
                have : flatB r = true := (flatB_iff r).2 (.inr ⟨by omega, h0⟩)
                rw [HVF.out, this]; rfl)
              have ht2 : t + 1 = t1 := ht1.symm
              clear h0 h2 hf ht1
              go_wp2_with (go_at_call 88; refine (HIL.out _ b1).mono ?_; rintro e w' ⟨rfl, rfl⟩)
              exact ⟨⟨t1, by omega, by omega, by go_num, HF, y1⟩, by simp [intOf]; omega⟩
            · have hd3 : (r.c != 0) = true := by simpa using h0
              have HF : Hid (validLp (segL rs i j) d = false) := Lib.hid (by
                have : flatB r = false := bool_false (flatB_iff r) (by omega)
                rw [HVF.out, this]; rfl)
              clear h0 h2 hf ht1
              go_wp2_with fail
              go_ret
              exact ⟨ret_bool HF.out.symm, y1⟩
theorem l17Is_any (A : Option Addr) (n c : Nat) (rs : List R3) (w : World) (hx : S3 w A n rs) (hn : n ≤ 1048576) :
    Calls Tryd.prog 30 #[.slice A n c] w fun e w' => e = .returned (.bool (decide (rs.length ≤ 150) && validLp rs 0)) ∧ Below w.heap.size w w' := by
  have hl := hx.len
  have HP := l17Part_any n A n c rs 0 n 0 w hx hn (Nat.zero_le _) (Nat.le_refl _) (by omega) (by omega)
  have hseg : segL rs 0 n = rs := by rw [← hl]; exact segL_all rs
  rw [hseg] at HP
  have HPP := Lib.hid HP
  rw [hl]
  clear HP hseg
  by_cases h : n ≤ 150
  · have h1 : (n : Int) ≤ 150 := by omega
    have hd : decide (n ≤ 150) = true := decide_eq_true h
    go_enter Tryd.func30, Tryd.ntmps30
    go_wp2_with fail
    refine HPP.out.mono ?_
    rintro e w' ⟨rfl, z⟩
    go_wp2_with fail
    go_ret
    exact ⟨ret_bool (by rw [hd]; rfl), z⟩
  · have h1 : ¬ (n : Int) ≤ 150 := by omega
    have hd : decide (n ≤ 150) = false := decide_eq_false h
    go_enter Tryd.func30, Tryd.ntmps30
    go_wp2_with fail
    go_ret
    exact ⟨ret_bool (by first | rfl | (rw [hd]; rfl)), Below.refl _ _⟩
end Go.Proofs.YtacajmgokdgbgaaDoor

/-
  Slices of records whose cells hold numbers and slices: a spine and its rows. No program is in sight.
-/
namespace Go.Proofs.YtacajmgokdgbgaaDoor
open Go.RowKit

/-! ### lists of cells, element by element -/
section
variable {α : Type} {f : α → List Value} {s : Nat}
theorem flat_len (hf : ∀ a, (f a).length = s) (ts : List α) : (ts.flatMap f).length = ts.length * s := by
  induction ts with
  | nil => simp
  | cons t r ih => rw [List.flatMap_cons, List.length_append, hf, ih, List.length_cons, Nat.succ_mul]; omega
theorem flat_get (hf : ∀ a, (f a).length = s) : ∀ {ts : List α} {k : Nat} {t : α} {j : Nat}, ts[k]? = some t → j < s → (ts.flatMap f)[k * s + j]? = (f t)[j]?
  | [], k, t, j, h, _ => by simp at h
  | u :: r, 0, t, j, h, hj => by
    simp at h; subst h
    rw [List.flatMap_cons, Nat.zero_mul, Nat.zero_add, List.getElem?_append_left (by rw [hf]; exact hj)]
  | u :: r, k + 1, t, j, h, hj => by
    have ih := flat_get hf (ts := r) (k := k) (t := t) (j := j) (by simpa using h) hj
    rw [List.flatMap_cons, List.getElem?_append_right (by rw [hf, Nat.succ_mul]; omega), hf, show (k + 1) * s + j - s = k * s + j from by rw [Nat.succ_mul]; omega]
    exact ih
theorem flat_snoc (ts : List α) (t : α) : (ts ++ [t]).flatMap f = ts.flatMap f ++ f t := by simp
theorem flat_set (hf : ∀ a, (f a).length = s) : ∀ {ts : List α} {k j : Nat} {t u : α} {v : Value}, ts[k]? = some t → j < s → (f t).set j v = f u → (ts.flatMap f).set (k * s + j) v = (ts.set k u).flatMap f
  | [], k, j, t, u, v, h, _, _ => by simp at h
  | x :: r, 0, j, t, u, v, h, hj, he => by
    simp at h; subst h
    rw [List.flatMap_cons, Nat.zero_mul, Nat.zero_add, List.set_append_left _ _ (by rw [hf]; exact hj), he]; rfl
  | x :: r, k + 1, j, t, u, v, h, hj, he => by
    have ih := flat_set hf (ts := r) (k := k) (j := j) (t := t) (u := u) (v := v) (by simpa using h) hj he
    rw [List.flatMap_cons, List.set_append_right _ _ (by rw [hf, Nat.succ_mul]; omega), hf, show (k + 1) * s + j - s = k * s + j from by rw [Nat.succ_mul]; omega, ih]
    rfl
end

/-! ### rows of any kind -/
structure Rw where
  A : Option Addr
  n : Nat
  c : Nat
  e : TypeId
  s : Nat
  cs : List Value
def Rw.val (r : Rw) : Value := .slice r.A r.n r.c
def Rw.own (r : Rw) (w : World) (lo : Nat) : Prop := Own w lo r.e r.s r.A r.n r.c r.cs
def AptR (t u : Rw) : Prop := ∀ b, blk t.A = some b → blk u.A ≠ some b
/-- A row of numbers. -/
def Rw.i (e : TypeId) (A : Option Addr) (c : Nat) (xs : List Int) : Rw := ⟨A, xs.length, c, e, 1, ints xs⟩

/-- An owned spine, cells of s to an element, and its rows, all apart. -/
structure Recs (w : World) (lo : Nat) (e : TypeId) (s : Nat) (A : Option Addr) (n c : Nat) (cs : List Value) (rows : List Rw) : Prop where
  spine : Own w lo e s A n c cs
  each : ∀ r ∈ rows, r.own w lo
  apt : rows.Pairwise AptR
  types : ∀ r ∈ rows, r.e ≠ e
section
variable {w w' w2 : World} {lo lo' n c s : Nat} {e : TypeId} {A : Option Addr} {cs : List Value} {rows : List Rw}
theorem Rw.own.below {r : Rw} (h : r.own w lo) (z : Below w.heap.size w w') : r.own w' lo := Own.below h z
theorem Rw.own.mono {r : Rw} (h : r.own w lo) (hl : lo' ≤ lo) : r.own w lo' := Own.mono h hl
theorem Recs.nil (h : Own w lo e s A 0 c []) : Recs w lo e s A 0 c [] [] := ⟨h, by simp, List.Pairwise.nil, by simp⟩
theorem Recs.below (h : Recs w lo e s A n c cs rows) (z : Below w.heap.size w w') : Recs w' lo e s A n c cs rows := ⟨h.spine.below z, fun r hr => (h.each r hr).below z, h.apt, h.types⟩
theorem Recs.mono (h : Recs w lo e s A n c cs rows) (hl : lo' ≤ lo) : Recs w lo' e s A n c cs rows := ⟨h.spine.mono hl, fun r hr => (h.each r hr).mono hl, h.apt, h.types⟩
theorem Recs.drewN (h : Recs w lo e s A n c cs rows) (k : Nat) : Recs (w.drewN k) lo e s A n c cs rows := ⟨h.spine.drewN k, fun r hr => Own.drewN (h.each r hr) k, h.apt, h.types⟩
theorem Recs.alloc (h : Recs w lo e s A n c cs rows) (o : Obj) : Recs (w.alloc o) lo e s A n c cs rows := ⟨h.spine.alloc o, fun r hr => (Own.alloc (h.each r hr) o), h.apt, h.types⟩
/-- A row's block is not the spine's. -/
theorem Recs.row_ne (h : Recs w lo e s A n c cs rows) : ∀ r ∈ rows, ∀ b, blk A = some b → blk r.A ≠ some b := fun r hr b hb hb' => Own.blk_ne h.spine (h.each r hr) (fun he => h.types r hr he.symm) b hb hb'
theorem Recs.kept (h : Recs w lo e s A n c cs rows) (hA : ∀ b, blk A = some b → w'.heap[b]? = w.heap[b]?) (hR : ∀ r ∈ rows, ∀ b, blk r.A = some b → w'.heap[b]? = w.heap[b]?) : Recs w' lo e s A n c cs rows :=
  ⟨h.spine.kept (fun b hb _ _ => hA b hb), fun r hr => Own.kept (h.each r hr) (fun b hb _ _ => hR r hr b hb), h.apt, h.types⟩
theorem Recs.set_far (h : Recs w lo e s A n c cs rows) {g i : Nat} (hg : g < lo) (u : Value) : Recs (w.setCell ⟨g, i, none⟩ u) lo e s A n c cs rows :=
  ⟨h.spine.far (p := ⟨g, i, none⟩) (fun e => by have h1 : lo ≤ g := h.spine.blk_ge _ e; omega) u, fun r hr => Own.far (h.each r hr) (p := ⟨g, i, none⟩) (fun e => by have h1 : lo ≤ g := Own.blk_ge (h.each r hr) _ e; omega) u, h.apt, h.types⟩
/-- One record more: the spine has grown, the new rows are apart from the old ones. -/
theorem Recs.append {A2 : Option Addr} {n2 c2 : Nat} {news : List Value} {more : List Rw} (h : Recs w lo e s A n c cs rows) (hs : Own w2 lo e s A2 n2 c2 (cs ++ news)) (hg : w.grownBy w2 (blk A)) (hm : ∀ r ∈ more, r.own w lo) (ha : more.Pairwise AptR) (ht : ∀ r ∈ more, r.e ≠ e)
    (hx : ∀ r ∈ rows, ∀ m ∈ more, AptR r m) : Recs w2 lo e s A2 n2 c2 (cs ++ news) (rows ++ more) := by
  have far : ∀ r : Rw, r.own w lo → r.e ≠ e → r.own w2 lo := fun r hr hne =>
    Own.grown hr hg (fun g hgA hb => Own.blk_ne h.spine hr (fun he => hne he.symm) g hgA hb)
  refine ⟨hs, fun r hr => ?_, ?_, fun r hr => ?_⟩
  · rcases List.mem_append.1 hr with h1 | h1
    · exact far r (h.each r h1) (h.types r h1)
    · exact far r (hm r h1) (ht r h1)
  · rw [List.pairwise_append]; exact ⟨h.apt, ha, hx⟩
  · rcases List.mem_append.1 hr with h1 | h1
    · exact h.types r h1
    · exact ht r h1
/-- New rows that lie from k on, old ones below it. -/
theorem Recs.apart {more : List Rw} {k : Nat} (h : Recs w lo e s A n c cs rows) (hk : w.heap.size ≤ k) (hm : ∀ r ∈ more, ∀ b, blk r.A = some b → k ≤ b) : ∀ r ∈ rows, ∀ m ∈ more, AptR r m := fun r hr m hm' b hb hb' => by
  have h1 := Own.blk_lt (h.each r hr) b hb
  have h2 := hm m hm' b hb'
  omega
theorem Recs.fr {X : Nat → Prop} (h : Recs w lo e s A n c cs rows) (hf : ∀ b, X b → w'.heap[b]? = w.heap[b]?) (hA : ∀ b, blk A = some b → X b) (hR : ∀ r ∈ rows, ∀ b, blk r.A = some b → X b) : Recs w' lo e s A n c cs rows :=
  h.kept (fun b hb => hf b (hA b hb)) (fun r hr b hb => hf b (hR r hr b hb))
theorem Blk.apt {w : World} {g : Nat} {t e : TypeId} {cur : Array Value} {lo n c s : Nat} {A : Option Addr} {cs : List Value} (h : Blk w g t cur) (h' : Own w lo e s A n c cs) (hne : t ≠ e) : blk A ≠ some g := by
  intro hb
  rcases h'.2 with ⟨rfl, _⟩ | ⟨b, off, cur2, rfl, _, hg, _⟩
  · simp [blk] at hb
  · simp [blk] at hb; subst hb
    unfold Blk at h
    rw [hg] at h
    simp at h
    exact hne h.2.symm
theorem Blk.grown {w w2 : World} {g : Nat} {t e : TypeId} {cur : Array Value} {lo n c s : Nat} {A : Option Addr} {cs : List Value} (h : Blk w g t cur) (h' : Own w lo e s A n c cs) (hg : w.grownBy w2 (blk A)) (hne : t ≠ e) : Blk w2 g t cur :=
  (hg.block g (Array.getElem?_eq_some_iff.1 h).1 (fun e => h.apt h' hne e.symm)).trans h
theorem Own.grown_apt {w w2 : World} {lo lo' n n' c c' s s' : Nat} {e e' : TypeId} {A A' : Option Addr} {cs cs' : List Value} (h : Own w lo' e' s' A' n' c' cs') (h0 : Own w lo e s A n c cs) (hg : w.grownBy w2 (blk A)) (hne : e' ≠ e) : Own w2 lo' e' s' A' n' c' cs' :=
  h.grown hg (fun g hg' hb => Own.blk_ne h0 h (fun he => hne he.symm) g hg' hb)
theorem Recs.set_blk {g i : Nat} {t : TypeId} {cur : Array Value} (h : Recs w lo e s A n c cs rows) (hb : Blk w g t cur) (ht : t ≠ e) (hr : ∀ r ∈ rows, t ≠ r.e) (u : Value) : Recs (w.setCell ⟨g, i, none⟩ u) lo e s A n c cs rows :=
  ⟨h.spine.far (p := ⟨g, i, none⟩) (hb.apt h.spine ht) u, fun r hr' => Own.far (h.each r hr') (p := ⟨g, i, none⟩) (hb.apt (h.each r hr') (hr r hr')) u, h.apt, h.types⟩
/-- The blocks of a slice of records. -/
def RecsB (A : Option Addr) (rows : List Rw) (b : Nat) : Prop := blk A = some b ∨ ∃ r ∈ rows, blk r.A = some b
theorem Recs.blk_ge (h : Recs w lo e s A n c cs rows) : ∀ b, RecsB A rows b → lo ≤ b ∧ b < w.heap.size := by
  rintro b (hb | ⟨r, hr, hb⟩)
  · exact ⟨h.spine.blk_ge b hb, h.spine.blk_lt b hb⟩
  · exact ⟨Own.blk_ge (h.each r hr) b hb, Own.blk_lt (h.each r hr) b hb⟩
theorem Recs.keptB (h : Recs w lo e s A n c cs rows) (hk : ∀ b, RecsB A rows b → w'.heap[b]? = w.heap[b]?) : Recs w' lo e s A n c cs rows :=
  h.kept (fun b hb => hk b (.inl hb)) (fun r hr b hb => hk b (.inr ⟨r, hr, hb⟩))
end
end Go.Proofs.YtacajmgokdgbgaaDoor

/-
  Contracts of the reference's loop run: step and simple.
-/
namespace Go.Proofs.YtacajmgokdgbgaaDoor
open Go.RowKit

/-- The reference's run in block g; w0 is the world of the call. -/
structure LpS (w0 : World) (g : Nat) (L : Value) (A : Option Addr) (c : Nat) (vs : List Int) (bud st code : Int) (W : World) : Prop where
  box : Blk W g 62 #[L, .slice A 16 c, .int .i64 bud, .int .i64 st, .int .i64 code]
  vars : Own W w0.heap.size 2 1 A 16 c (ints vs)
  low : Below w0.heap.size w0 W
  log : w0.heap.size ≤ g
/-- Behind an error. -/
def LpE (w0 : World) (g : Nat) (L : Value) (bud code : Int) (W : World) : Prop :=
  ∃ V st, Blk W g 62 #[L, V, .int .i64 bud, .int .i64 st, .int .i64 code] ∧ Below w0.heap.size w0 W ∧ w0.heap.size ≤ g
/-- The boxes of commands stay. -/
def KL (W W' : World) : Prop := ∀ x cs, Blk W x 64 cs → Blk W' x 64 cs
theorem KL.refl (W : World) : KL W W := fun _ _ h => h
theorem KL.trans {W W1 W2 : World} (h : KL W W1) (k : KL W1 W2) : KL W W2 := fun x cs b => k x cs (h x cs b)
theorem KL.of_below {W W' : World} (z : Below W.heap.size W W') : KL W W' := fun _ _ b => b.below' z
theorem KL.put {W : World} {p : Addr} (h : ∀ cs, ¬ Blk W p.block 64 cs) (u : Value) : KL W (W.setCell p u) := fun x cs b => b.far (fun e => h cs (e ▸ b)) u
section
variable {w0 W W' : World} {g : Nat} {L : Value} {A : Option Addr} {c : Nat} {vs : List Int} {bud st code : Int}
theorem LpS.below (h : LpS w0 g L A c vs bud st code W) (z : Below W.heap.size W W') : LpS w0 g L A c vs bud st code W' :=
  ⟨h.box.below' z, h.vars.below z, h.low.trans (z.mono h.low.size), h.log⟩
theorem LpS.err (h : LpS w0 g L A c vs bud st code W) : LpE w0 g L bud code W := ⟨_, _, h.box, h.low, h.log⟩
theorem LpS.apart (h : LpS w0 g L A c vs bud st code W) : blk A ≠ some g := h.box.apt h.vars (by decide)
theorem LpS.len (h : LpS w0 g L A c vs bud st code W) : vs.length = 16 := by have := h.vars.len; rw [length_ints] at this; omega
theorem LpS.setSt (h : LpS w0 g L A c vs bud st code W) (st' : Int) : LpS w0 g L A c vs bud st' code (W.setCell ⟨g, 3, none⟩ (.int .i64 st')) :=
  ⟨h.box.set_ 3 _, h.vars.far (p := ⟨g, 3, none⟩) h.apart _, h.low.setCell (p := ⟨g, 3, none⟩) h.log _, h.log⟩
theorem LpS.setCode (h : LpS w0 g L A c vs bud st code W) (k : Int) : LpS w0 g L A c vs bud st k (W.setCell ⟨g, 4, none⟩ (.int .i64 k)) :=
  ⟨h.box.set_ 4 _, h.vars.far (p := ⟨g, 4, none⟩) h.apart _, h.low.setCell (p := ⟨g, 4, none⟩) h.log _, h.log⟩
theorem LpS.kl (h : LpS w0 g L A c vs bud st code W) (i : Nat) (u : Value) : KL W (W.setCell ⟨g, i, none⟩ u) :=
  KL.put (fun cs b => by have := Eq.trans (Eq.symm b) h.box; simp at this) u
theorem LpS.kept (h : LpS w0 g L A c vs bud st code W) (k : KL W W') {x : Nat} {cs : Array Value} (b : Blk W x 64 cs) : Blk W' x 64 cs := k x cs b
/-- A variable. -/
theorem LpS.at_ (h : LpS w0 g L A c vs bud st code W) {k : Nat} (hk : k < 16) : ∃ b off, A = some ⟨b, off, none⟩ ∧ w0.heap.size ≤ b ∧ g ≠ b ∧ W.cell? ⟨b, off + k, none⟩ = some (.int .i64 (vs.getD k 0)) ∧ W.frozen? ⟨b, off + k, none⟩ = false := by
  have hl := h.len
  obtain ⟨b, off, rfl, hlo, _, hc, hf⟩ := h.vars.at_ (k := k) (by rw [length_ints]; omega)
  refine ⟨b, off, rfl, hlo, fun e => h.apart (by rw [e]; rfl), ?_, hf⟩
  rw [hc, ints_get, List.getD_eq_getElem?_getD, List.getElem?_eq_getElem (by omega)]; rfl
theorem LpS.put {b off : Nat} (h : LpS w0 g L (some ⟨b, off, none⟩) c vs bud st code W) {k : Nat} (hk : k < 16) (hlo : w0.heap.size ≤ b) (v : Int) :
    LpS w0 g L (some ⟨b, off, none⟩) c (vs.set k v) bud st code (W.setCell ⟨b, off + k, none⟩ (.int .i64 v)) ∧ KL W (W.setCell ⟨b, off + k, none⟩ (.int .i64 v)) := by
  have hl := h.len
  have hg : g ≠ b := fun e => h.apart (by rw [e]; rfl)
  have ho := h.vars.set_ (k := k) (by rw [length_ints]; omega) (.int .i64 v)
  rw [ints_set] at ho
  refine ⟨⟨h.box.far (p := ⟨b, off + k, none⟩) hg _, ho, h.low.setCell (p := ⟨b, off + k, none⟩) hlo _, h.log⟩, KL.put (fun cs k => ?_) _⟩
  exact k.apt h.vars (by decide) rfl
end
theorem l17Step_ok (w0 : World) (g : Nat) (L : Value) (A : Option Addr) (c : Nat) (vs : List Int) (bud st : Int) (W : World) (h : LpS w0 g L A c vs bud st 0 W) (hs : st < bud) (hs0 : 0 ≤ st) (hb : bud ≤ 1000000) :
    Calls Tryd.prog 89 #[.pointer (some ⟨g, 0, none⟩)] W fun e W' => e = .returned (.bool true) ∧ LpS w0 g L A c vs bud (st + 1) 0 W' ∧ KL W W' := by
  have hd : (st == bud) = false := by simp; omega
  have w1 : IntKind.i64.wrap (st + 1) = st + 1 := IntWalk.i64_in _ (by omega)
  have x0 : W.cell? ⟨g, 0, none⟩ = some (L) := h.box.cell 0
  have x1 : W.cell? ⟨g, 1, none⟩ = some (.slice A 16 c) := h.box.cell 1
  have x2 : W.cell? ⟨g, 2, none⟩ = some (.int .i64 bud) := h.box.cell 2
  have x3 : W.cell? ⟨g, 3, none⟩ = some (.int .i64 st) := h.box.cell 3
  have x4 : W.cell? ⟨g, 4, none⟩ = some (.int .i64 0) := h.box.cell 4
  have f3 := h.box.frozen 3
  have HE := Lib.hid (⟨h.setSt (st + 1), h.kl 3 (.int .i64 (st + 1))⟩ : _ ∧ _)
  clear h
  go_enter Tryd.func89, Tryd.ntmps89
  go_upto_region 1 with fail
  go_quiet (fail)
  go_wp2_with fail
  go_ret
  exact ⟨rfl, HE.out.1.below (below_drewN (Below.refl _ _) _), HE.out.2.trans (KL.of_below (below_drewN (Below.refl _ _) _))⟩
theorem l17Step_full (w0 : World) (g : Nat) (L : Value) (A : Option Addr) (c : Nat) (vs : List Int) (bud st : Int) (W : World) (h : LpS w0 g L A c vs bud st 0 W) (hs : st = bud) :
    Calls Tryd.prog 89 #[.pointer (some ⟨g, 0, none⟩)] W fun e W' => e = .returned (.bool false) ∧ LpE w0 g L bud 5 W' ∧ KL W W' := by
  have hd : (st == bud) = true := by simpa using hs
  have x0 : W.cell? ⟨g, 0, none⟩ = some (L) := h.box.cell 0
  have x1 : W.cell? ⟨g, 1, none⟩ = some (.slice A 16 c) := h.box.cell 1
  have x2 : W.cell? ⟨g, 2, none⟩ = some (.int .i64 bud) := h.box.cell 2
  have x3 : W.cell? ⟨g, 3, none⟩ = some (.int .i64 st) := h.box.cell 3
  have x4 : W.cell? ⟨g, 4, none⟩ = some (.int .i64 0) := h.box.cell 4
  have f4 := h.box.frozen 4
  have HE := Lib.hid (⟨h.setCode 5, h.kl 4 (.int .i64 5)⟩ : _ ∧ _)
  clear h hs
  go_enter Tryd.func89, Tryd.ntmps89
  go_upto_region 1 with fail
  go_quiet (fail)
  go_wp2_with fail
  go_ret
  exact ⟨rfl, (HE.out.1.below (below_drewN (Below.refl _ _) _)).err, HE.out.2.trans (KL.of_below (below_drewN (Below.refl _ _) _))⟩
theorem l17Step_err (w0 : World) (g : Nat) (L : Value) (bud k : Int) (W : World) (h : LpE w0 g L bud k W) (hk : k = 5 ∨ k = 6) :
    Calls Tryd.prog 89 #[.pointer (some ⟨g, 0, none⟩)] W fun e W' => e = .returned (.bool false) ∧ LpE w0 g L bud k W' ∧ KL W W' := by
  obtain ⟨V, st, hB, hlow, hlog⟩ := h
  have HE : Hid (∀ nq, LpE w0 g L bud k (W.drewN nq) ∧ KL W (W.drewN nq)) := Lib.hid (fun nq => ⟨⟨V, st, hB.drewN nq, hlow.trans ((below_drewN (Below.refl _ _) nq).mono hlow.size), hlog⟩, KL.of_below (below_drewN (Below.refl _ _) nq)⟩)
  have hd : (k == 0) = false := by simp; omega
  have hd2 : (k != 0) = true := by simp; omega
  have x0 : W.cell? ⟨g, 0, none⟩ = some (L) := hB.cell 0
  have x1 : W.cell? ⟨g, 1, none⟩ = some (V) := hB.cell 1
  have x2 : W.cell? ⟨g, 2, none⟩ = some (.int .i64 bud) := hB.cell 2
  have x3 : W.cell? ⟨g, 3, none⟩ = some (.int .i64 st) := hB.cell 3
  have x4 : W.cell? ⟨g, 4, none⟩ = some (.int .i64 k) := hB.cell 4
  clear hB hlow
  go_enter Tryd.func89, Tryd.ntmps89
  go_upto_region 1 with fail
  go_quiet (fail)
  go_wp2_with fail
  go_ret
  exact ⟨rfl, HE.out _⟩
/-- What a run of some commands leaves. -/
def LpQ (w0 : World) (g : Nat) (L : Value) (A : Option Addr) (c : Nat) (bud : Nat) (x : Except Int Ls) (W : World) : Prop :=
  match x with
  | .ok s => s.left ≤ bud ∧ (∀ v ∈ s.vs, 0 ≤ v ∧ v ≤ 1000000) ∧ LpS w0 g L A c s.vs bud ((bud : Int) - s.left) 0 W
  | .error k => (k = 5 ∨ k = 6) ∧ LpE w0 g L bud k W
theorem LpQ.below {w0 W W' : World} {g : Nat} {L : Value} {A : Option Addr} {c bud : Nat} {x : Except Int Ls} (h : LpQ w0 g L A c bud x W) (z : Below W.heap.size W W') : LpQ w0 g L A c bud x W' := by
  cases x with
  | ok s => exact ⟨h.1, h.2.1, h.2.2.below z⟩
  | error k =>
    obtain ⟨hk, V, st, hB, hlow, hlog⟩ := h
    exact ⟨hk, V, st, hB.below' z, hlow.trans (z.mono hlow.size), hlog⟩
theorem l17Step_any (w0 : World) (g : Nat) (L : Value) (A : Option Addr) (c bud : Nat) (s : Ls) (W : World) (h : LpQ w0 g L A c bud (.ok s) W) (hb : bud ≤ 1000000) :
    Calls Tryd.prog 89 #[.pointer (some ⟨g, 0, none⟩)] W fun e W' => (∃ b, e = .returned (.bool b) ∧ b = (match stepLs s with | .ok _ => true | .error _ => false)) ∧ LpQ w0 g L A c bud (stepLs s) W' ∧ KL W W' := by
  obtain ⟨h1, h2, h3⟩ := h
  unfold stepLs
  by_cases h0 : s.left = 0
  · rw [if_pos h0]
    refine (l17Step_full w0 g L A c s.vs bud _ W h3 (by omega)).mono ?_
    rintro e W' ⟨rfl, he, hk⟩
    exact ⟨⟨_, rfl, rfl⟩, ⟨.inl rfl, he⟩, hk⟩
  · rw [if_neg h0]
    refine (l17Step_ok w0 g L A c s.vs bud _ W h3 (by omega) (by omega) (by omega)).mono ?_
    rintro e W' ⟨rfl, he, hk⟩
    rw [show (bud : Int) - (s.left : Int) + 1 = (bud : Int) - ((s.left - 1 : Nat) : Int) by omega] at he
    exact ⟨⟨_, rfl, rfl⟩, ⟨by dsimp only; omega, h2, he⟩, hk⟩
theorem mem_setL {vs : List Int} {k : Nat} {v : Int} (h : ∀ u ∈ vs, 0 ≤ u ∧ u ≤ 1000000) (hv : 0 ≤ v ∧ v ≤ 1000000) : ∀ u ∈ vs.set k v, 0 ≤ u ∧ u ≤ 1000000 := fun u hu => by
  rcases List.mem_or_eq_of_mem_set hu with h1 | rfl
  · exact h u h1
  · exact hv
theorem getD_ok {vs : List Int} (h : ∀ u ∈ vs, 0 ≤ u ∧ u ≤ 1000000) (k : Nat) : 0 ≤ vs.getD k 0 ∧ vs.getD k 0 ≤ 1000000 := by
  rw [List.getD_eq_getElem?_getD]
  cases hk : vs[k]? with
  | none => exact ⟨by decide, by decide⟩
  | some v => exact h v (List.mem_of_getElem? hk)
set_option maxRecDepth 100000 in
set_option maxHeartbeats 8000000 in
theorem l17Simple_any (w0 : World) (g x : Nat) (L : Value) (A : Option Addr) (c bud : Nat) (s : Ls) (r : R3) (W : World) (h : LpQ w0 g L A c bud (.ok s) W) (hx : Blk W x 64 #[.int .i64 r.a, .int .i64 r.b, .int .i64 r.c])
    (hr0 : r.a = 0 ∨ r.a = 1 ∨ r.a = 2) (hr1 : 0 ≤ r.b ∧ r.b ≤ 15) (hr2 : r.a = 2 → 0 ≤ r.c ∧ r.c ≤ 15) :
    Calls Tryd.prog 90 #[.pointer (some ⟨g, 0, none⟩), .pointer (some ⟨x, 0, none⟩)] W fun e W' => (∃ u, e = .returned u) ∧ LpQ w0 g L A c bud (simpleLs r s) W' ∧ KL W W' := by
  obtain ⟨h1, h2, h3⟩ := h
  obtain ⟨k, hk⟩ : ∃ k : Nat, r.b = (k : Int) := ⟨r.b.toNat, by omega⟩
  obtain ⟨b, off, rfl, hlo, hgb, y0, z0⟩ := h3.at_ (k := k) (by omega)
  obtain ⟨v, hv⟩ : ∃ v, s.vs.getD k 0 = v := ⟨_, rfl⟩
  have hv2 := getD_ok h2 k
  rw [hv] at y0 hv2
  have x1 : W.cell? ⟨g, 1, none⟩ = some (.slice (some ⟨b, off, none⟩) 16 c) := h3.box.cell 1
  have x4 : W.cell? ⟨g, 4, none⟩ = some (.int .i64 0) := h3.box.cell 4
  have f4 := h3.box.frozen 4
  have k1 : (0 : Int) ≤ (k : Int) := by omega
  have k2 : (k : Int) < 16 := by omega
  have k3 : ((k : Int)).toNat = k := rfl
  have q0 : W.cell? ⟨x, 0, none⟩ = some (.int .i64 r.a) := hx.cell 0
  have q1 : W.cell? ⟨x, 1, none⟩ = some (.int .i64 r.b) := hx.cell 1
  have q2 : W.cell? ⟨x, 2, none⟩ = some (.int .i64 r.c) := hx.cell 2
  rw [hk] at q1
  rcases hr0 with ha | ha | ha
  · have HS : Hid (simpleLs r s = .ok ⟨s.vs.set k 0, s.left⟩) := Lib.hid (by unfold simpleLs; rw [if_pos ha, hk]; rfl)
    have HE := Lib.hid (h3.put (k := k) (by omega) hlo 0)
    have HM := Lib.hid (mem_setL (k := k) h2 (v := 0) (by decide))
    rw [ha] at q0
    clear h2 h3 hv hx ha hr2
    go_enter Tryd.func90, Tryd.ntmps90
    go_wp2_with fail
    go_region
    go_wp2_with fail
    rw [HS.out]
    exact bodyPost_end (results_none rfl _ _ _) rfl ⟨⟨_, rfl⟩, ⟨h1, HM.out, HE.out.1.below (below_drewN (Below.refl _ _) _)⟩, HE.out.2.trans (KL.of_below (below_drewN (Below.refl _ _) _))⟩
  · have w1 : IntKind.i64.wrap (v + 1) = v + 1 := IntWalk.i64_in _ (by omega)
    have HE := Lib.hid (h3.put (k := k) (by omega) hlo (v + 1))
    have hd2 : (r.a == 0) = false := by rw [ha]; rfl
    rw [ha] at q0
    clear hr2
    go_enter Tryd.func90, Tryd.ntmps90
    go_wp2_with fail
    go_region
    obtain ⟨W2, hW2⟩ : ∃ W2, W2 = (W.setCell ⟨b, off + k, none⟩ (.int .i64 (v + 1))).drew := ⟨_, rfl⟩
    have hS : LpS w0 g L (some ⟨b, off, none⟩) c (s.vs.set k (v + 1)) bud (bud - s.left) 0 W2 := by rw [hW2]; exact HE.out.1.below (below_drewN (Below.refl _ _) 1)
    have hK : KL W W2 := by rw [hW2]; exact HE.out.2.trans (KL.of_below (below_drewN (Below.refl _ _) 1))
    rw [← hW2]
    clear hW2 x1 x4 f4 y0 z0
    have hx2 := hK _ _ hx
    have x1 : W2.cell? ⟨g, 1, none⟩ = some (.slice (some ⟨b, off, none⟩) 16 c) := hS.box.cell 1
    have x4 : W2.cell? ⟨g, 4, none⟩ = some (.int .i64 0) := hS.box.cell 4
    have f4 := hS.box.frozen 4
    have y0 : W2.cell? ⟨b, off + k, none⟩ = some (.int .i64 (v + 1)) := by
      have hl := h3.len
      obtain ⟨b', off', he, _, _, y, _⟩ := hS.at_ (k := k) (by omega)
      simp only [Option.some.injEq, Addr.mk.injEq, and_true] at he
      obtain ⟨rfl, rfl⟩ := he
      rw [y, List.getD_eq_getElem?_getD, List.getElem?_set_self (by omega)]; rfl
    have HX5 := Lib.hid (⟨hS.setCode 6, hS.kl 4 (.int .i64 6)⟩ : _ ∧ _)
    clear q0 q1 q2
    have q0 : W2.cell? ⟨x, 0, none⟩ = some (.int .i64 r.a) := hx2.cell 0
    have q1 : W2.cell? ⟨x, 1, none⟩ = some (.int .i64 r.b) := hx2.cell 1
    have q2 : W2.cell? ⟨x, 2, none⟩ = some (.int .i64 r.c) := hx2.cell 2
    rw [hk] at q1
    by_cases hv6 : v = 1000000
    · have HS : Hid (simpleLs r s = .error 6) := Lib.hid (by unfold simpleLs; rw [if_neg (by omega), if_pos ha, hk, Int.toNat_natCast, hv, if_pos hv6])
      have hd3 : v + 1 > 1000000 := by omega
      clear h2 h3 hv hx ha hv6
      go_wp2_with fail
      go_region
      go_wp2_with fail
      rw [HS.out]
      exact bodyPost_end (results_none rfl _ _ _) rfl ⟨⟨_, rfl⟩, ⟨.inr rfl, (HX5.out.1.below (below_drewN (Below.refl _ _) _)).err⟩, hK.trans (HX5.out.2.trans (KL.of_below (below_drewN (Below.refl _ _) _)))⟩
    · have HS : Hid (simpleLs r s = .ok ⟨s.vs.set k (v + 1), s.left⟩) := Lib.hid (by unfold simpleLs; rw [if_neg (by omega), if_pos ha, hk, Int.toNat_natCast, hv, if_neg hv6])
      have hd3 : ¬ v + 1 > 1000000 := by omega
      have HM := Lib.hid (mem_setL (k := k) h2 (v := v + 1) (by omega))
      clear h2 h3 hv hx ha hv6
      go_wp2_with fail
      go_region
      go_wp2_with fail
      rw [HS.out]
      exact bodyPost_end (results_none rfl _ _ _) rfl ⟨⟨_, rfl⟩, ⟨h1, HM.out, hS.below (below_drewN (Below.refl _ _) _)⟩, hK.trans (KL.of_below (below_drewN (Below.refl _ _) _))⟩
  · obtain ⟨m, hm⟩ : ∃ m : Nat, r.c = (m : Int) := ⟨r.c.toNat, by have := hr2 ha; omega⟩
    have hm2 : m < 16 := by have := hr2 ha; omega
    obtain ⟨b2, off2, he, _, _, y1, _⟩ := h3.at_ (k := m) hm2
    obtain ⟨rfl, rfl⟩ : b2 = b ∧ off2 = off := by simp only [Option.some.injEq, Addr.mk.injEq, and_true] at he; exact ⟨he.1.symm, he.2.symm⟩
    clear he
    obtain ⟨u, hu⟩ : ∃ u, s.vs.getD m 0 = u := ⟨_, rfl⟩
    have hu2 := getD_ok h2 m
    rw [hu] at y1 hu2
    have m1 : (0 : Int) ≤ (m : Int) := by omega
    have m2 : (m : Int) < 16 := by omega
    have m3 : ((m : Int)).toNat = m := rfl
    rw [hm] at q2
    have HS : Hid (simpleLs r s = .ok ⟨s.vs.set k u, s.left⟩) := Lib.hid (by unfold simpleLs; rw [if_neg (by omega), if_neg (by omega), hk, hm]; show Except.ok (Ls.mk (s.vs.set k (s.vs.getD m 0)) s.left) = _; rw [hu])
    have HE := Lib.hid (h3.put (k := k) (by omega) hlo u)
    have HM := Lib.hid (mem_setL (k := k) h2 hu2)
    rw [ha] at q0
    clear h2 h3 hv hx ha hr2 hu hm
    go_enter Tryd.func90, Tryd.ntmps90
    go_wp2_with fail
    go_region
    go_wp2_with fail
    rw [HS.out]
    exact bodyPost_end (results_none rfl _ _ _) rfl ⟨⟨_, rfl⟩, ⟨h1, HM.out, HE.out.1.below (below_drewN (Below.refl _ _) _)⟩, HE.out.2.trans (KL.of_below (below_drewN (Below.refl _ _) _))⟩
end Go.Proofs.YtacajmgokdgbgaaDoor

/-
  The reference's (*l17Run).do.
-/
namespace Go.Proofs.YtacajmgokdgbgaaDoor
open Go.RowKit

theorem stepLs_err {s : Ls} (h : s.left = 0) : stepLs s = .error 5 := by unfold stepLs; rw [if_pos h]
theorem stepLs_ok {s : Ls} (h : ¬ s.left = 0) : stepLs s = .ok ⟨s.vs, s.left - 1⟩ := by unfold stepLs; rw [if_neg h]
theorem runLp_nil (s : Ls) : runLp [] s = .ok s := by rw [runLp]
theorem runLp_cons (x : R3) (t : List R3) (s : Ls) : runLp (x :: t) s = (stepLs s).bind fun s =>
      if x.a = 3 then (timesLs (fun s => runLp (t.take x.c.toNat) s) (s.vs.getD x.b.toNat 0).toNat s).bind fun s => runLp (t.drop x.c.toNat) s
      else if x.a = 4 then (againLs (fun s => runLp (t.take x.c.toNat) s) x.b.toNat (s.left + 1) s).bind fun s => runLp (t.drop x.c.toNat) s
      else (simpleLs x s).bind fun s => runLp t s := by rw [runLp]
theorem timesLs_left (f : Ls → Except Int Ls) (hf : ∀ s s', f s = .ok s' → s'.left ≤ s.left) : ∀ (m : Nat) (s s' : Ls), timesLs f m s = .ok s' → s'.left ≤ s.left := by
  intro m
  induction m with
  | zero => intro s s' h; cases h; exact Nat.le_refl _
  | succ m ih =>
    intro s s' h
    rw [timesLs] at h
    by_cases h0 : s.left = 0
    · rw [stepLs_err h0] at h; cases h
    · rw [stepLs_ok h0] at h
      cases h1 : f ⟨s.vs, s.left - 1⟩ with
      | error k => simp only [Except.bind, h1] at h; cases h
      | ok s1 =>
        simp only [Except.bind, h1] at h
        have h2 := hf _ _ h1
        have h3 := ih _ _ h
        dsimp only at h2
        omega
theorem againLs_left (f : Ls → Except Int Ls) (a : Nat) (hf : ∀ s s', f s = .ok s' → s'.left ≤ s.left) : ∀ (m : Nat) (s s' : Ls), againLs f a m s = .ok s' → s'.left ≤ s.left := by
  intro m
  induction m with
  | zero => intro s s' h; cases h
  | succ m ih =>
    intro s s' h
    rw [againLs] at h
    split at h
    · cases h; exact Nat.le_refl _
    · cases h1 : f s with
      | error k => rw [h1] at h; cases h
      | ok s1 =>
        rw [h1] at h
        have h2 := hf _ _ h1
        by_cases h0 : s1.left = 0
        · simp only [Except.bind, stepLs_err h0] at h; cases h
        · simp only [Except.bind, stepLs_ok h0] at h
          have h3 := ih _ _ h
          dsimp only at h3
          omega
theorem simpleLs_left {x : R3} {s s' : Ls} (h : simpleLs x s = .ok s') : s'.left ≤ s.left := by
  unfold simpleLs at h
  split at h
  · cases h; exact Nat.le_refl _
  · split at h
    · split at h
      · cases h
      · cases h; exact Nat.le_refl _
    · cases h; exact Nat.le_refl _
theorem runLp_left : ∀ (n : Nat) (l : List R3) (s s' : Ls), l.length ≤ n → runLp l s = .ok s' → s'.left ≤ s.left := by
  intro n
  induction n with
  | zero =>
    intro l s s' hl h
    obtain rfl : l = [] := List.length_eq_zero_iff.1 (by omega)
    rw [runLp_nil] at h; cases h; exact Nat.le_refl _
  | succ n ih =>
    intro l s s' hl h
    match l with
    | [] => rw [runLp_nil] at h; cases h; exact Nat.le_refl _
    | x :: t =>
      rw [runLp_cons] at h
      simp only [List.length_cons] at hl
      by_cases h0 : s.left = 0
      · rw [stepLs_err h0] at h; cases h
      · rw [stepLs_ok h0] at h
        simp only [Except.bind] at h
        have ht : (t.take x.c.toNat).length ≤ n := by rw [List.length_take]; omega
        have hd : (t.drop x.c.toNat).length ≤ n := by rw [List.length_drop]; omega
        split at h
        · cases h1 : timesLs (fun s => runLp (t.take x.c.toNat) s) (s.vs.getD x.b.toNat 0).toNat ⟨s.vs, s.left - 1⟩ with
          | error k => simp only [h1] at h; cases h
          | ok s1 =>
            simp only [h1] at h
            have h2 := timesLs_left _ (fun s s' h => ih _ s s' ht h) _ _ _ h1
            have h3 := ih _ _ _ hd h
            dsimp only at h2
            omega
        · split at h
          · cases h1 : againLs (fun s => runLp (t.take x.c.toNat) s) x.b.toNat (s.left - 1 + 1) ⟨s.vs, s.left - 1⟩ with
            | error k => simp only [h1] at h; cases h
            | ok s1 =>
              simp only [h1] at h
              have h2 := againLs_left _ _ (fun s s' h => ih _ s s' ht h) _ _ _ h1
              have h3 := ih _ _ _ hd h
              dsimp only at h2
              omega
          · cases h1 : simpleLs x ⟨s.vs, s.left - 1⟩ with
            | error k => simp only [h1] at h; cases h
            | ok s1 =>
              simp only [h1] at h
              have h2 := simpleLs_left h1
              have h3 := ih _ _ _ (by omega) h
              dsimp only at h2
              omega
/-- The steps that are left, for a loop's measure. -/
def lpM (g bud : Nat) (W : World) : Nat :=
  match W.cell? ⟨g, 4, none⟩, W.cell? ⟨g, 3, none⟩ with
  | some (.int _ k), some (.int _ v) => if k = 0 then ((bud : Int) - v).toNat + 1 else 0
  | _, _ => 0
theorem LpQ.m_ok {w0 W : World} {g : Nat} {L : Value} {A : Option Addr} {c bud : Nat} {s : Ls} (h : LpQ w0 g L A c bud (.ok s) W) : lpM g bud W = s.left + 1 := by
  have h4 : W.cell? ⟨g, 4, none⟩ = some (.int .i64 0) := h.2.2.box.cell 4
  have h3 : W.cell? ⟨g, 3, none⟩ = some (.int .i64 ((bud : Int) - s.left)) := h.2.2.box.cell 3
  have := h.1
  unfold lpM
  rw [h4, h3]
  dsimp only
  rw [if_pos rfl]; omega
theorem LpQ.m_err {w0 W : World} {g : Nat} {L : Value} {A : Option Addr} {c bud : Nat} {k : Int} (h : LpQ w0 g L A c bud (.error k) W) : lpM g bud W = 0 := by
  obtain ⟨hk, V, st, hB, _⟩ := h
  have h4 : W.cell? ⟨g, 4, none⟩ = some (.int .i64 k) := hB.cell 4
  have h3 : W.cell? ⟨g, 3, none⟩ = some (.int .i64 st) := hB.cell 3
  unfold lpM
  rw [h4, h3]
  dsimp only
  rw [if_neg (by omega)]
end Go.Proofs.YtacajmgokdgbgaaDoor

/-
  A region that draws its order: a first operation, a call that may write, then operations that only read.
-/
namespace Go.Proofs.YtacajmgokdgbgaaDoor

/-- The first two operations are forced; the others only read. -/
theorem wp_region_head2 {P : Program} {id : Nat} {o0 o1 : Oper} {l : List Oper} {Q : Exit → Act → World → Prop} {a : Act} {w : World} (hm : P.follows .mixedOrders = true) (hs : Region.noSelect (o0 :: o1 :: l).toArray = true)
    (r0 : Region.ready .any (o0 :: o1 :: l).toArray (Array.replicate (o0 :: o1 :: l).toArray.size false) = [0])
    (r1 : Region.ready .any (o0 :: o1 :: l).toArray ((Array.replicate (o0 :: o1 :: l).toArray.size false).setIfInBounds 0 true) = [1])
    (g0 : o0.guard = none) (g1 : o1.guard = none)
    (hB : Region.lexFrom .any (o0 :: o1 :: l).toArray l.length 2 (((Array.replicate (o0 :: o1 :: l).toArray.size false).setIfInBounds 0 true).setIfInBounds 1 true) = true)
    (h : ∀ K0 : Act → World → Prop, (∀ a' w', (∀ K1 : Act → World → Prop, (∀ a'' w'', wpQuiet P (o0 :: o1 :: l).toArray (fun w' => ∃ n, w' = w''.drewN n) (fun a' => ∀ w', (∃ n, w' = w''.drewN n) → Q .normal a' w') l a'' → K1 a'' w'') → o1.wp P a' w' K1 Q) → K0 a' w') → o0.wp P a w.drew K0 Q) : (Code.region id (o0 :: o1 :: l).toArray true).wp P Q a w := by
  refine wp_region_any hm ?_
  have e : (o0 :: o1 :: l).toArray.size = l.length + 1 + 1 := by simp
  have hw : ∀ (o : Oper) (v : _), o.guard = none → Region.wanted o v = true := by intro o v hg; unfold Region.wanted; rw [hg]
  have key : wpAny P .any (o0 :: o1 :: l).toArray Q (l.length + 1 + 1) (Array.replicate (o0 :: o1 :: l).toArray.size false) a w.drew := by
    refine ⟨fun h0 => absurd (r0 ▸ h0) (by simp), fun i hi => ?_⟩
    rw [r0] at hi
    obtain rfl : i = 0 := by simpa using hi
    unfold wpOp
    simp only [List.getElem?_toArray, List.getElem?_cons_zero, hw _ _ g0, if_true]
    refine .inl (h _ (fun a' w' h1 => ?_))
    refine ⟨fun h0 => absurd (r1 ▸ h0) (by simp), fun i hi => ?_⟩
    rw [r1] at hi
    obtain rfl : i = 1 := by simpa using hi
    unfold wpOp
    simp only [List.getElem?_toArray, List.getElem?_cons_succ, List.getElem?_cons_zero, hw _ _ g1, if_true]
    refine .inl (h1 _ (fun a'' w'' h2 => ?_))
    exact wpAny_of_quiet (C := fun w' => ∃ n, w' = w''.drewN n) (Q := fun a' => ∀ w', (∃ n, w' = w''.drewN n) → Q .normal a' w') (fun _ w' hw' h => h w' hw') _ _ _ _ ⟨0, rfl⟩ (wpAnyQ_lex hs l 2 _ _ (fun j => by rw [Nat.add_comm 2 j]; simp) hB h2)
  rw [← e] at key
  exact key
end Go.Proofs.YtacajmgokdgbgaaDoor

/-
  The program's loop run: its state, step, and the panics.
-/
namespace Go.Proofs.YtacajmgokdgbgaaDoor
open Go.RowKit

abbrev errV (a : Addr) : Value := .iface 224 (.pointer (some a))
/-- The two errors in w. -/
structure ErrsW (w : World) (a0 a1 : Addr) : Prop where
  v0 : w.cell? ⟨0, 0, none⟩ = some (errV a0)
  v1 : w.cell? ⟨1, 0, none⟩ = some (errV a1)
  ne : a1 ≠ a0
  b0 : ∃ c t, w.heap[a0.block]? = some (.cells c t (0, 0))
  b1 : ∃ c t, w.heap[a1.block]? = some (.cells c t (0, 0))
theorem ErrsW.below {w W : World} {a0 a1 : Addr} (h : ErrsW w a0 a1) (z : Below w.heap.size w W) : ErrsW W a0 a1 := by
  have hlt : ∀ {b : Nat} {v : Value}, w.cell? ⟨b, 0, none⟩ = some v → b < w.heap.size := fun {b v} e => by
    rcases Nat.lt_or_ge b w.heap.size with hb | hb
    · exact hb
    · rw [World.cell?, Array.getElem?_eq_none hb] at e; simp at e
  obtain ⟨c0, t0, h0⟩ := h.b0
  obtain ⟨c1, t1, h1⟩ := h.b1
  exact ⟨(z.cell (hlt h.v0)).trans h.v0, (z.cell (hlt h.v1)).trans h.v1, h.ne, ⟨c0, t0, (z.block _ (Array.getElem?_eq_some_iff.1 h0).1).trans h0⟩, ⟨c1, t1, (z.block _ (Array.getElem?_eq_some_iff.1 h1).1).trans h1⟩⟩
/-- The run in block g; w0 is the world of the call. -/
structure LpI (w0 : World) (g : Nat) (A : Option Addr) (c : Nat) (s : Ls) (W : World) : Prop where
  box : Blk W g 102 #[.slice A 16 c, .int .i64 (s.left : Int)]
  vars : Own W w0.heap.size 2 1 A 16 c (ints s.vs)
  low : Below w0.heap.size w0 W
  log : w0.heap.size ≤ g
  rng : ∀ v ∈ s.vs, 0 ≤ v ∧ v ≤ 1000000
  lef : s.left ≤ 1000000
/-- All other blocks stay. -/
structure KI (g : Nat) (A : Option Addr) (W W' : World) : Prop where
  size : W.heap.size ≤ W'.heap.size
  same : ∀ x, x < W.heap.size → x ≠ g → blk A ≠ some x → W'.heap[x]? = W.heap[x]?
  bel : ∀ (lo : Nat) (w0 : World), lo ≤ W.heap.size → lo ≤ g → (∀ b, blk A = some b → lo ≤ b) → Below lo w0 W → Below lo w0 W'
theorem KI.refl (g : Nat) (A : Option Addr) (W : World) : KI g A W W := ⟨Nat.le_refl _, fun _ _ _ _ => rfl, fun _ _ _ _ _ h => h⟩
theorem KI.trans {g : Nat} {A : Option Addr} {W W1 W2 : World} (h : KI g A W W1) (k : KI g A W1 W2) : KI g A W W2 :=
  ⟨Nat.le_trans h.size k.size, fun x hx h1 h2 => (k.same x (by have := h.size; omega) h1 h2).trans (h.same x hx h1 h2), fun lo w0 h1 h2 h3 h4 => k.bel lo w0 (Nat.le_trans h1 h.size) h2 h3 (h.bel lo w0 h1 h2 h3 h4)⟩
theorem KI.of_below {g : Nat} {A : Option Addr} {W W' : World} (z : Below W.heap.size W W') : KI g A W W' := ⟨z.size, fun x hx _ _ => z.block x hx, fun _ _ h1 _ _ h => h.trans (z.mono h1)⟩
theorem KI.keep {g : Nat} {A : Option Addr} {W W' : World} (h : KI g A W W') {x : Nat} {t : TypeId} {cs : Array Value} (b : Blk W x t cs) (h1 : x ≠ g) (h2 : blk A ≠ some x) : Blk W' x t cs := (h.same x b.lt h1 h2).trans b
theorem KI.put {g : Nat} {A : Option Addr} {W : World} {p : Addr} (h : p.block = g ∨ blk A = some p.block) (u : Value) : KI g A W (W.setCell p u) :=
  ⟨by simp [World.setCell], fun x _ h1 h2 => Below.heap_setCell W p u x (fun e => h.elim (fun h => h1 (e.trans h)) (fun h => h2 (by rw [h, e]))), fun lo w0 _ h2 h3 hz => hz.setCell (p := p) (h.elim (fun e => by rw [e]; exact h2) (fun e => h3 _ e)) u⟩
section
variable {w0 W W' : World} {g : Nat} {A : Option Addr} {c : Nat} {s : Ls}
theorem LpI.below (h : LpI w0 g A c s W) (z : Below W.heap.size W W') : LpI w0 g A c s W' := ⟨h.box.below' z, h.vars.below z, h.low.trans (z.mono h.low.size), h.log, h.rng, h.lef⟩
theorem LpI.apart (h : LpI w0 g A c s W) : blk A ≠ some g := h.box.apt h.vars (by decide)
theorem LpI.len (h : LpI w0 g A c s W) : s.vs.length = 16 := by have := h.vars.len; rw [length_ints] at this; omega
theorem LpI.setLeft (h : LpI w0 g A c s W) (l : Nat) (hl : l ≤ 1000000) : LpI w0 g A c ⟨s.vs, l⟩ (W.setCell ⟨g, 1, none⟩ (.int .i64 (l : Int))) ∧ KI g A W (W.setCell ⟨g, 1, none⟩ (.int .i64 (l : Int))) :=
  ⟨⟨h.box.set_ 1 _, h.vars.far (p := ⟨g, 1, none⟩) h.apart _, h.low.setCell (p := ⟨g, 1, none⟩) h.log _, h.log, h.rng, hl⟩, KI.put (p := ⟨g, 1, none⟩) (.inl rfl) _⟩
/-- A variable. -/
theorem LpI.at_ (h : LpI w0 g A c s W) {k : Nat} (hk : k < 16) : ∃ b off, A = some ⟨b, off, none⟩ ∧ w0.heap.size ≤ b ∧ g ≠ b ∧ W.cell? ⟨b, off + k, none⟩ = some (.int .i64 (s.vs.getD k 0)) ∧ W.frozen? ⟨b, off + k, none⟩ = false := by
  have hl := h.len
  obtain ⟨b, off, rfl, hlo, _, hc, hf⟩ := h.vars.at_ (k := k) (by rw [length_ints]; omega)
  refine ⟨b, off, rfl, hlo, fun e => h.apart (by rw [e]; rfl), ?_, hf⟩
  rw [hc, ints_get, List.getD_eq_getElem?_getD, List.getElem?_eq_getElem (by omega)]; rfl
theorem LpI.put {b off : Nat} (h : LpI w0 g (some ⟨b, off, none⟩) c s W) {k : Nat} (hk : k < 16) (hlo : w0.heap.size ≤ b) (v : Int) (hv : 0 ≤ v ∧ v ≤ 1000000) :
    LpI w0 g (some ⟨b, off, none⟩) c ⟨s.vs.set k v, s.left⟩ (W.setCell ⟨b, off + k, none⟩ (.int .i64 v)) ∧ KI g (some ⟨b, off, none⟩) W (W.setCell ⟨b, off + k, none⟩ (.int .i64 v)) := by
  have hl := h.len
  have hg : g ≠ b := fun e => h.apart (by rw [e]; rfl)
  have ho := h.vars.set_ (k := k) (by rw [length_ints]; omega) (.int .i64 v)
  rw [ints_set] at ho
  exact ⟨⟨h.box.far (p := ⟨b, off + k, none⟩) hg _, ho, h.low.setCell (p := ⟨b, off + k, none⟩) hlo _, h.log, mem_setL h.rng hv, h.lef⟩, KI.put (p := ⟨b, off + k, none⟩) (.inr rfl) _⟩
end
/-- How a run ends. -/
def LpR (w0 : World) (a0 a1 : Addr) (g : Nat) (A : Option Addr) (c : Nat) (x : Except Int Ls) (W : World) (e : Ending) (W' : World) : Prop :=
  match x with
  | .ok s => (∃ u, e = .returned u) ∧ LpI w0 g A c s W' ∧ KI g A W W'
  | .error k => e = .panicked [{ v := errV (if k = 6 then a0 else a1), recovered := false }] ∧ (k = 5 ∨ k = 6) ∧ KI g A W W'
theorem stepI_any (w0 : World) (a0 a1 : Addr) (g : Nat) (A : Option Addr) (c : Nat) (s : Ls) (W : World) (he : ErrsW w0 a0 a1) (h : LpI w0 g A c s W) :
    Calls Tryd.prog 95 #[.pointer (some ⟨g, 0, none⟩)] W (LpR w0 a0 a1 g A c (stepLs s) W) := by
  have e1 := (he.below h.low).v1
  have x1 : W.cell? ⟨g, 1, none⟩ = some (.int .i64 (s.left : Int)) := h.box.cell 1
  have f1 := h.box.frozen 1
  have hlf := h.lef
  by_cases h0 : s.left = 0
  · have hS := Lib.hid (stepLs_err h0)
    have hd : ((s.left : Int) == 0) = true := by simpa using h0
    clear h0
    go_enter Tryd.func95, Tryd.ntmps95
    go_wp2_with fail
    rw [hS.out]
    exact ⟨rfl, rfl, .inl rfl, KI.refl _ _ _⟩
  · have hS := Lib.hid (stepLs_ok h0)
    have hd : ((s.left : Int) == 0) = false := by simp; omega
    have w1 : IntKind.i64.wrap ((s.left : Int) - 1) = ((s.left - 1 : Nat) : Int) := by rw [show ((s.left : Int) - 1) = ((s.left - 1 : Nat) : Int) by omega]; exact IntWalk.i64_in _ (by omega)
    have HE := Lib.hid (h.setLeft (s.left - 1) (by omega))
    clear h0
    go_enter Tryd.func95, Tryd.ntmps95
    go_wp2_with fail
    rw [hS.out]
    exact bodyPost_end (results_none rfl _ _ _) rfl ⟨⟨_, rfl⟩, HE.out⟩
end Go.Proofs.YtacajmgokdgbgaaDoor
