/-
  Contracts of impl's greatest, rootOf, unpairOf.
-/
import Derived.Test.YtpleclmlcojkdaaPbNatE2
namespace Go.Proofs.Ytpleclmlcojkdaa
open Go.RowKit

set_option maxHeartbeats 1000000 in
theorem greatest_any (f : FuncId) (c1 c2 c3 : Value) (p : Int → Bool) (w : World) (h0 : p 0 = true) (hcall : ∀ (args : Array Value) (w : World), (callFunc f args).run Try.prog w = .ok (.enter f args) w)
    (hf : Hid (∀ d, 0 ≤ d → d < 1000000 → ∀ w1, Below w.heap.size w w1 → Calls Try.prog f #[.int .i64 d, c1, c2, c3] w1 fun e w' => e = .returned (.bool (p d)) ∧ Below w1.heap.size w1 w')) :
    Calls Try.prog 214 #[.func (.func f) #[] #[c1, c2, c3]] w fun e w' => ∃ d, e = .returned (.int .i64 d) ∧ (0 ≤ d ∧ d < 1000000) ∧ p d = true ∧ (d + 1 < 1000000 → p (d + 1) = false) ∧ Below w.heap.size w w' := by
  have H0 := Lib.hid h0
  clear h0
  go_enter Try.func214, Try.ntmps214
  go_wp2_with fail
  go_loopw [3, 4] (fun a b wr => ∃ lo hi : Int, a = .int .i64 lo ∧ b = .int .i64 hi ∧ 0 ≤ lo ∧ lo < hi ∧ hi ≤ 1000000 ∧ Hid (p lo = true) ∧ Hid (hi < 1000000 → p hi = false) ∧ Below w.heap.size w wr) (fun a b _ => (intOf b - intOf a).toNat)
  case atStart => exact ⟨0, 1000000, rfl, rfl, by omega, by omega, by omega, H0, Lib.hid (fun h => absurd h (by omega)), Below.refl _ _⟩
  case round =>
    obtain ⟨lo, hi, rfl, rfl, h1, h2, h3, HL, HH, hz⟩ := hrel
    have w1 : IntKind.i64.wrap (lo + 1) = lo + 1 := IntWalk.i64_in _ (by omega)
    by_cases hlt : lo + 1 < hi
    · obtain ⟨m, hm⟩ : ∃ m, (lo + hi) / 2 = m := ⟨_, rfl⟩
      have w2 : IntKind.i64.wrap (lo + hi) = lo + hi := IntWalk.i64_in _ (by omega)
      have hs0 : 0 ≤ lo + hi := by omega
      have w3 : IntKind.i64.wrap (Int.tdiv (lo + hi) 2) = m := by rw [Int.tdiv_eq_ediv_of_nonneg hs0, hm]; exact IntWalk.i64_in _ (by omega)
      have HM : Hid (lo < m ∧ m < hi) := Lib.hid (by omega)
      have HC := Lib.hid (hf.out m (by omega) (by omega) _ hz)
      go_wp2_with fail
      refine HC.out.mono ?_
      rintro e w5 ⟨rfl, z5⟩
      have y5 := hz.trans (z5.mono hz.size)
      cases hp : p m with
      | true =>
        have HP := Lib.hid hp
        clear hp hm
        go_wp2_with fail
        go_roundw
        case rel => exact ⟨m, hi, rfl, rfl, by have := HM.out; omega, HM.out.2, h3, HP, HH, y5⟩
        case measure => have := HM.out; simp [intOf]; omega
      | false =>
        have HP := Lib.hid hp
        clear hp hm
        go_wp2_with fail
        go_roundw
        case rel => exact ⟨lo, m, rfl, rfl, h1, HM.out.1, by have := HM.out; omega, HL, Lib.hid (fun _ => HP.out), y5⟩
        case measure => have := HM.out; simp [intOf]; omega
    · have HE : Hid (lo + 1 < 1000000 → p (lo + 1) = false) := Lib.hid (fun h => by
        have e : lo + 1 = hi := by omega
        rw [e]; exact HH.out (by omega))
      go_wp2_with fail
      go_ret
      exact ⟨lo, rfl, ⟨h1, by omega⟩, HL.out, HE.out, hz⟩
theorem cmp_le (m n : Nat) : decide (cmpF m n ≤ 0) = decide (m ≤ n) := by
  unfold cmpF
  by_cases h1 : m < n
  · rw [if_pos h1, decide_eq_true (by omega), decide_eq_true (by omega)]
  · rw [if_neg h1]
    by_cases h2 : m = n
    · rw [if_pos h2, decide_eq_true (by omega), decide_eq_true (by omega)]
    · rw [if_neg h2, decide_eq_false (by omega), decide_eq_false (by omega)]
set_option maxRecDepth 100000 in
set_option maxHeartbeats 2000000 in
theorem rootOf1_any (d : Int) (r q g : Nat) (D : Option Addr) (L : Nat) (root : List Int) (i : Nat) (A : Option Addr) (n c x : Nat) (w : World) (hr : Blk w r 25 #[.slice D L L]) (hq : Blk w q 3 #[.int .i64 (i : Int)]) (hg : Blk w g 25 #[.slice A n c])
    (hR : SI w D L root) (hl : lims root) (hx : SI w A n (natL x)) (hi : i < L) (hL : L ≤ 400) (hn : n ≤ 1000) (hd : 0 ≤ d ∧ d < 1000000) :
    Calls Try.prog 215 #[.int .i64 d, .pointer (some ⟨r, 0, none⟩), .pointer (some ⟨q, 0, none⟩), .pointer (some ⟨g, 0, none⟩)] w fun e w' => e = .returned (.bool (decide ((val (root.set i d)).toNat * (val (root.set i d)).toNat ≤ x))) ∧ Below w.heap.size w w' := by
  have HRL := Lib.hid hR.len
  have HRS := Lib.hid hR.len
  have HQ := Lib.hid hq
  have HG := Lib.hid hg
  have HX := Lib.hid hx
  have HLM : Hid (lims (root.set i d)) := Lib.hid (hl.set hd)
  obtain ⟨v, hv⟩ : ∃ v, (val (root.set i d)).toNat = v := ⟨_, rfl⟩
  have HVL : Hid ((natL v).length ≤ L) := Lib.hid (by
    refine natL_len_le ?_
    have h := val_range HLM.out
    rw [List.length_set, HRL.out] at h
    omega)
  have HCL := Lib.hid (cloneI_any D L L root w hR (by omega))
  have u0 : w.cell? ⟨r, 0, none⟩ = some (.slice D L L) := hr.cell 0
  go_enter Try.func215, Try.ntmps215
  go_upto_region 2 with (go_at_call 107; refine HCL.out.mono ?_; rintro e w2 ⟨E, ec, rfl, o2, z2⟩)
  rw [HRL.out] at o2 ⊢
  clear u0 hr hR hq hg hx HCL
  have hq2 := HQ.out.below' z2
  have hg2 := HG.out.below' z2
  have u0 : w2.cell? ⟨q, 0, none⟩ = some (.int .i64 (i : Int)) := hq2.cell 0
  obtain ⟨b, o, rfl, hbl, hblt, hcb, hfb⟩ := o2.at_ (k := i) (by rw [length_ints, HRL.out]; exact hi)
  have i1 : (0 : Int) ≤ (i : Int) := by omega
  have i2 : (i : Int) < (L : Int) := by omega
  have o3 := o2.set_ (k := i) (by rw [length_ints, HRL.out]; exact hi) (.int .i64 d)
  rw [ints_set] at o3
  have z3 := z2.setCell (p := ⟨b, o + i, none⟩) hbl (.int .i64 d)
  have hg3 : Blk (w2.setCell ⟨b, o + i, none⟩ (.int .i64 d)) g 25 #[.slice A n c] := hg2.far (p := ⟨b, o + i, none⟩) (by have := HG.out.lt; dsimp only; omega) _
  go_upto_region 3 with fail
  generalize hW3 : w2.setCell ⟨b, o + i, none⟩ (.int .i64 d) = W3 at *
  clear hW3 hcb hfb u0 hq2 hg2 o2 z2 hblt
  go_wp2_with (go_at_call 183; refine (trimmed_any _ L ec w.heap.size (root.set i d) W3 o3 HLM.out (by omega)).mono ?_; rw [hv]; rintro e w4 ⟨rfl, o4, rfl⟩)
  have HG3 := Lib.hid hg3
  have HZ3 := Lib.hid z3
  have u0 : W3.cell? ⟨g, 0, none⟩ = some (.slice A n c) := hg3.cell 0
  have hxW : SI W3 A n (natL x) := HX.out.below z3
  have HXW := Lib.hid hxW
  have h4 : SI W3 (some ⟨b, o, none⟩) (natL v).length (natL v) := o4.rd
  clear o3 hxW z3
  go_region_held3 (fun w' => w'.cell? ⟨g, 0, none⟩ = some (.slice A n c))
    (first
      | (go_keep; done)
      | (exact (HG3.out.below' (zz6.trans (zz7.mono zz6.size))).cell 0)
      | (exact (HG3.out.below' zz6).cell 0))
    (first
      | (go_at_call 115; refine (multiply_any _ _ _ v _ _ _ v _ (Rd.drewN h4 1) (Rd.drewN h4 1) (by have := HVL.out; omega) (by have := HVL.out; omega)).mono ?_; rintro e w6 ⟨A6, c6, rfl, o6, z6⟩; have zz6 : Below W3.heap.size W3 w6 := below_undrew z6)
      | (go_at_call 120; refine (compare_any _ _ _ (v * v) _ _ _ x _ o6.rd (HXW.out.below zz6) (by have := mul_len (x := v) (y := v) HVL.out HVL.out; omega) (by omega)).mono ?_; rintro e w7 ⟨rfl, k7, rfl⟩; have zz7 : Below w6.heap.size w6 (w6.drewN k7) := below_drewN (Below.refl _ _) k7))
  go_wp2_with fail
  go_ret
  exact ⟨ret_bool (by rw [cmp_le, hv]), HZ3.out.trans ((zz6.trans (zz7.mono zz6.size)).mono HZ3.out.size)⟩
/-- What is left of a loop that counts down in a box. -/
def iM (v : Value) (W : World) : Nat := match v with | .pointer (some p) => (match W.cell? p with | some (.int _ k) => (k + 1).toNat | _ => 0) | _ => 0
theorem iM_eq {W : World} {q : Nat} {k : Int} (h : W.cell? ⟨q, 0, none⟩ = some (.int .i64 k)) : iM (.pointer (some ⟨q, 0, none⟩)) W = (k + 1).toNat := by unfold iM; simp [h]
theorem isRoot_ex (n : Nat) : ∃ s, isRoot s n := by
  induction n with
  | zero => exact ⟨0, by omega, by omega⟩
  | succ n ih =>
    obtain ⟨s, h1, h2⟩ := ih
    by_cases h : n + 1 < (s + 1) * (s + 1)
    · exact ⟨s, by omega, h⟩
    · refine ⟨s + 1, by omega, ?_⟩
      have : (s + 1 + 1) * (s + 1 + 1) = (s + 1) * (s + 1) + 2 * (s + 1) + 1 := by
        rw [Nat.add_mul (s + 1) 1, Nat.mul_add (s + 1) (s + 1) 1]; omega
      omega
set_option maxRecDepth 100000 in
set_option maxHeartbeats 4000000 in
theorem rootOfI_any (A : Option Addr) (n c x s : Nat) (w : World) (hx : SI w A n (natL x)) (hn : n ≤ 700) (hs : isRoot s x) :
    Calls Try.prog 177 #[.slice A n c] w (NewN w s) := by
  have HLX := Lib.hid hx.len
  have HX := Lib.hid hx
  obtain ⟨L, hL⟩ : ∃ L, L = (n + 1) / 2 := ⟨_, rfl⟩
  have HLN : Hid (n ≤ 2 * L ∧ L ≤ 400) := Lib.hid (by omega)
  have hLL : L ≤ 400 := HLN.out.2
  have w1 : IntKind.i64.wrap ((n : Int) + 1) = (n : Int) + 1 := IntWalk.i64_in _ (by omega)
  have w2 : IntKind.i64.wrap (Int.tdiv ((n : Int) + 1) 2) = (L : Int) := by rw [Int.tdiv_eq_ediv_of_nonneg (by omega), show ((n : Int) + 1) / 2 = (L : Int) by omega]; exact IntWalk.i64_in _ (by omega)
  have w2' : ((n : Int) + 1) / 2 = (L : Int) := by omega
  have w3 : IntKind.i64.wrap ((L : Int) - 1) = (L : Int) - 1 := IntWalk.i64_in _ (by omega)
  clear hL hx
  obtain ⟨W1, hW_⟩ : ∃ W_, W_ = w.alloc (.cells #[.slice A n c] 25) := ⟨_, rfl⟩
  have b1 : Blk W1 w.heap.size 25 #[.slice A n c] := by rw [hW_]; exact Blk.new w _ _
  have z1 : Below w.heap.size w W1 := by rw [hW_]; exact (Below.refl _ _).alloc (Nat.le_refl _) _
  have HW1 := Lib.hid hW_
  clear hW_
  have HB1 := Lib.hid b1
  have u0 : W1.cell? ⟨w.heap.size, 0, none⟩ = some (.slice A n c) := b1.cell 0
  go_enter Try.func177, Try.ntmps177
  go_upto_region 1 with fail
  rw [← HW1.out]
  go_upto_region 2 with (at_make; refine wpList_make_Own rfl (.tmp 8) (.tmp 8) rfl elI (n := L) (lo := w.heap.size) rfl rfl (by omega) (by unfold maxLen; omega) z1.size ?_; intro W2 ho2 hb2 hs2)
  rw [made_zeros] at ho2
  obtain ⟨W3, hW_⟩ : ∃ W_, W_ = W2.alloc (.cells #[.slice (some ⟨W1.heap.size, 0, none⟩) L L] 25) := ⟨_, rfl⟩
  have b3 : Blk W3 W2.heap.size 25 #[.slice (some ⟨W1.heap.size, 0, none⟩) L L] := by rw [hW_]; exact Blk.new W2 _ _
  have z3 : Below W2.heap.size W2 W3 := by rw [hW_]; exact (Below.refl _ _).alloc (Nat.le_refl _) _
  have HW3 := Lib.hid hW_
  clear hW_
  rw [← HW3.out]
  rw [hs2] at b3
  generalize hD : (some ⟨W1.heap.size, 0, none⟩ : Option Addr) = D at *
  obtain ⟨r, hr⟩ : ∃ r, r = W1.heap.size + 1 := ⟨_, rfl⟩
  rw [← hr] at b3 ⊢
  have hwr : w.heap.size < r := by have := HB1.out.lt; omega
  have y3 := (z1.trans (hb2.mono z1.size)).trans (z3.mono (by have := z1.size; have := hb2.size; omega))
  have HN3 := Lib.hid ((HB1.out.below' hb2).below' z3)
  have o3 := ho2.below z3
  clear ho2 hb2 hs2 z3 hr hD u0 b1
  have u0 : W3.cell? ⟨r, 0, none⟩ = some (.slice D L L) := b3.cell 0
  obtain ⟨W4, hW_⟩ : ∃ W_, W_ = W3.alloc (.cells #[.int .i64 ((L : Int) - 1)] 3) := ⟨_, rfl⟩
  have b4 : Blk W4 W3.heap.size 3 #[.int .i64 ((L : Int) - 1)] := by rw [hW_]; exact Blk.new W3 _ _
  have z4 : Below W3.heap.size W3 W4 := by rw [hW_]; exact (Below.refl _ _).alloc (Nat.le_refl _) _
  have HW4 := Lib.hid hW_
  clear hW_
  have hw4 : w.heap.size ≤ W3.heap.size := y3.size
  go_upto_region 3 with fail
  rw [← HW4.out]
  clear HW4 u0
  go_loopw [4] (fun s4 wr => ∃ (j q : Nat) (root : List Int), j ≤ L ∧ s4 = .pointer (some ⟨q, 0, none⟩) ∧ w.heap.size < q ∧ Blk wr q 3 #[.int .i64 ((j : Int) - 1)] ∧ Blk wr r 25 #[.slice D L L] ∧ Hid (Blk wr w.heap.size 25 #[.slice A n c]) ∧ Own wr w.heap.size 2 1 D L L (ints root) ∧ Below w.heap.size w wr ∧ Hid (RootS x j root)) (fun s4 wr => iM s4 wr)
  case atStart => exact ⟨L, _, _, Nat.le_refl _, rfl, by have := b3.lt; omega, b4, b3.below' z4, Lib.hid (HN3.out.below' z4), o3.below z4, y3.trans (z4.mono y3.size), Lib.hid (RootS.start (by rw [HLX.out]; exact HLN.out.1))⟩
  case round =>
    obtain ⟨j, q, root, hj, rfl, hwq, hq, hr, HG, ho, hz, HS⟩ := hrel
    clear b4 b3 z4 o3 y3
    have hrl : root.length = L := (show SI wr D L root from ho.rd).len
    rcases Nat.eq_zero_or_pos j with h0 | h0
    · subst h0
      have v0 : wr.cell? ⟨q, 0, none⟩ = some (.int .i64 (((0 : Nat) : Int) - 1)) := hq.cell 0
      have u0 : wr.cell? ⟨r, 0, none⟩ = some (.slice D L L) := hr.cell 0
      have i1 : ¬ (0 : Int) ≤ ((0 : Nat) : Int) - 1 := by omega
      have HE : Hid ((val root).toNat = s) := Lib.hid (HS.out.end_.unique hs)
      have HLM := Lib.hid HS.out.lim
      go_wp2_with fail
      refine (trimmed_any D L L w.heap.size root wr ho HLM.out (by omega)).mono ?_
      rw [HE.out]
      rintro e w' ⟨rfl, ho5, rfl⟩
      go_wp2_with fail
      go_ret
      exact ⟨D, L, rfl, ho5, hz⟩
    obtain ⟨i, rfl⟩ : ∃ i, j = i + 1 := ⟨j - 1, by omega⟩
    have ei : ((i + 1 : Nat) : Int) - 1 = (i : Int) := by omega
    rw [ei] at hq
    have i1 : (0 : Int) ≤ (i : Int) := by omega
    have i2 : (i : Int) < (L : Int) := by omega
    obtain ⟨b, o, rfl, hbl, hblt, hcb, hfb⟩ := ho.at_ (k := i) (by rw [length_ints]; omega)
    rw [ints_get] at hcb
    have hbr : b ≠ r := by
      intro e; subst e
      exact hr.aptt ho (by decide) rfl
    have hbq : b ≠ q := by
      intro e; subst e
      exact hq.aptt ho (by decide) rfl
    have hbg : b ≠ w.heap.size := by
      intro e; subst e
      exact HG.out.aptt ho (by decide) rfl
    have hri : root[i]'(by omega) = 0 := HS.out.low i (by omega) (by omega)
    have HP0 : Hid (decide ((val (root.set i 0)).toNat * (val (root.set i 0)).toNat ≤ x) = true) := Lib.hid (by
      have e : root.set i 0 = root := by rw [← hri, List.set_getElem_self]
      have h1 := HS.out.sq
      have h2 := (val_range HS.out.lim).1
      obtain ⟨k, hk⟩ : ∃ k : Nat, val root = (k : Int) := ⟨(val root).toNat, by omega⟩
      rw [e, hk, Int.toNat_natCast]
      rw [hk] at h1
      exact decide_eq_true (by exact_mod_cast h1))
    have HRO := Lib.hid (show SI wr (some ⟨b, o, none⟩) L root from ho.rd)
    have HXR := Lib.hid (HX.out.below hz)
    have HRB := Lib.hid hr
    have HQB := Lib.hid hq
    have HO := Lib.hid ho
    have HF : Hid (∀ d, 0 ≤ d → d < 1000000 → ∀ w5, Below (wr.drewN 1).heap.size (wr.drewN 1) w5 → Calls Try.prog 215 #[.int .i64 d, .pointer (some ⟨r, 0, none⟩), .pointer (some ⟨q, 0, none⟩), .pointer (some ⟨w.heap.size, 0, none⟩)] w5 fun e w' => e = .returned (.bool (decide ((val (root.set i d)).toNat * (val (root.set i d)).toNat ≤ x))) ∧ Below w5.heap.size w5 w') :=
      Lib.hid (fun d h1 h2 w5 z5 => rootOf1_any d r q w.heap.size _ L root i A n c x w5 ((HRB.out.drewN 1).below' z5) ((HQB.out.drewN 1).below' z5) ((HG.out.drewN 1).below' z5) ((Rd.drewN HRO.out 1).below z5) HS.out.lim ((Rd.drewN HXR.out 1).below z5) (by omega) hLL (by omega) ⟨h1, h2⟩)
    have v0 : wr.cell? ⟨q, 0, none⟩ = some (.int .i64 (i : Int)) := hq.cell 0
    have u0 : wr.cell? ⟨r, 0, none⟩ = some (.slice (some ⟨b, o, none⟩) L L) := hr.cell 0
    clear hri hq hr ho
    go_upto_region 5 with fail
    go_region_held3 (fun w' => w'.cell? ⟨r, 0, none⟩ = some (.slice (some ⟨b, o, none⟩) L L) ∧ w'.cell? ⟨q, 0, none⟩ = some (.int .i64 (i : Int)))
      (first
        | (go_keep; done)
        | (exact ⟨((HRB.out.below' zz6).far (p := ⟨b, o + i, none⟩) (Ne.symm hbr) _).cell 0, ((HQB.out.below' zz6).far (p := ⟨b, o + i, none⟩) (Ne.symm hbq) _).cell 0⟩)
        | (exact ⟨(HRB.out.below' zz6).cell 0, (HQB.out.below' zz6).cell 0⟩))
      (first | (go_at_call 214; refine (greatest_any _ _ _ _ (fun d => decide ((val (root.set i d)).toNat * (val (root.set i d)).toNat ≤ x)) _ HP0.out Try.call215 HF.out).mono ?_; rintro e w6 ⟨d, rfl, hd, hpd, hpn, z6⟩; have zz6 : Below wr.heap.size wr w6 := below_undrew z6; have f6 := (zz6.frozen (p := ⟨b, o + i, none⟩) hblt).trans hfb; have q6 := (zz6.cell (p := ⟨b, o + i, none⟩) hblt).trans hcb))
    have hS2 : RootS x i (root.set i d) := HS.out.step (by omega) hd (by
        have h := of_decide_eq_true hpd
        have h2 := (val_range (HS.out.lim.set (k := i) hd)).1
        obtain ⟨k, hk⟩ : ∃ k : Nat, val (root.set i d) = (k : Int) := ⟨(val (root.set i d)).toNat, by omega⟩
        rw [hk, Int.toNat_natCast] at h
        rw [hk]; exact_mod_cast h) (fun h3 => by
        have h := of_decide_eq_false (hpn h3)
        have h2 := (val_range (HS.out.lim.set (k := i) (y := d + 1) (by omega))).1
        obtain ⟨k, hk⟩ : ∃ k : Nat, val (root.set i (d + 1)) = (k : Int) := ⟨(val (root.set i (d + 1))).toNat, by omega⟩
        rw [hk, Int.toNat_natCast] at h
        rw [hk]
        have h4 : x < k * k := by omega
        exact_mod_cast h4)
    have HS2 := Lib.hid hS2
    have ho7 := (HO.out.below zz6).set_ (k := i) (by rw [length_ints]; omega) (.int .i64 d)
    rw [ints_set] at ho7
    have z7 := (hz.trans (zz6.mono hz.size)).setCell (p := ⟨b, o + i, none⟩) hbl (.int .i64 d)
    have hq7 := (HQB.out.below' zz6).far (p := ⟨b, o + i, none⟩) (Ne.symm hbq) (.int .i64 d)
    have hr7 := (HRB.out.below' zz6).far (p := ⟨b, o + i, none⟩) (Ne.symm hbr) (.int .i64 d)
    have hg7 := (HG.out.below' zz6).far (p := ⟨b, o + i, none⟩) (Ne.symm hbg) (.int .i64 d)
    generalize w6.setCell ⟨b, o + i, none⟩ (.int .i64 d) = W7 at *
    have wi : IntKind.i64.wrap ((i : Int) - 1) = (i : Int) - 1 := IntWalk.i64_in _ (by omega)
    have HMZ : Hid (iM (.pointer (some ⟨q, 0, none⟩)) wr = i + 1) := Lib.hid (by rw [iM_eq v0]; omega)
    clear hS2 hpd hpn u0 v0 hbr hbq hbg hcb hfb HRB HQB HO HRO HXR HF HP0 z6 zz6
    obtain ⟨W8, hW_⟩ : ∃ W_, W_ = W7.alloc (.cells #[.int .i64 (i : Int)] 3) := ⟨_, rfl⟩
    have b8 : Blk W8 W7.heap.size 3 #[.int .i64 (i : Int)] := by rw [hW_]; exact Blk.new W7 _ _
    have z8 : Below W7.heap.size W7 W8 := by rw [hW_]; exact (Below.refl _ _).alloc (Nat.le_refl _) _
    have HW8 := Lib.hid hW_
    clear hW_
    have hr8 := hr7.below' z8
    have HG8 := Lib.hid (hg7.below' z8)
    have ho8 := ho7.below z8
    have z9 := z7.trans (z8.mono z7.size)
    have hwq8 : w.heap.size < W7.heap.size := by have := hg7.lt; exact this
    have hqr : r ≠ W7.heap.size := by have := hr7.lt; omega
    have v0 : W7.cell? ⟨q, 0, none⟩ = some (.int .i64 (i : Int)) := hq7.cell 0
    go_upto_region 4 with fail
    rw [← HW8.out]
    clear HW8 hq7 hr7 hg7 ho7 z7 z8 v0
    have v0 : W8.cell? ⟨W7.heap.size, 0, none⟩ = some (.int .i64 (i : Int)) := b8.cell 0
    have f8 := b8.frozen 0
    have b9 := b8.set_ 0 (.int .i64 ((i : Int) - 1))
    have hr9 := hr8.far (p := ⟨W7.heap.size, 0, none⟩) hqr (.int .i64 ((i : Int) - 1))
    have HG9 := Lib.hid (HG8.out.far (p := ⟨W7.heap.size, 0, none⟩) (Nat.ne_of_lt hwq8) (.int .i64 ((i : Int) - 1)))
    have ho9 := ho8.far (p := ⟨W7.heap.size, 0, none⟩) (fun e => by have := b8.aptt ho8 (by decide); exact this e) (.int .i64 ((i : Int) - 1))
    have z10 := z9.setCell (p := ⟨W7.heap.size, 0, none⟩) (Nat.le_of_lt hwq8) (.int .i64 ((i : Int) - 1))
    have b9' : Blk (W8.setCell ⟨W7.heap.size, 0, none⟩ (.int .i64 ((i : Int) - 1))) W7.heap.size 3 #[.int .i64 ((i : Int) - 1)] := b9
    have HM9 := Lib.hid (iM_eq (b9'.cell 0))
    clear hr8 ho8 z9 b9 b8
    go_wp2_with fail
    go_roundw
    case rel => exact ⟨i, W7.heap.size, root.set i d, by omega, rfl, hwq8, b9', hr9, HG9, ho9, z10, HS2⟩
    case measure => rw [HM9.out, HMZ.out]; omega
end Go.Proofs.Ytpleclmlcojkdaa

/-
  Contracts of impl's unpairOf, UnpairOf, naturals, PairOf.
-/
namespace Go.Proofs.Ytpleclmlcojkdaa
open Go.RowKit

theorem lit_nat (w : World) {v : Nat} (h0 : 0 < v) (h1 : v < 1000000) : SI (w.alloc (.cells #[.int .i64 (v : Int)] 2)) (some ⟨w.heap.size, 0, none⟩) 1 (natL v) := by
  rw [natL_small h0 h1]; exact Rd.new1 w (.int .i64 (v : Int)) _
/-- Two naturals in new memory. -/
def NewNN (w : World) (a b : Nat) (e : Ending) (w' : World) : Prop :=
  ∃ A c B d, e = .returned (.tuple #[.slice A (natL a).length c, .slice B (natL b).length d]) ∧ Own w' w.heap.size 2 1 A (natL a).length c (ints (natL a)) ∧ Own w' w.heap.size 2 1 B (natL b).length d (ints (natL b)) ∧ Below w.heap.size w w'
theorem sub_len {x y k : Nat} (hx : (natL x).length ≤ k) (h : y ≤ x) : (natL y).length ≤ k := Nat.le_trans (natL_len_mono h) hx
set_option maxRecDepth 100000 in
set_option maxHeartbeats 4000000 in
theorem unpairOfI_any (A : Option Addr) (n c a b : Nat) (w : World) (hx : SI w A n (natL (pairN a b))) (hn : n ≤ 50) :
    Calls Try.prog 96 #[.slice A n c] w (NewNN w a b) := by
  obtain ⟨x, hxE⟩ : ∃ x, x = pairN a b := ⟨_, rfl⟩
  obtain ⟨s, hs⟩ := isRoot_ex (8 * x + 1)
  obtain ⟨a', b', h1, h2, h3⟩ := unpair_of hs
  obtain ⟨e1, e2⟩ := pairN_inj (h1.symm.trans hxE)
  subst e1 e2
  rw [← hxE] at hx
  have h4 := root_tri hs
  rw [h2] at h3 h4
  have hlx := hx.len
  have l8 : (natL 8).length = 1 := by rw [natL_small (by omega) (by omega)]; rfl
  have lo : (natL 1).length = 1 := by rw [natL_one]; rfl
  have k1 : (natL (x * 8)).length ≤ 51 := by have := mul_len (x := x) (y := 8) (k := 50) (l := 1) (by omega) (by omega); omega
  have k2 : (natL (x * 8 + 1)).length ≤ 52 := add_len (k := 51) k1 (by omega)
  have hsx : s ≤ x * 8 + 1 := by
    have h5 := hs.1
    have h6 : s * 1 ≤ s * s := Nat.mul_le_mul_left s h4.1
    omega
  have k3 : (natL s).length ≤ 52 := sub_len k2 hsx
  have k4 : (natL (s - 1)).length ≤ 52 := sub_len k3 (by omega)
  have k5 : (natL (a' + b')).length ≤ 52 := sub_len k3 (by omega)
  have k6 : (natL (tri (a' + b'))).length ≤ 50 := sub_len (x := x) (by omega) h4.2.1
  have k7 : (natL b').length ≤ 50 := sub_len (x := x) (by omega) (by omega)
  have HS : Hid (isRoot s (x * 8 + 1)) := Lib.hid (by rw [Nat.mul_comm]; exact hs)
  have HK := Lib.hid (And.intro k1 (And.intro k2 (And.intro k3 (And.intro k4 (And.intro k5 (And.intro k6 k7))))))
  have HLO := Lib.hid lo
  have HX := Lib.hid hx
  have HLX := Lib.hid hlx
  have HT := Lib.hid (And.intro h3 (And.intro h4.1 h4.2.1))
  have HH2 := Lib.hid h2
  clear h1 h2 h3 h4 hs hsx k1 k2 k3 k4 k5 k6 k7 lo hx hlx hxE
  have h8 := lit_nat w (v := 8) (by omega) (by omega)
  obtain ⟨W1, hW1⟩ : ∃ W1, W1 = w.alloc (.cells #[.int .i64 8] 2) := ⟨_, rfl⟩
  have z1 : Below w.heap.size w W1 := by rw [hW1]; exact (Below.refl _ _).alloc (Nat.le_refl _) _
  have r8 : SI W1 (some ⟨w.heap.size, 0, none⟩) 1 (natL 8) := by rw [hW1]; exact h8
  have HW1 := Lib.hid hW1
  clear hW1 h8
  go_enter Try.func96, Try.ntmps96
  go_wp2_with fail
  rw [← HW1.out]
  refine (multiply_any A n c x _ 1 1 8 W1 (HX.out.below z1) r8 (by omega) (by omega)).mono ?_
  rintro e W2 ⟨A2, c2, rfl, o2, z2⟩
  have y2 := z1.trans (z2.mono z1.size)
  go_wp2_with fail
  refine (one_nat W2).mono ?_
  rintro e W3 ⟨A3, c3, rfl, o3, z3⟩
  have y3 := y2.trans (z3.mono y2.size)
  go_wp2_with fail
  refine (add_any A2 _ c2 (x * 8) A3 _ c3 1 W3 (o2.below z3).rd o3.rd (by have := HK.out.1; omega) (by have := HLO.out; omega)).mono ?_
  rintro e W4 ⟨A4, c4, rfl, o4, z4⟩
  have y4 := y3.trans (z4.mono y3.size)
  go_wp2_with fail
  refine (rootOfI_any A4 _ c4 (x * 8 + 1) s W4 o4.rd (by have := HK.out.2.1; omega) HS.out).mono ?_
  rintro e W5 ⟨A5, c5, rfl, o5, z5⟩
  have y5 := y4.trans (z5.mono y4.size)
  go_wp2_with fail
  refine (one_nat W5).mono ?_
  rintro e W6 ⟨A6, c6, rfl, o6, z6⟩
  have y6 := y5.trans (z6.mono y5.size)
  go_wp2_with fail
  refine (subtract_any A5 _ c5 s A6 _ c6 1 W6 (o5.below z6).rd o6.rd (by have := HK.out.2.2.1; omega) (by have := HLO.out; omega) HT.out.2.1).mono ?_
  rintro e W7 ⟨A7, c7, rfl, o7, z7⟩
  have y7 := y6.trans (z7.mono y6.size)
  go_wp2_with fail
  refine (divideSmall_any A7 _ c7 (s - 1) 2 W7 o7.rd (by have := HK.out.2.2.2.1; omega) (by omega) (by omega)).mono ?_
  rw [HH2.out]
  rintro e W8 ⟨A8, c8, rfl, o8, z8⟩
  have y8 := y7.trans (z8.mono y7.size)
  go_wp2_with fail
  refine (triangleI_any A8 _ c8 (a' + b') W8 o8.rd (by have := HK.out.2.2.2.2.1; omega)).mono ?_
  rintro e W9 ⟨A9, c9, rfl, o9, z9⟩
  have y9 := y8.trans (z9.mono y8.size)
  go_wp2_with fail
  refine (subtract_any A n c x A9 _ c9 (tri (a' + b')) W9 (HX.out.below y9) o9.rd (by omega) (by have := HK.out.2.2.2.2.2.1; omega) HT.out.2.2).mono ?_
  rw [HT.out.1]
  rintro e Wa ⟨Aa, ca, rfl, oa, za⟩
  have ya := y9.trans (za.mono y9.size)
  go_wp2_with fail
  refine (subtract_any A8 _ c8 (a' + b') Aa _ ca b' Wa ((o8.below z9).below za).rd oa.rd (by have := HK.out.2.2.2.2.1; omega) (by have := HK.out.2.2.2.2.2.2; omega) (by omega)).mono ?_
  rw [Nat.add_sub_cancel]
  rintro e Wb ⟨Ab, cb, rfl, ob, zb⟩
  go_wp2_with fail
  exact bodyPost_ret (v := .tuple #[.slice Ab (natL a').length cb, .slice Aa (natL b').length ca]) (by simp [results, Try.results96, go_sem]) rfl ⟨Ab, cb, Aa, ca, rfl, ob.mono ya.size, (oa.below zb).mono y9.size, ya.trans (zb.mono ya.size)⟩
set_option maxHeartbeats 1000000 in
theorem UnpairOfI_any (A : Option Addr) (n c a b : Nat) (w : World) (hx : SI w A n (natL (pairN a b))) (hn : n ≤ 40) :
    Calls Try.prog 24 #[.slice A n c] w fun e w' => ∃ A1 c1 B1 d1, e = .returned (.tuple #[.slice A1 (natL a).length c1, .slice B1 (natL b).length d1, .int .i64 0]) ∧ Own w' w.heap.size 2 1 A1 (natL a).length c1 (ints (natL a)) ∧ Own w' w.heap.size 2 1 B1 (natL b).length d1 (ints (natL b)) ∧ Below w.heap.size w w' := by
  have HI := Lib.hid (isNatural_any A n c (pairN a b) w hx (by omega))
  rw [show decide (n ≤ 40) = true from decide_eq_true hn] at HI
  have HU := Lib.hid (unpairOfI_any A n c a b w hx (by omega))
  go_enter Try.func24, Try.ntmps24
  go_wp2_with (go_at_call 95; refine HI.out.mono ?_; rintro e w' ⟨rfl, rfl⟩)
  refine HU.out.mono ?_
  rintro e W1 ⟨A1, c1, B1, d1, rfl, o1, o2, z1⟩
  go_wp2_with fail
  exact bodyPost_ret (v := .tuple #[.slice A1 (natL a).length c1, .slice B1 (natL b).length d1, .int .i64 0]) (by simp [results, Try.results24, go_sem]) rfl ⟨A1, c1, B1, d1, rfl, o1, o2, z1⟩
/-! ### lists of naturals -/
/-- Rows that are naturals of at most 40 limbs. -/
def NatRows (ts : List Sl) (vs : List Nat) : Prop := nums ts = vs.map natL ∧ ∀ v ∈ vs, (natL v).length ≤ 40
theorem NatRows.row {ts : List Sl} {vs : List Nat} (h : NatRows ts vs) {t : Sl} (ht : t ∈ ts) : ∃ v, t.xs = natL v ∧ t.xs.length ≤ 40 := by
  have h1 : t.xs ∈ nums ts := List.mem_map.2 ⟨t, ht, rfl⟩
  rw [h.1] at h1
  obtain ⟨v, hv, e⟩ := List.mem_map.1 h1
  exact ⟨v, e.symm, by rw [← e]; exact h.2 v hv⟩
set_option maxHeartbeats 1000000 in
theorem naturals1_any (A : Option Addr) (n c x : Nat) (w : World) (hx : SI w A n (natL x)) (hn : n ≤ 40) :
    Calls Try.prog 180 #[.slice A n c] w fun e w' => e = .returned (.bool false) ∧ w = w' := by
  have HI := Lib.hid (isNatural_any A n c x w hx (by omega))
  rw [show decide (n ≤ 40) = true from decide_eq_true hn] at HI
  go_enter Try.func180, Try.ntmps180
  go_wp2_with (go_at_call 95; refine HI.out.mono ?_; rintro e w' ⟨rfl, rfl⟩)
  go_ret
  exact ⟨rfl, rfl⟩
set_option maxHeartbeats 1000000 in
theorem indexNone_any (A : Option Addr) (n c : Nat) (ts : List Sl) (f : FuncId) (w : World) (hx : SII w A n ts) (hn : n ≤ 9223372036854775807) (hcall : ∀ (args : Array Value) (w : World), (callFunc f args).run Try.prog w = .ok (.enter f args) w)
    (hf : Hid (∀ t ∈ ts, Calls Try.prog f #[.slice t.A t.xs.length t.c] w fun e w' => e = .returned (.bool false) ∧ w = w')) :
    Calls Try.prog 216 #[.slice A n c, .func (.func f) #[] #[]] w fun e w' => e = .returned (.int .i64 (-1)) ∧ w = w' := by
  go_enter Try.func216, Try.ntmps216
  go_wp2
  go_loop [8] (fun i => ∃ k : Nat, k ≤ n ∧ i = .int .i64 k) (fun i => n - (intOf i).toNat)
  case atStart => exact ⟨0, by omega, rfl⟩
  case round =>
    obtain ⟨k, hk, rfl⟩ := hrel
    by_cases hlt : k < n
    · obtain ⟨t, b, off, hT, htm, rfl, _, hc, hr⟩ := hx.pick hlt
      go_wp2_with fail
      refine (hf.out t htm).mono ?_
      rintro e w' ⟨rfl, rfl⟩
      go_wp2
      exact ⟨⟨k + 1, by omega, by go_num⟩, by simp [intOf]; omega⟩
    · go_wp2
      go_ret
      exact ⟨rfl, rfl⟩
set_option maxHeartbeats 1000000 in
theorem naturals_any (A : Option Addr) (n c : Nat) (ts : List Sl) (vs : List Nat) (w : World) (hx : SII w A n ts) (hn : n ≤ 1048576) (hv : NatRows ts vs) :
    Calls Try.prog 97 #[.slice A n c] w fun e w' => e = .returned (.bool true) ∧ w = w' := by
  have HF : Hid (∀ t ∈ ts, Calls Try.prog 180 #[.slice t.A t.xs.length t.c] w fun e w' => e = .returned (.bool false) ∧ w = w') := Lib.hid (fun t ht => by
    obtain ⟨v, e, hl⟩ := hv.row ht
    have := hx.2 t ht
    exact naturals1_any t.A _ t.c v w (by rw [e] at this ⊢; exact this) hl)
  have HC : Hid (Calls Try.prog 179 #[.slice A n c, .func (.func 180) #[] #[]] w fun e w' => e = .returned (.bool false) ∧ w = w') := Lib.hid (by
    go_enter Try.func179, Try.ntmps179
    go_wp2_with (go_at_call 216; refine (indexNone_any _ _ _ ts _ _ hx (by omega) Try.call180 HF).mono ?_; rintro e w' ⟨rfl, rfl⟩)
    go_ret
    exact ⟨rfl, rfl⟩)
  go_enter Try.func97, Try.ntmps97
  go_wp2_with (go_at_call 179; refine HC.out.mono ?_; rintro e w' ⟨rfl, rfl⟩)
  go_ret
  exact ⟨rfl, rfl⟩
set_option maxRecDepth 100000 in
set_option maxHeartbeats 2000000 in
theorem PairOfI_any (A : Option Addr) (c x : Nat) (B : Option Addr) (d y : Nat) (w : World) (hx : SI w A (natL x).length (natL x)) (hy : SI w B (natL y).length (natL y)) (hn : (natL x).length ≤ 40) (hm : (natL y).length ≤ 40) (hp : (natL (pairN x y)).length ≤ 40) :
    Calls Try.prog 25 #[.slice A (natL x).length c, .slice B (natL y).length d] w fun e w' => ∃ A1 c1, e = .returned (.tuple #[.slice A1 (natL (pairN x y)).length c1, .int .i64 0]) ∧ Own w' w.heap.size 2 1 A1 (natL (pairN x y)).length c1 (ints (natL (pairN x y))) ∧ Below w.heap.size w w' := by
  have HP := Lib.hid hp
  obtain ⟨W1, hW_⟩ : ∃ W_, W_ = w.alloc (.cells #[.slice A (natL x).length c, .slice B (natL y).length d] 25) := ⟨_, rfl⟩
  have b1 : Blk W1 w.heap.size 25 #[.slice A (natL x).length c, .slice B (natL y).length d] := by rw [hW_]; exact Blk.new w _ _
  have z1 : Below w.heap.size w W1 := by rw [hW_]; exact (Below.refl _ _).alloc (Nat.le_refl _) _
  have HW1 := Lib.hid hW_
  clear hW_
  have hr : SII W1 (some ⟨w.heap.size, 0, none⟩) 2 [⟨A, c, natL x⟩, ⟨B, d, natL y⟩] := ⟨⟨rfl, fun _ => ⟨_, 0, rfl, fun k hk => by
      rw [show W1.cell? ⟨w.heap.size, 0 + k, none⟩ = _ from b1.cell (0 + k)]
      match k, hk with
      | 0, _ => rfl
      | 1, _ => rfl⟩⟩, fun t ht => by
      rcases List.mem_cons.1 ht with rfl | h
      · exact hx.below z1
      · rw [List.mem_singleton.1 h]; exact hy.below z1⟩
  have HN := Lib.hid (naturals_any _ 2 2 _ [x, y] W1 hr (by omega) ⟨rfl, fun v hv => by
    rcases List.mem_cons.1 hv with rfl | h
    · exact hn
    · rw [List.mem_singleton.1 h]; exact hm⟩)
  have HPO := Lib.hid (pairOfI_any A _ c x B _ d y W1 (hx.below z1) (hy.below z1) (by omega) (by omega))
  clear hr hx hy b1 hp
  go_enter Try.func25, Try.ntmps25
  go_wp2_with fail
  rw [← HW1.out]
  refine HN.out.mono ?_
  rintro e w' ⟨rfl, rfl⟩
  go_wp2_with fail
  refine HPO.out.mono ?_
  rintro e W2 ⟨A2, c2, rfl, o2, z2⟩
  go_wp2_with fail
  refine (limited_any A2 _ c2 W2 HP.out).mono ?_
  rintro e w' ⟨rfl, rfl⟩
  go_wp2_with fail
  exact bodyPost_ret (v := .tuple #[.slice A2 (natL (pairN x y)).length c2, .int .i64 0]) (by simp [results, Try.results25, go_sem]) rfl ⟨A2, c2, rfl, o2.mono z1.size, z1.trans (z2.mono z1.size)⟩
end Go.Proofs.Ytpleclmlcojkdaa

/-
  Contracts of impl's tupleNumber, TupleNumber, TupleOf, SequenceNumber, SequenceOf.
-/
namespace Go.Proofs.Ytpleclmlcojkdaa
open Go.RowKit

theorem sizeRows_any (A : Option Addr) (n c : Nat) (w : World) (_h : n ≤ 9223372036854775807) :
    Calls Try.prog 101 #[.slice A n c] w fun e w' => e = .returned (.int .i64 n) ∧ w = w' := by
  go_enter Try.func101, Try.ntmps101
  go_wp2
  go_ret
  exact ⟨rfl, rfl⟩
/-- The number of a list with a last one, where pl is added to each pair. -/
def foldN (l0 pl : Nat) : List Nat → Nat
  | [] => l0
  | x :: t => pairN x (foldN l0 pl t) + pl
theorem foldN_seq : ∀ xs, foldN 0 1 xs = seqN xs
  | [] => rfl
  | x :: t => by rw [foldN, foldN_seq t]; rfl
theorem foldN_tup (l : Nat) : ∀ xs, foldN l 0 xs = tupN (xs ++ [l])
  | [] => rfl
  | x :: t => by
    rw [foldN, foldN_tup l t, List.cons_append, tupN_cons (by simp)]; rfl
theorem drop_cons {vs : List Nat} {i v : Nat} (h : vs[i]? = some v) : vs.drop i = v :: vs.drop (i + 1) := by
  obtain ⟨hi, rfl⟩ := List.getElem?_eq_some_iff.1 h
  exact List.drop_eq_getElem_cons hi
theorem NatRows.at_ {ts : List Sl} {vs : List Nat} (h : NatRows ts vs) {k : Nat} {t : Sl} (ht : ts[k]? = some t) : ∃ v, vs[k]? = some v ∧ t.xs = natL v ∧ t.xs.length ≤ 40 := by
  have h1 : (nums ts)[k]? = some t.xs := by unfold nums; rw [List.getElem?_map, ht]; rfl
  rw [h.1, List.getElem?_map] at h1
  cases hv : vs[k]? with
  | none => rw [hv] at h1; cases h1
  | some v =>
    rw [hv] at h1
    have e : natL v = t.xs := by simpa using h1
    exact ⟨v, rfl, e.symm, by rw [← e]; exact h.2 v (List.mem_of_getElem? hv)⟩
theorem NatRows.len {ts : List Sl} {vs : List Nat} (h : NatRows ts vs) : ts.length = vs.length := by
  have := congrArg List.length h.1
  simpa [nums] using this
/-- A natural in new memory, and the code OK. -/
def NewNOk (w : World) (x : Nat) (e : Ending) (w' : World) : Prop :=
  ∃ A c, e = .returned (.tuple #[.slice A (natL x).length c, .int .i64 0]) ∧ Own w' w.heap.size 2 1 A (natL x).length c (ints (natL x)) ∧ Below w.heap.size w w'
set_option maxRecDepth 100000 in
set_option maxHeartbeats 4000000 in
theorem tupleNumber_any (A : Option Addr) (n c l0 : Nat) (B : Option Addr) (m d pl : Nat) (F : Option Addr) (k kc : Nat) (ts : List Sl) (vs : List Nat) (w : World) (hx : SI w A n (natL l0)) (hy : SI w B m (natL pl)) (hz : SII w F k ts) (hn : n ≤ 40) (hm : m ≤ 40) (hk : k ≤ 100)
    (hv : NatRows ts vs) (hb : ∀ j, (natL (foldN l0 pl (vs.drop j))).length ≤ 40) :
    Calls Try.prog 102 #[.slice A n c, .slice B m d, .slice F k kc] w (NewNOk w (foldN l0 pl vs)) := by
  have HLX := Lib.hid hx.len
  have HY := Lib.hid hy
  have HZ := Lib.hid hz
  have HV := Lib.hid hv
  have HB := Lib.hid hb
  have HVL : Hid (vs.length = k) := Lib.hid (by rw [← hv.len, hz.len])
  have HCL := Lib.hid (cloneI_any A n c (natL l0) w hx (by omega))
  have wk : IntKind.i64.wrap ((k : Int) - 1) = (k : Int) - 1 := IntWalk.i64_in _ (by omega)
  clear hx hy hz hv hb
  go_enter Try.func102, Try.ntmps102
  go_wp2_with (go_at_call 107; refine HCL.out.mono ?_; rintro e w2 ⟨D, dc, rfl, o2, z2⟩)
  have HO2 : Hid (Own w2 w.heap.size 2 1 D (natL (foldN l0 pl (vs.drop k))).length dc (ints (natL (foldN l0 pl (vs.drop k))))) := Lib.hid (by
    rw [List.drop_eq_nil_of_le (by rw [HVL.out]; exact Nat.le_refl _)]; exact o2)
  have HE0 : Hid ((natL l0).length = (natL (foldN l0 pl (vs.drop k))).length) := Lib.hid (by rw [List.drop_eq_nil_of_le (by rw [HVL.out]; exact Nat.le_refl _)]; rfl)
  rw [HE0.out]
  clear o2 HCL
  go_wp2_with fail
  go_loopw [8, 9] (fun v s wr => ∃ (j : Nat) (E : Option Addr) (ec : Nat), j ≤ k ∧ s = .int .i64 ((j : Int) - 1) ∧ v = .slice E (natL (foldN l0 pl (vs.drop j))).length ec ∧ Hid (Own wr w.heap.size 2 1 E (natL (foldN l0 pl (vs.drop j))).length ec (ints (natL (foldN l0 pl (vs.drop j))))) ∧ Below w.heap.size w wr) (fun _ s _ => (intOf s + 1).toNat)
  case atStart => exact ⟨k, D, dc, Nat.le_refl _, rfl, rfl, HO2, z2⟩
  case round =>
    obtain ⟨j, E, ec, hj, rfl, rfl, HO, hz⟩ := hrel
    clear HO2 z2
    rcases Nat.eq_zero_or_pos j with h0 | h0
    · subst h0
      have i1 : ¬ (0 : Int) ≤ ((0 : Nat) : Int) - 1 := by omega
      have HF : Hid (foldN l0 pl (vs.drop 0) = foldN l0 pl vs) := Lib.hid (by rw [List.drop_zero])
      have hl := HB.out 0
      rw [HF.out] at HO hl ⊢
      go_wp2_with fail
      refine (limited_any E _ ec wr hl).mono ?_
      rintro e w' ⟨rfl, rfl⟩
      go_wp2_with fail
      exact bodyPost_ret (v := .tuple #[.slice E (natL (foldN l0 pl vs)).length ec, .int .i64 0]) (by simp [results, Try.results102, go_sem]) rfl ⟨E, ec, rfl, HO.out, hz⟩
    obtain ⟨i, rfl⟩ : ∃ i, j = i + 1 := ⟨j - 1, by omega⟩
    have ei : ((i + 1 : Nat) : Int) - 1 = (i : Int) := by omega
    rw [ei]
    have i1 : (0 : Int) ≤ (i : Int) := by omega
    have i2 : (i : Int) < (k : Int) := by omega
    obtain ⟨t, b, off, HT, htm, rfl, hbl, hc, hrow⟩ := (HZ.out.below hz).pick (k := i) (by omega)
    obtain ⟨v, hv1, hv2, hv3⟩ := HV.out.at_ HT.out
    have HD := Lib.hid (drop_cons hv1)
    obtain ⟨N, hN⟩ : ∃ N, N = foldN l0 pl (vs.drop (i + 1)) := ⟨_, rfl⟩
    have HNN : Hid (foldN l0 pl (vs.drop i) = pairN v N + pl) := Lib.hid (by rw [HD.out, hN]; rfl)
    have hlN : (natL N).length ≤ 40 := by rw [hN]; exact HB.out _
    have hlP : (natL (pairN v N)).length ≤ 40 := sub_len (x := pairN v N + pl) (by rw [← HNN.out]; exact HB.out _) (by omega)
    rw [← hN] at HO ⊢
    have hgl : ((natL N).length : Int) ≤ 40 := by omega
    have wi : IntKind.i64.wrap ((i : Int) - 1) = (i : Int) - 1 := IntWalk.i64_in _ (by omega)
    have HRV : Hid (SI wr t.A t.xs.length (natL v)) := Lib.hid (by rw [← hv2]; exact hrow)
    have HLP := Lib.hid hlP
    have hlN' := hlN
    clear hv1 hN hrow htm hv2
    go_wp2_with fail
    refine (pairOfI_any t.A _ t.c v E _ ec N wr HRV.out HO.out.rd (by omega) (by omega)).mono ?_
    rintro e W4 ⟨A4, c4, rfl, o4, z4⟩
    have y4 := hz.trans (z4.mono hz.size)
    go_wp2_with fail
    refine (add_any A4 _ c4 (pairN v N) B m d pl W4 o4.rd (HY.out.below y4) (by have := HLP.out; omega) (by omega)).mono ?_
    rintro e W5 ⟨A5, c5, rfl, o5, z5⟩
    have HO5 : Hid (Own W5 w.heap.size 2 1 A5 (natL (foldN l0 pl (vs.drop i))).length c5 (ints (natL (foldN l0 pl (vs.drop i))))) := Lib.hid (by rw [HNN.out]; exact o5.mono y4.size)
    have y5 := y4.trans (z5.mono y4.size)
    have HEL : Hid ((natL (pairN v N + pl)).length = (natL (foldN l0 pl (vs.drop i))).length) := Lib.hid (by rw [HNN.out])
    rw [HEL.out]
    clear o5 z5 o4 z4 y4 hc hgl
    go_wp2_with fail
    go_roundw
    case rel => exact ⟨i, A5, c5, by omega, by go_num, rfl, HO5, y5⟩
    case measure => (simp [intOf] <;> omega)
theorem SII.takeN {w : World} {A : Option Addr} {n k : Nat} {ts : List Sl} (h : SII w A n ts) (hk : k ≤ n) : SII w A k (ts.take k) := by
  have h1 := h.1.cut (i := 0) (j := k) (A' := A) (Nat.zero_le _) hk (fun _ b off e => by rw [e]; rfl)
  refine ⟨by rw [List.map_take]; simpa using h1, fun t ht => h.2 t (List.mem_of_mem_take ht)⟩
theorem NatRows.takeN {ts : List Sl} {vs : List Nat} (h : NatRows ts vs) (k : Nat) : NatRows (ts.take k) (vs.take k) :=
  ⟨by have := h.1; unfold nums at this ⊢; rw [List.map_take, this, List.map_take], fun v hv => h.2 v (List.mem_of_mem_take hv)⟩
/-- A few small numbers. -/
def Few5 (vs : List Nat) : Prop := 1 ≤ vs.length ∧ vs.length ≤ 5 ∧ ∀ v ∈ vs, v ≤ 39
theorem tup_len {l : Nat} {vs : List Nat} (h : ∀ v ∈ vs ++ [l], v ≤ 39) (hl : vs.length ≤ 4) (j : Nat) : (natL (foldN l 0 (vs.drop j))).length ≤ 12 := by
  rw [foldN_tup]
  refine small_len (k := (vs.drop j ++ [l]).length) (tupN_lt _ (fun v hv => h v ?_)) (by simp; omega)
  rcases List.mem_append.1 hv with h1 | h1
  · exact List.mem_append_left _ (List.mem_of_mem_drop h1)
  · exact List.mem_append_right _ h1
theorem seq_len {vs : List Nat} (h : ∀ v ∈ vs, v ≤ 39) (hl : vs.length ≤ 5) (j : Nat) : (natL (foldN 0 1 (vs.drop j))).length ≤ 12 := by
  rw [foldN_seq]
  exact small_len (k := (vs.drop j).length) (seqN_lt _ (fun v hv => h v (List.mem_of_mem_drop hv))) (by simp; omega)
set_option maxRecDepth 100000 in
set_option maxHeartbeats 4000000 in
theorem TupleNumberI_any (F : Option Addr) (k kc : Nat) (ts : List Sl) (vs : List Nat) (w : World) (hz : SII w F k ts) (hv : NatRows ts vs) (h5 : Few5 vs) (hkc : k ≤ kc) :
    Calls Try.prog 28 #[.slice F k kc] w (NewNOk w (tupN vs)) := by
  have hvl : vs.length = k := by rw [← hv.len, hz.len]
  obtain ⟨i, rfl⟩ : ∃ i, k = i + 1 := ⟨k - 1, by have := h5.1; omega⟩
  have hi4 : i ≤ 4 := by have := h5.2.1; omega
  obtain ⟨t, b, off, HT, htm, rfl, hbl, hc, hrow⟩ := hz.pick (k := i) (by omega)
  obtain ⟨l, hl1, hl2, hl3⟩ := hv.at_ HT.out
  have hsp : vs = vs.take i ++ [l] := by
    have h := List.take_append_drop i vs
    rw [drop_cons hl1, List.drop_eq_nil_of_le (by omega)] at h
    exact h.symm
  have HN := Lib.hid (naturals_any _ (i + 1) kc ts vs w hz (by omega) hv)
  have HTN : Hid (∀ w1, Below w.heap.size w w1 → Calls Try.prog 102 #[.slice t.A t.xs.length t.c, .slice none 0 0, .slice (some ⟨b, off, none⟩) i kc] w1 (NewNOk w1 (foldN l 0 (vs.take i)))) := Lib.hid (fun w1 z1 =>
    tupleNumber_any t.A t.xs.length t.c l none 0 0 0 (some ⟨b, off, none⟩) i kc (ts.take i) (vs.take i) w1 (by rw [← hl2]; exact hrow.below z1) (by rw [natL_zero]; exact SI.nil) ((hz.below z1).takeN (by omega)) hl3 (by omega) (by omega) (hv.takeN i) (fun j => Nat.le_trans (tup_len (by rw [← hsp]; exact h5.2.2) (by rw [List.length_take]; omega) j) (by omega)))
  have HF : Hid (foldN l 0 (vs.take i) = tupN vs) := Lib.hid (by rw [foldN_tup, ← hsp])
  have HW := Lib.hid (inB_iff ((i + 1 : Nat) : Int) 1 8)
  have hin : inB ((i + 1 : Nat) : Int) 1 8 = true := (inB_iff _ _ _).2 (by omega)
  have HIN := Lib.hid hin
  obtain ⟨K, hK⟩ : ∃ K, K = i + 1 := ⟨_, rfl⟩
  rw [← hK] at HN HIN ⊢
  have hK5 : K ≤ 5 := by omega
  have wk : IntKind.i64.wrap ((K : Int) - 1) = (i : Int) := by rw [show (K : Int) - 1 = (i : Int) by omega]; exact IntWalk.i64_in _ (by omega)
  have i1 : (0 : Int) ≤ (i : Int) := by omega
  have i2 : (i : Int) < (K : Int) := by omega
  have i3 : ¬ (kc : Int) < (i : Int) := by omega
  have i4 : ¬ (i : Int) < 0 := by omega
  have HC := Lib.hid (fun w' (z : Below w.heap.size w w') => (z.cell (p := ⟨b, off + i, none⟩) hbl).trans hc)
  clear hin hz hv h5 hvl hsp hl1 hl2 hl3 hrow htm HT HW hK
  go_enter Try.func28, Try.ntmps28
  go_wp2_with fail
  refine HN.out.mono ?_
  rintro e w' ⟨rfl, rfl⟩
  go_wp2_with fail
  refine (sizeRows_any _ _ _ _ (by omega)).mono ?_
  rintro e w' ⟨rfl, rfl⟩
  go_wp2_with fail
  refine (within_is HIN.out _).mono ?_
  rintro e w' ⟨rfl, rfl⟩
  go_upto_region 6 with fail
  have hp : Below w.heap.size w (w.drewN 1) := below_drewN (Below.refl _ _) 1
  go_region_held3 (fun w' => w'.cell? ⟨b, off + i, none⟩ = some (.slice t.A t.xs.length t.c))
    (first
      | (go_keep; done)
      | (exact HC.out _ zz6))
    (first | (go_at_call 102; refine (HTN.out _ hp).mono ?_; rw [HF.out]; rintro e w6 ⟨A6, c6, rfl, o6, z6⟩; have zz6 : Below w.heap.size w w6 := below_undrew z6))
  go_wp2_with fail
  exact bodyPost_ret (v := .tuple #[.slice A6 (natL (tupN vs)).length c6, .int .i64 0]) (by simp [results, Try.results28, go_sem]) rfl ⟨A6, c6, rfl, o6, zz6⟩
set_option maxRecDepth 100000 in
set_option maxHeartbeats 2000000 in
theorem SequenceNumberI_any (F : Option Addr) (k kc : Nat) (ts : List Sl) (vs : List Nat) (w : World) (hz : SII w F k ts) (hv : NatRows ts vs) (h5 : Few5 vs) :
    Calls Try.prog 31 #[.slice F k kc] w (NewNOk w (seqN vs)) := by
  have hvl : vs.length = k := by rw [← hv.len, hz.len]
  have hk5 : k ≤ 5 := by have := h5.2.1; omega
  have HN := Lib.hid (naturals_any _ k kc ts vs w hz (by omega) hv)
  have HTN : Hid (∀ w1 B d, Below w.heap.size w w1 → SI w1 B 1 (natL 1) → Calls Try.prog 102 #[.slice none 0 0, .slice B 1 d, .slice F k kc] w1 (NewNOk w1 (foldN 0 1 vs))) := Lib.hid (fun w1 B d z1 hB =>
    tupleNumber_any none 0 0 0 B 1 d 1 F k kc ts vs w1 (by rw [natL_zero]; exact SI.nil) hB (hz.below z1) (by omega) (by omega) (by omega) hv (fun j => Nat.le_trans (seq_len h5.2.2 h5.2.1 j) (by omega)))
  rw [foldN_seq] at HTN
  have lo : (natL 1).length = 1 := by rw [natL_one]; rfl
  have HLO := Lib.hid lo
  have i3 : ¬ (8 : Int) < (k : Int) := by omega
  clear hz hv h5 hvl lo
  go_enter Try.func31, Try.ntmps31
  go_wp2_with fail
  refine HN.out.mono ?_
  rintro e w' ⟨rfl, rfl⟩
  go_wp2_with fail
  refine (one_nat w).mono ?_
  rintro e W1 ⟨A1, c1, rfl, o1, z1⟩
  rw [HLO.out] at o1 ⊢
  go_wp2_with fail
  refine (HTN.out W1 A1 c1 z1 o1.rd).mono ?_
  rintro e w6 ⟨A6, c6, rfl, o6, z6⟩
  go_wp2_with fail
  exact bodyPost_ret (v := .tuple #[.slice A6 (natL (seqN vs)).length c6, .int .i64 0]) (by simp [results, Try.results31, go_sem]) rfl ⟨A6, c6, rfl, o6.mono z1.size, z1.trans (z6.mono z1.size)⟩
end Go.Proofs.Ytpleclmlcojkdaa
