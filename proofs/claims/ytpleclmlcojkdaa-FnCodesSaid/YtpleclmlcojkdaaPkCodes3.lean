/-
  Contracts of the reference's l02Is, l02Mul.
-/
import Derived.Test.YtpleclmlcojkdaaPbNatE4
import Derived.Test.YtpleclmlcojkdaaPbNatE5
import Derived.Test.YtpleclmlcojkdaaPkCodes1
import Derived.Test.YtpleclmlcojkdaaPkCodes2
import Derived.Deep.CutBlock
namespace Go.Proofs.Ytpleclmlcojkdaa
open Go.RowKit

theorem lims_z (y : Nat) : lims (natL y ++ [0]) := (lims_natL y).snoc (by omega)
theorem val_z (b : List Int) : val (b ++ [0]) = val b := by rw [val_snoc]; simp
theorem val_take_z {b : List Int} {k : Nat} (hk : b.length ≤ k) : val ((b ++ [0]).take k) = val b := by
  rw [List.take_append, List.take_of_length_le hk]
  cases h : k - b.length with
  | zero => simp
  | succ i => rw [show ([0] : List Int).take (i + 1) = [0] by simp, val_z]
theorem MulI.boundz {a b arr : List Int} {i k : Nat} {c : Int} (h : MulI a (b ++ [0]) i (val (a.take i) * val b) k arr c) (ha : lims a) (hb : lims b) (hi : i < a.length) (hc : 0 < c) : k ≤ b.length + 1 := by
  have h2 := MulI.bound (b := b ++ [0]) (by rw [val_z]; exact h) ha (hb.snoc (by omega)) hi hc
  rw [List.length_append] at h2; exact h2
theorem MulI.stepz {a b arr : List Int} {i k : Nat} {v0 c : Int} (h : MulI a (b ++ [0]) i v0 k arr c) (ha : lims a) (hb : lims b) (hi : i < a.length) (hk : b.length ≤ k) (hj : i + k < arr.length) :
    MulI a (b ++ [0]) i v0 (k + 1) (arr.set (i + k) ((c + arr[i + k]) % 1000000)) ((c + arr[i + k]) / 1000000) := by
  by_cases h1 : k = b.length
  · have h2 := (h.step1 ha (hb.snoc (by omega)) hi (by rw [List.length_append, h1]; simp) hj).1
    have h3 : (b ++ [0])[k]'(by rw [List.length_append, h1]; simp) = 0 := by rw [List.getElem_append_right (by omega)]; simp
    rw [h3, Int.mul_zero, Int.add_zero] at h2
    exact h2
  · exact h.step2 (by rw [List.length_append, List.length_singleton]; omega) hj
theorem MulI.endz {a b arr : List Int} {i k : Nat} (h : MulI a (b ++ [0]) i (val (a.take i) * val b) k arr 0) (hi : i < a.length) (hk : b.length ≤ k) : val arr = val (a.take (i + 1)) * val b := by
  have e := h.eq
  rw [val_take_z hk, mul_next hi] at e
  simpa using e
set_option maxRecDepth 100000 in
set_option maxHeartbeats 2000000 in
theorem l02Is_any (A : Option Addr) (n c x : Nat) (w : World) (hx : SI w A n (natL x)) (hn : n ≤ 40) :
    Calls Try.prog 127 #[.slice A n c] w fun e w' => e = .returned (.bool true) ∧ w = w' := by
  have HLX := Lib.hid hx.len
  have HX := Lib.hid hx
  have i40 : ¬ (40 : Int) < (n : Int) := by omega
  have HT := Lib.hid (tight_natL x)
  have HL := Lib.hid (lims_natL x)
  clear hx
  go_enter Try.func127, Try.ntmps127
  go_wp2_with fail
  go_loop [3] (fun s => ∃ k : Nat, k ≤ n ∧ s = .int .i64 (k : Int)) (fun s => n - (intOf s).toNat)
  case atStart => exact ⟨0, Nat.zero_le _, rfl⟩
  case round =>
    obtain ⟨k, hk, rfl⟩ := hrel
    by_cases hlt : k < n
    · have i1 : (k : Int) < (n : Int) := by omega
      have i2 : (0 : Int) ≤ (k : Int) := by omega
      have wk : IntKind.i64.wrap ((k : Int) + 1) = (k : Int) + 1 := IntWalk.i64_in _ (by omega)
      obtain ⟨g, o, hAE, _, hc⟩ := HX.out.at_ hlt
      have hr := HL.out.at_ (k := k) (by rw [HLX.out]; exact hlt)
      obtain ⟨v, hv⟩ : ∃ v, (natL x)[k]'(by rw [HLX.out]; exact hlt) = v := ⟨_, rfl⟩
      rw [hv] at hc hr
      have hin : inB v 0 999999 = true := (inB_iff _ _ _).2 (by omega)
      have HIN := Lib.hid hin
      clear hv hin hr
      subst hAE
      go_wp2_with fail
      refine (l00In_is HIN.out _).mono ?_
      rintro e w' ⟨rfl, rfl⟩
      go_wp2_with fail
      go_round
      case rel => exact ⟨k + 1, by omega, by go_num⟩
      case measure => simp [intOf]; omega
    · obtain rfl : k = n := by omega
      have i1 : ¬ (k : Int) < (k : Int) := by omega
      rcases Nat.eq_zero_or_pos k with h0 | h0
      · subst h0
        go_wp2_with fail
        go_ret
        exact ⟨rfl, rfl⟩
      · obtain ⟨j, hj⟩ : ∃ j, j = k - 1 := ⟨_, rfl⟩
        have hjk : j < k := by omega
        have k0 : ((k : Int) == 0) = false := by simp; omega
        have wj : IntKind.i64.wrap ((k : Int) - 1) = (j : Int) := by rw [show (k : Int) - 1 = (j : Int) by omega]; exact IntWalk.i64_in _ (by omega)
        have j0 : (0 : Int) ≤ (j : Int) := by omega
        have j1 : (j : Int) < (k : Int) := by omega
        obtain ⟨g, o, hAE, _, hc⟩ := HX.out.at_ hjk
        obtain ⟨v, hv⟩ : ∃ v, (natL x)[j]'(by rw [HLX.out]; exact hjk) = v := ⟨_, rfl⟩
        rw [hv] at hc
        have hne : natL x ≠ [] := fun h => by have h1 := HLX.out; rw [h] at h1; simp at h1; omega
        have hv0 : v ≠ 0 := by
          have h1 := HT.out hne
          rw [List.getLast_eq_getElem] at h1
          rw [← hv]
          intro h2
          refine h1 ?_
          rw [← h2]
          congr 1
          rw [HLX.out]; omega
        have e0 : (v != 0) = true := by simpa using hv0
        clear hv hv0 hne hj
        subst hAE
        go_wp2_with fail
        go_ret
        exact ⟨rfl, rfl⟩
set_option maxRecDepth 100000 in
set_option maxHeartbeats 4000000 in
theorem l02Mul_any (A : Option Addr) (n c x : Nat) (B : Option Addr) (m d y : Nat) (w : World) (hx : SI w A n (natL x)) (hy : SI w B m (natL y)) (hn : n ≤ 1000) (hm : m ≤ 1000) :
    Calls Try.prog 181 #[.slice A n c, .slice B m d] w (NewN w (x * y)) := by
  have HLX := Lib.hid hx.len
  have HLY := Lib.hid hy.len
  obtain ⟨N0, hN0⟩ : ∃ N0, N0 = n + m := ⟨_, rfl⟩
  obtain ⟨N, hN⟩ : ∃ N, N = n + m + 1 := ⟨_, rfl⟩
  have wN0 : IntKind.i64.wrap ((n : Int) + (m : Int)) = (N0 : Int) := by rw [show (n : Int) + (m : Int) = (N0 : Int) by omega]; exact IntWalk.i64_in _ (by omega)
  have wN : IntKind.i64.wrap ((N0 : Int) + 1) = (N : Int) := by rw [show (N0 : Int) + 1 = (N : Int) by omega]; exact IntWalk.i64_in _ (by omega)
  have HN := Lib.hid hN
  have hN2 : N ≤ 2001 := by omega
  clear hN0
  clear hN
  go_enter Try.func181, Try.ntmps181
  go_upto_region 2 with (at_make; refine wpList_make_Own rfl (.tmp 15) (.tmp 15) rfl elI (n := N) (lo := w.heap.size) rfl rfl (by omega) (by unfold maxLen; omega) (Nat.le_refl _) ?_; intro w2 ho2 hb2 hs2)
  rw [made_zeros] at ho2
  generalize hD : (some ⟨w.heap.size, 0, none⟩ : Option Addr) = D at *
  clear hD hs2 wN wN0
  go_upto_region 3 with fail
  go_loopw [6] (fun s wr => ∃ (j : Nat) (arr : List Int), j ≤ n ∧ s = .int .i64 (j : Int) ∧ Own wr w.heap.size 2 1 D N N (ints arr) ∧ Below w.heap.size w wr ∧ Hid (lims arr) ∧ Hid (val arr = val ((natL x).take j) * val (natL y))) (fun s _ => n - (intOf s).toNat)
  case atStart => exact ⟨0, _, Nat.zero_le _, rfl, ho2, hb2, Lib.hid (lims_zeros _), Lib.hid (by rw [val_zeros, List.take_zero]; show 0 = 0 * _; simp)⟩
  case round =>
    obtain ⟨j, arr, hj, rfl, ho, hz, HLM, HV⟩ := hrel
    clear ho2 hb2
    by_cases hlt : j < n
    rotate_left
    · obtain rfl : j = n := by omega
      have i1 : ¬ (j : Int) < (j : Int) := by omega
      have HE : Hid ((val arr).toNat = x * y) := Lib.hid (by
        rw [HV.out, List.take_of_length_le (by rw [HLX.out]; exact Nat.le_refl _), val_natL, val_natL, ← Int.natCast_mul, Int.toNat_natCast])
      go_wp2_with fail
      refine (l02Trim_any D N N w.heap.size arr wr ho HLM.out (by omega)).mono ?_
      rw [HE.out]
      rintro e w' ⟨rfl, ho5, rfl⟩
      go_wp2_with fail
      go_ret
      exact ⟨D, N, rfl, ho5, hz⟩
    have hal : arr.length = N := (show SI wr D N arr from ho.rd).len
    have HAL : Hid (arr.length = (natL x).length + (natL y ++ [0]).length) := Lib.hid (by rw [hal, List.length_append, HLX.out, HLY.out, HN.out]; rfl)
    have i1 : (j : Int) < (n : Int) := by omega
    have i2 : (0 : Int) ≤ (j : Int) := by omega
    obtain ⟨ba, oa, rfl, _, hca⟩ := (hx.below hz).at_ hlt
    obtain ⟨p, hp⟩ : ∃ p, (natL x)[j]'(by rw [HLX.out]; omega) = p := ⟨_, rfl⟩
    have hpr := (lims_natL x).at_ (k := j) (by rw [HLX.out]; omega)
    rw [hp] at hca hpr
    have HP := Lib.hid hp
    have H0 : Hid (MulI (natL x) (natL y ++ [0]) j (val ((natL x).take j) * val (natL y)) 0 arr 0) := Lib.hid (by have := MulI.start (i := j) HAL.out HLM.out; rw [HV.out] at this; exact this)
    clear hp
    go_upto_region 7 with fail
    clear hca
    have hjn : j < n := hlt
    go_loopw [7, 8] (fun cc kk wr => ∃ (k : Nat) (out : List Int) (cy : Int), kk = .int .i64 (k : Int) ∧ cc = .int .i64 cy ∧ Own wr w.heap.size 2 1 D N N (ints out) ∧ Below w.heap.size w wr ∧ k ≤ m + 2 ∧ 0 ≤ cy ∧ cy < 1000000 ∧ Hid (MulI (natL x) (natL y ++ [0]) j (val ((natL x).take j) * val (natL y)) k out cy)) (fun _ kk _ => m + 3 - (intOf kk).toNat)
    case atStart => exact ⟨0, arr, 0, rfl, rfl, ho, hz, by omega, by omega, by omega, H0⟩
    case round =>
      obtain ⟨k, out, cy, rfl, rfl, ho3, hz3, hkm, hc0, hc1, HS⟩ := hrel
      clear ho hz H0
      have hol : out.length = N := (show SI _ D N out from ho3.rd).len
      by_cases hk : k < m
      · have i3 : (k : Int) < (m : Int) := by omega
        have i4 : (0 : Int) ≤ (k : Int) := by omega
        obtain ⟨q, hq⟩ : ∃ q, q = j + k := ⟨_, rfl⟩
        have hqN : q < N := by have := HN.out; omega
        obtain ⟨g, o, rfl, hgl, _, hcq, hfq⟩ := ho3.at_ (k := q) (by rw [length_ints]; omega)
        obtain ⟨bb, ob, rfl, _, hcb⟩ := (hy.below hz3).at_ hk
        obtain ⟨ba', oa', e', _, hca3⟩ := (hx.below hz3).at_ hlt
        simp only [Option.some.injEq, Addr.mk.injEq, and_true] at e'
        obtain ⟨rfl, rfl⟩ := e'
        rw [HP.out] at hca3
        have HST := Lib.hid (HS.out.step1 (lims_natL x) (lims_z y) (by rw [HLX.out]; omega) (by rw [List.length_append, HLY.out]; omega) (show j + k < out.length by omega))
        rw [ints_get] at hcq
        obtain ⟨u, hu⟩ : ∃ u, out[q]'(by omega) = u := ⟨_, rfl⟩
        obtain ⟨v, hv⟩ : ∃ v, (natL y)[k]'(by rw [HLY.out]; omega) = v := ⟨_, rfl⟩
        have hur := HS.out.lim.at_ (k := q) (by omega)
        have hvr := (lims_natL y).at_ (k := k) (by rw [HLY.out]; omega)
        obtain ⟨t, ht⟩ : ∃ t, cy + u + p * v = t := ⟨_, rfl⟩
        have HST2 : Hid (MulI (natL x) (natL y ++ [0]) j (val ((natL x).take j) * val (natL y)) (k + 1) (out.set q (t % 1000000)) (t / 1000000) ∧ 0 ≤ t ∧ t < 1000000000000) := Lib.hid (by
          subst hq; subst hu; have h := HST.out; rw [HP.out, List.getElem_append_left (by rw [HLY.out]; omega), hv, ht] at h; exact h)
        have hpv0 : 0 ≤ p * v := by rw [← hv]; exact Int.mul_nonneg hpr.1 hvr.1
        have hpv1 : p * v ≤ 999999 * 999999 := by rw [← hv]; exact Int.mul_le_mul (by omega) (by omega) hvr.1 (by omega)
        have ht0 := HST2.out.2.1
        have ht1 := HST2.out.2.2
        rw [hu] at hcq hur
        rw [hv] at hcb
        have wq : IntKind.i64.wrap ((j : Int) + (k : Int)) = (q : Int) := by rw [show (j : Int) + (k : Int) = (q : Int) by omega]; exact IntWalk.i64_in _ (by omega)
        obtain ⟨cu, hcu⟩ : ∃ cu, cy + u = cu := ⟨_, rfl⟩
        obtain ⟨pv, hpv⟩ : ∃ pv, p * v = pv := ⟨_, rfl⟩
        rw [hpv] at hpv0 hpv1
        have w1 : IntKind.i64.wrap (u + cy) = cu := by rw [Int.add_comm, hcu]; exact IntWalk.i64_in _ (by omega)
        have w2' : IntKind.i64.wrap (p * v) = pv := by rw [hpv]; exact IntWalk.i64_in _ (by omega)
        have w3 : IntKind.i64.wrap (cu + pv) = t := by rw [← hcu, ← hpv, ht]; exact IntWalk.i64_in _ (by omega)
        have wm : IntKind.i64.wrap (Int.tmod t 1000000) = t % 1000000 := by rw [Int.tmod_eq_emod_of_nonneg ht0]; exact IntWalk.i64_in _ (by omega)
        have wd : IntKind.i64.wrap (Int.tdiv t 1000000) = t / 1000000 := by rw [Int.tdiv_eq_ediv_of_nonneg ht0]; exact IntWalk.i64_in _ (by omega)
        have wk : IntKind.i64.wrap ((k : Int) + 1) = (k : Int) + 1 := IntWalk.i64_in _ (by omega)
        have q0 : (0 : Int) ≤ (q : Int) := by omega
        have q1 : (q : Int) < (N : Int) := by omega
        have ho5 := ho3.set_ (k := q) (by rw [length_ints]; omega) (.int .i64 (t % 1000000))
        rw [ints_set] at ho5
        have hz5 := hz3.setCell (p := ⟨g, o + q, none⟩) hgl (.int .i64 (t % 1000000))
        have HST3 := Lib.hid HST2.out.1
        have hd0 : 0 ≤ t / 1000000 ∧ t / 1000000 < 1000000 := by omega
        clear hu hv ht hcu hpv hur hvr hq HST HST2 hpv0 hpv1
        go_upto_region 11 with fail
        go_quiet (fail)
        go_wp2_with fail
        go_roundw
        case rel => exact ⟨k + 1, out.set q (t % 1000000), t / 1000000, by go_num, by first | rfl | rw [wd], ho5, ((below_drewN hz3 _).setCell (p := ⟨g, o + q, none⟩) hgl _), by omega, hd0.1, hd0.2, HST3⟩
        case measure => (simp [intOf] <;> omega)
      · have i3 : ¬ (k : Int) < (m : Int) := by omega
        by_cases hcy : 0 < cy
        · have hkb := MulI.boundz HS.out (lims_natL x) (lims_natL y) (by rw [HLX.out]; omega) hcy
          rw [HLY.out] at hkb
          obtain ⟨q, hq⟩ : ∃ q, q = j + k := ⟨_, rfl⟩
          have hqN : q < N := by have := HN.out; omega
          obtain ⟨g, o, rfl, hgl, _, hcq, hfq⟩ := ho3.at_ (k := q) (by rw [length_ints]; omega)
          have HST := Lib.hid (HS.out.stepz (lims_natL x) (lims_natL y) (by rw [HLX.out]; omega) (by rw [HLY.out]; omega) (show j + k < out.length by omega))
          rw [ints_get] at hcq
          obtain ⟨u, hu⟩ : ∃ u, out[q]'(by omega) = u := ⟨_, rfl⟩
          have hur := HS.out.lim.at_ (k := q) (by omega)
          obtain ⟨t, ht⟩ : ∃ t, cy + u = t := ⟨_, rfl⟩
          have HST3 : Hid (MulI (natL x) (natL y ++ [0]) j (val ((natL x).take j) * val (natL y)) (k + 1) (out.set q (t % 1000000)) (t / 1000000)) := Lib.hid (by
            subst hq; subst hu; have h := HST.out; rw [ht] at h; exact h)
          rw [hu] at hcq hur
          have ht0 : 0 ≤ t := by omega
          have ht1 : t < 2000000 := by omega
          have wq : IntKind.i64.wrap ((j : Int) + (k : Int)) = (q : Int) := by rw [show (j : Int) + (k : Int) = (q : Int) by omega]; exact IntWalk.i64_in _ (by omega)
          have w1 : IntKind.i64.wrap (u + cy) = t := by rw [Int.add_comm, ht]; exact IntWalk.i64_in _ (by omega)
          have wm : IntKind.i64.wrap (Int.tmod t 1000000) = t % 1000000 := by rw [Int.tmod_eq_emod_of_nonneg ht0]; exact IntWalk.i64_in _ (by omega)
          have wd : IntKind.i64.wrap (Int.tdiv t 1000000) = t / 1000000 := by rw [Int.tdiv_eq_ediv_of_nonneg ht0]; exact IntWalk.i64_in _ (by omega)
          have wk : IntKind.i64.wrap ((k : Int) + 1) = (k : Int) + 1 := IntWalk.i64_in _ (by omega)
          have q0 : (0 : Int) ≤ (q : Int) := by omega
          have q1 : (q : Int) < (N : Int) := by omega
          have ho5 := ho3.set_ (k := q) (by rw [length_ints]; omega) (.int .i64 (t % 1000000))
          rw [ints_set] at ho5
          have hz5 := hz3.setCell (p := ⟨g, o + q, none⟩) hgl (.int .i64 (t % 1000000))
          have hd0 : 0 ≤ t / 1000000 ∧ t / 1000000 < 1000000 := by omega
          clear hu ht hur hq HST
          go_wp2_with fail
          go_roundw
          case rel => exact ⟨k + 1, out.set q (t % 1000000), t / 1000000, by go_num, by first | rfl | rw [wd], ho5, hz5, by omega, hd0.1, hd0.2, HST3⟩
          case measure => (simp [intOf] <;> omega)
        · obtain rfl : cy = 0 := by omega
          have HE : Hid (val out = val ((natL x).take (j + 1)) * val (natL y)) := Lib.hid (HS.out.endz (by rw [HLX.out]; omega) (by rw [HLY.out]; omega))
          have HL2 := Lib.hid HS.out.lim
          go_wp2_with fail
          go_roundw
          case rel => exact ⟨j + 1, out, by omega, by go_num, ho3, hz3, HL2, HE⟩
          case measure => (simp [intOf] <;> omega)
end Go.Proofs.Ytpleclmlcojkdaa

/-
  Contract of the reference's l02Add.
-/
namespace Go.Proofs.Ytpleclmlcojkdaa
open Go.RowKit

theorem val_dropD (xs : List Int) (k : Nat) : val (xs.drop k) = xs.getD k 0 + 1000000 * val (xs.drop (k + 1)) := by
  rw [List.getD_eq_getElem?_getD]
  rcases Nat.lt_or_ge k xs.length with h | h
  · rw [val_drop h, List.getElem?_eq_getElem h]; rfl
  · rw [List.getElem?_eq_none h, List.drop_eq_nil_of_le h, List.drop_eq_nil_of_le (by omega)]; rfl
theorem lims.getD {xs : List Int} (h : lims xs) (k : Nat) : 0 ≤ xs.getD k 0 ∧ xs.getD k 0 < 1000000 := by
  rw [List.getD_eq_getElem?_getD]
  rcases Nat.lt_or_ge k xs.length with h1 | h1
  · rw [List.getElem?_eq_getElem h1]; exact h.at_ h1
  · rw [List.getElem?_eq_none h1]; simp
/-- Adding limb by limb. -/
structure AddS (a b : List Int) (i : Nat) (out : List Int) (c : Int) : Prop where
  len : out.length = i
  lim : lims out
  c0 : 0 ≤ c
  c1 : c ≤ 1
  cb : 0 < c → i ≤ max a.length b.length
  eq : val out + pw i * (c + val (a.drop i) + val (b.drop i)) = val a + val b
  top : (h : out ≠ []) → out.getLast h = 0 → i < a.length ∨ i < b.length ∨ 0 < c
theorem AddS.start (a b : List Int) : AddS a b 0 [] 0 := ⟨rfl, lims_nil, by omega, by omega, fun h => by omega, by rw [List.drop_zero, List.drop_zero]; show 0 + 1 * _ = _; omega, fun h => absurd rfl h⟩
theorem AddS.step {a b out : List Int} {i : Nat} {c t : Int} (h : AddS a b i out c) (ha : lims a) (hb : lims b) (ta : tight a) (tb : tight b) (hw : i < a.length ∨ i < b.length ∨ 0 < c) (ht : t = c + a.getD i 0 + b.getD i 0) :
    AddS a b (i + 1) (out ++ [t % 1000000]) (t / 1000000) := by
  have h1 := ha.getD i
  have h2 := hb.getD i
  have h3 := h.c0
  have h4 := h.c1
  have zero : ∀ {xs : List Int}, xs.length ≤ i → xs.getD i 0 = 0 := fun {xs} hl => by rw [List.getD_eq_getElem?_getD, List.getElem?_eq_none hl]; rfl
  have topl : ∀ {xs : List Int}, tight xs → i < xs.length → xs.length ≤ i + 1 → xs.getD i 0 ≠ 0 := fun {xs} hx hl hl2 => by
    have hne : xs ≠ [] := fun h => by rw [h] at hl; simp at hl
    have := hx hne
    rw [List.getLast_eq_getElem] at this
    rw [List.getD_eq_getElem?_getD, List.getElem?_eq_getElem hl]
    intro h0
    refine this ?_
    have e : xs[xs.length - 1]'(by omega) = xs[i] := by congr 1; omega
    rw [e]; exact h0
  refine ⟨by simp [h.len], h.lim.snoc (by omega), by omega, by omega, fun hc => ?_, ?_, fun hne h0 => ?_⟩
  · rcases Nat.lt_or_ge i a.length with hl | hl
    · omega
    · rcases Nat.lt_or_ge i b.length with hl2 | hl2
      · omega
      · have := zero hl; have := zero hl2; omega
  · have e := h.eq
    rw [val_dropD a i, val_dropD b i] at e
    rw [val_snoc, h.len, pw_succ]
    obtain ⟨P, hP⟩ : ∃ P, pw i = P := ⟨_, rfl⟩
    obtain ⟨X, hX⟩ : ∃ X, val (a.drop (i + 1)) = X := ⟨_, rfl⟩
    obtain ⟨Y, hY⟩ : ∃ Y, val (b.drop (i + 1)) = Y := ⟨_, rfl⟩
    rw [hP, hX, hY] at e
    rw [hP, hX, hY, ← e]
    have ec := car_id P (val out) t (X + Y)
    have e1 : c + (a.getD i 0 + 1000000 * X) + (b.getD i 0 + 1000000 * Y) = t + 1000000 * (X + Y) := by omega
    have e2 : t / 1000000 + X + Y = t / 1000000 + (X + Y) := by omega
    rw [e1, e2]
    exact ec.symm
  · have h0 : t % 1000000 = 0 := by simpa [List.getLast_append] using h0
    rcases Nat.lt_or_ge (i + 1) a.length with hl | hl
    · exact .inl hl
    · rcases Nat.lt_or_ge (i + 1) b.length with hl2 | hl2
      · exact .inr (.inl hl2)
      · refine .inr (.inr ?_)
        have ht0 : 0 < t := by
          rcases hw with hw | hw | hw
          · have := topl ta hw hl; omega
          · have := topl tb hw hl2; omega
          · omega
        omega
theorem AddS.end_ {x y : Nat} {out : List Int} {i : Nat} (h : AddS (natL x) (natL y) i out 0) (hx : (natL x).length ≤ i) (hy : (natL y).length ≤ i) : out = natL (x + y) := by
  have e := h.eq
  rw [List.drop_eq_nil_of_le hx, List.drop_eq_nil_of_le hy, show val [] = 0 from rfl, val_natL, val_natL] at e
  have e1 : val out = ((x + y : Nat) : Int) := by rw [Int.natCast_add, ← e]; simp
  have ht : tight out := fun hne h0 => by
    rcases h.top hne h0 with h1 | h1 | h1 <;> omega
  rw [natL_val h.lim ht, e1, Int.toNat_natCast]
set_option maxRecDepth 100000 in
set_option maxHeartbeats 4000000 in
theorem l02Add_any (A : Option Addr) (n c x : Nat) (B : Option Addr) (m d y : Nat) (w : World) (hx : SI w A n (natL x)) (hy : SI w B m (natL y)) (hn : n ≤ 1000) (hm : m ≤ 1000) :
    Calls Try.prog 109 #[.slice A n c, .slice B m d] w (NewN w (x + y)) := by
  have HX := Lib.hid hx
  have HY := Lib.hid hy
  have HLX := Lib.hid hx.len
  have HLY := Lib.hid hy.len
  clear hx hy
  obtain ⟨W1, hW_⟩ : ∃ W_, W_ = w.alloc (.cells #[] 2) := ⟨_, rfl⟩
  have b1 : Blk W1 w.heap.size 2 #[] := by rw [hW_]; exact Blk.new w _ _
  have z1 : Below w.heap.size w W1 := by rw [hW_]; exact (Below.refl _ _).alloc (Nat.le_refl _) _
  have HW1 := Lib.hid hW_
  clear hW_
  have HO1 : Hid (Own W1 w.heap.size 2 1 (some ⟨w.heap.size, 0, none⟩) ([] : List Int).length 0 (ints [])) := Lib.hid (by rw [HW1.out]; exact Own.lit0 w _ 1)
  clear b1
  go_enter Try.func109, Try.ntmps109
  go_upto_region 4 with fail
  rw [← HW1.out]
  clear HW1
  go_loopw [5, 6, 7] (fun s5 s6 s7 wr => ∃ (i : Nat) (out : List Int) (cy : Int) (E : Option Addr) (ec : Nat), s7 = .int .i64 (i : Int) ∧ s6 = .int .i64 cy ∧ s5 = .slice E out.length ec ∧ i ≤ 1001 ∧ Hid (AddS (natL x) (natL y) i out cy) ∧ Hid (Own wr w.heap.size 2 1 E out.length ec (ints out)) ∧ Below w.heap.size w wr) (fun _ _ s7 _ => 1002 - (intOf s7).toNat)
  case atStart => exact ⟨0, [], 0, _, 0, rfl, rfl, rfl, by omega, Lib.hid (AddS.start _ _), HO1, z1⟩
  case round =>
    obtain ⟨i, out, cy, E, ec, rfl, rfl, rfl, hi, HS, HO, hz⟩ := hrel
    clear HO1 z1
    have hc0 := HS.out.c0
    have hc1 := HS.out.c1
    have HOL := Lib.hid HS.out.len
    have hol : out.length ≤ 1001 := by rw [HOL.out]; exact hi
    have ho := HO.out
    have i0 : (0 : Int) ≤ (i : Int) := by omega
    by_cases hw : i < n ∨ i < m ∨ 0 < cy
    · have HW : Hid (i < (natL x).length ∨ i < (natL y).length ∨ 0 < cy) := Lib.hid (by rw [HLX.out, HLY.out]; exact hw)
      have hi2 : i ≤ 1000 := by
        rcases hw with h | h | h
        · omega
        · omega
        · have := HS.out.cb h; rw [HLX.out, HLY.out] at this; omega
      have wi : IntKind.i64.wrap ((i : Int) + 1) = (i : Int) + 1 := IntWalk.i64_in _ (by omega)
      have hax := (lims_natL x).getD i
      have hby := (lims_natL y).getD i
      obtain ⟨p, hp⟩ : ∃ p, (natL x).getD i 0 = p := ⟨_, rfl⟩
      obtain ⟨q, hq⟩ : ∃ q, (natL y).getD i 0 = q := ⟨_, rfl⟩
      rw [hp] at hax
      rw [hq] at hby
      obtain ⟨t, ht⟩ : ∃ t, t = cy + p + q := ⟨_, rfl⟩
      have HST : Hid (AddS (natL x) (natL y) (i + 1) (out ++ [t % 1000000]) (t / 1000000)) := Lib.hid (HS.out.step (lims_natL x) (lims_natL y) (tight_natL x) (tight_natL y) HW.out (by rw [hp, hq]; exact ht))
      have ht0 : 0 ≤ t := by omega
      have ht1 : t ≤ 2000000 := by omega
      have wm : IntKind.i64.wrap (Int.tmod t 1000000) = t % 1000000 := by rw [Int.tmod_eq_emod_of_nonneg ht0]; exact IntWalk.i64_in _ (by omega)
      have wd : IntKind.i64.wrap (Int.tdiv t 1000000) = t / 1000000 := by rw [Int.tdiv_eq_ediv_of_nonneg ht0]; exact IntWalk.i64_in _ (by omega)
      by_cases hxn : i < n
      · by_cases hym : i < m
        · have x1 : (i : Int) < (n : Int) := by omega
          obtain ⟨bx, ox, hxe, _, hcx⟩ := (HX.out.below hz).at_ hxn
          have hcx : wr.cell? ⟨bx, ox + i, none⟩ = some (.int .i64 p) := by rw [hcx, ← hp, List.getD_eq_getElem?_getD, List.getElem?_eq_getElem (by rw [HLX.out]; exact hxn)]; rfl
          have y1 : (i : Int) < (m : Int) := by omega
          obtain ⟨by_, oy, hye, _, hcy⟩ := (HY.out.below hz).at_ hym
          have hcy : wr.cell? ⟨by_, oy + i, none⟩ = some (.int .i64 q) := by rw [hcy, ← hq, List.getD_eq_getElem?_getD, List.getElem?_eq_getElem (by rw [HLY.out]; exact hym)]; rfl
          obtain ⟨cp, hcp⟩ : ∃ cp, cp = cy + p := ⟨_, rfl⟩
          have w1 : IntKind.i64.wrap (cy + p) = cp := by rw [hcp]; exact IntWalk.i64_in _ (by omega)
          have w2 : IntKind.i64.wrap (cp + q) = t := by rw [show cp + q = t by omega]; exact IntWalk.i64_in _ (by omega)
          clear hp hq ht hax hby hw hcp
          subst hxe
          subst hye
          go_wp2_with (at_builtin; refine wpList_append_Own rfl (.tmp 45) (.tmp 48) rfl elI (lo := w.heap.size) rfl (ho.alloc _) rfl (Rd.new1 wr _ _) (ints_one [t % 1000000]) (by omega) (by simp only [maxLen]; omega) (by have := hz.size; simp; omega) ?_; intro A3 c3 w3 ho3 hg3 hk3)
          have hz3 := (ho.alloc (.cells #[.int .i64 (t % 1000000)] 2)).below_of (hz.alloc hz.size _) hg3 (by have := hz.size; simp; omega)
          have HO3 : Hid (Own w3 w.heap.size 2 1 A3 (out ++ [t % 1000000]).length c3 (ints (out ++ [t % 1000000]))) := Lib.hid (by rw [List.length_append]; simpa [ints] using ho3)
          have hl8 : out.length + 1 = (out ++ [t % 1000000]).length := by simp
          obtain ⟨o2, ho2⟩ : ∃ o2, o2 = out ++ [t % 1000000] := ⟨_, rfl⟩
          rw [← ho2] at HO3 hl8 HST
          rw [hl8]
          clear ho3 hg3 hk3 ho ho2 hl8
          go_wp2_with fail
          go_roundw
          case rel => exact ⟨i + 1, o2, t / 1000000, A3, c3, by go_num, by first | rfl | rw [wd], rfl, by omega, HST, HO3, hz3⟩
          case measure => (simp [intOf] <;> omega)
        · have x1 : (i : Int) < (n : Int) := by omega
          obtain ⟨bx, ox, hxe, _, hcx⟩ := (HX.out.below hz).at_ hxn
          have hcx : wr.cell? ⟨bx, ox + i, none⟩ = some (.int .i64 p) := by rw [hcx, ← hp, List.getD_eq_getElem?_getD, List.getElem?_eq_getElem (by rw [HLX.out]; exact hxn)]; rfl
          have y1 : ¬ (i : Int) < (m : Int) := by omega
          have hq0 : q = 0 := by rw [← hq, List.getD_eq_getElem?_getD, List.getElem?_eq_none (by rw [HLY.out]; omega)]; rfl
          have w1 : IntKind.i64.wrap (cy + p) = t := by rw [show cy + p = t by omega]; exact IntWalk.i64_in _ (by omega)
          clear hp hq ht hax hby hw hq0
          subst hxe
          go_wp2_with (at_builtin; refine wpList_append_Own rfl (.tmp 45) (.tmp 48) rfl elI (lo := w.heap.size) rfl (ho.alloc _) rfl (Rd.new1 wr _ _) (ints_one [t % 1000000]) (by omega) (by simp only [maxLen]; omega) (by have := hz.size; simp; omega) ?_; intro A3 c3 w3 ho3 hg3 hk3)
          have hz3 := (ho.alloc (.cells #[.int .i64 (t % 1000000)] 2)).below_of (hz.alloc hz.size _) hg3 (by have := hz.size; simp; omega)
          have HO3 : Hid (Own w3 w.heap.size 2 1 A3 (out ++ [t % 1000000]).length c3 (ints (out ++ [t % 1000000]))) := Lib.hid (by rw [List.length_append]; simpa [ints] using ho3)
          have hl8 : out.length + 1 = (out ++ [t % 1000000]).length := by simp
          obtain ⟨o2, ho2⟩ : ∃ o2, o2 = out ++ [t % 1000000] := ⟨_, rfl⟩
          rw [← ho2] at HO3 hl8 HST
          rw [hl8]
          clear ho3 hg3 hk3 ho ho2 hl8
          go_wp2_with fail
          go_roundw
          case rel => exact ⟨i + 1, o2, t / 1000000, A3, c3, by go_num, by first | rfl | rw [wd], rfl, by omega, HST, HO3, hz3⟩
          case measure => (simp [intOf] <;> omega)
      · by_cases hym : i < m
        · have x1 : ¬ (i : Int) < (n : Int) := by omega
          have hp0 : p = 0 := by rw [← hp, List.getD_eq_getElem?_getD, List.getElem?_eq_none (by rw [HLX.out]; omega)]; rfl
          have y1 : (i : Int) < (m : Int) := by omega
          obtain ⟨by_, oy, hye, _, hcy⟩ := (HY.out.below hz).at_ hym
          have hcy : wr.cell? ⟨by_, oy + i, none⟩ = some (.int .i64 q) := by rw [hcy, ← hq, List.getD_eq_getElem?_getD, List.getElem?_eq_getElem (by rw [HLY.out]; exact hym)]; rfl
          have w1 : IntKind.i64.wrap (cy + q) = t := by rw [show cy + q = t by omega]; exact IntWalk.i64_in _ (by omega)
          clear hp hq ht hax hby hw hp0
          subst hye
          go_wp2_with (at_builtin; refine wpList_append_Own rfl (.tmp 45) (.tmp 48) rfl elI (lo := w.heap.size) rfl (ho.alloc _) rfl (Rd.new1 wr _ _) (ints_one [t % 1000000]) (by omega) (by simp only [maxLen]; omega) (by have := hz.size; simp; omega) ?_; intro A3 c3 w3 ho3 hg3 hk3)
          have hz3 := (ho.alloc (.cells #[.int .i64 (t % 1000000)] 2)).below_of (hz.alloc hz.size _) hg3 (by have := hz.size; simp; omega)
          have HO3 : Hid (Own w3 w.heap.size 2 1 A3 (out ++ [t % 1000000]).length c3 (ints (out ++ [t % 1000000]))) := Lib.hid (by rw [List.length_append]; simpa [ints] using ho3)
          have hl8 : out.length + 1 = (out ++ [t % 1000000]).length := by simp
          obtain ⟨o2, ho2⟩ : ∃ o2, o2 = out ++ [t % 1000000] := ⟨_, rfl⟩
          rw [← ho2] at HO3 hl8 HST
          rw [hl8]
          clear ho3 hg3 hk3 ho ho2 hl8
          go_wp2_with fail
          go_roundw
          case rel => exact ⟨i + 1, o2, t / 1000000, A3, c3, by go_num, by first | rfl | rw [wd], rfl, by omega, HST, HO3, hz3⟩
          case measure => (simp [intOf] <;> omega)
        · have x1 : ¬ (i : Int) < (n : Int) := by omega
          have hp0 : p = 0 := by rw [← hp, List.getD_eq_getElem?_getD, List.getElem?_eq_none (by rw [HLX.out]; omega)]; rfl
          have y1 : ¬ (i : Int) < (m : Int) := by omega
          have hq0 : q = 0 := by rw [← hq, List.getD_eq_getElem?_getD, List.getElem?_eq_none (by rw [HLY.out]; omega)]; rfl
          have c1 : (0 : Int) < cy := by omega
          have hte : cy = t := by omega
          clear hp hq ht hax hby hw hp0 hq0
          subst hte
          go_wp2_with (at_builtin; refine wpList_append_Own rfl (.tmp 45) (.tmp 48) rfl elI (lo := w.heap.size) rfl (ho.alloc _) rfl (Rd.new1 wr _ _) (ints_one [cy % 1000000]) (by omega) (by simp only [maxLen]; omega) (by have := hz.size; simp; omega) ?_; intro A3 c3 w3 ho3 hg3 hk3)
          have hz3 := (ho.alloc (.cells #[.int .i64 (cy % 1000000)] 2)).below_of (hz.alloc hz.size _) hg3 (by have := hz.size; simp; omega)
          have HO3 : Hid (Own w3 w.heap.size 2 1 A3 (out ++ [cy % 1000000]).length c3 (ints (out ++ [cy % 1000000]))) := Lib.hid (by rw [List.length_append]; simpa [ints] using ho3)
          have hl8 : out.length + 1 = (out ++ [cy % 1000000]).length := by simp
          obtain ⟨o2, ho2⟩ : ∃ o2, o2 = out ++ [cy % 1000000] := ⟨_, rfl⟩
          rw [← ho2] at HO3 hl8 HST
          rw [hl8]
          clear ho3 hg3 hk3 ho ho2 hl8
          go_wp2_with fail
          go_roundw
          case rel => exact ⟨i + 1, o2, cy / 1000000, A3, c3, by go_num, by first | rfl | rw [wd], rfl, by omega, HST, HO3, hz3⟩
          case measure => (simp [intOf] <;> omega)
    · have x1 : ¬ (i : Int) < (n : Int) := by omega
      have y1 : ¬ (i : Int) < (m : Int) := by omega
      have c1 : ¬ (0 : Int) < cy := by omega
      have hc00 : cy = 0 := by omega
      have HE : Hid (out = natL (x + y)) := Lib.hid (by
        have h := HS.out
        rw [hc00] at h
        exact h.end_ (by rw [HLX.out]; omega) (by rw [HLY.out]; omega))
      rw [HE.out] at ho ⊢
      clear hc00 hw
      go_wp2_with fail
      go_ret
      exact ⟨E, ec, rfl, ho, hz⟩
end Go.Proofs.Ytpleclmlcojkdaa

/-
  Contracts of the reference's l02Join and WeaveNaturals where the result is too long.
-/
namespace Go.Proofs.Ytpleclmlcojkdaa
open Go.RowKit

set_option maxRecDepth 100000 in
set_option maxHeartbeats 4000000 in
theorem l02Join_full (A : Option Addr) (n c : Nat) (ds : List Int) (b : Nat) (w : World) (hx : SI w A n ds) (hn : n ≤ 900) (hb : 1 ≤ b) (hb2 : b ≤ 1000000) (hr : ∀ d ∈ ds, 0 ≤ d ∧ d < b) (hfull : 40 < (natL (ofD b ds)).length) :
    Calls Try.prog 129 #[.slice A n c, .int .i64 (b : Int)] w fun e w' => e = .returned (.tuple #[.slice none 0 0, .bool false]) ∧ Below w.heap.size w w' := by
  have HX := Lib.hid hx
  have HLX := Lib.hid hx.len
  have HR := Lib.hid hr
  have HF := Lib.hid hfull
  have HB : Hid ((natL b).length ≤ 2) := Lib.hid (natL_len_le (by show (b : Int) < 1000000 * (1000000 * 1); omega))
  have wn : IntKind.i64.wrap ((n : Int) - 1) = (n : Int) - 1 := IntWalk.i64_in _ (by omega)
  clear hx hr hfull
  go_enter Try.func129, Try.ntmps129
  obtain ⟨W1, hW_⟩ : ∃ W_, W_ = w.alloc (.cells #[] 2) := ⟨_, rfl⟩
  have b1 : Blk W1 w.heap.size 2 #[] := by rw [hW_]; exact Blk.new w _ _
  have z1 : Below w.heap.size w W1 := by rw [hW_]; exact (Below.refl _ _).alloc (Nat.le_refl _) _
  have HW1 := Lib.hid hW_
  clear hW_
  have HDN : Hid (ds.drop n = []) := Lib.hid (List.drop_eq_nil_of_le (by rw [HLX.out]; exact Nat.le_refl _))
  have HO1 : Hid (Own W1 w.heap.size 2 1 (some ⟨w.heap.size, 0, none⟩) (natL (ofD b (ds.drop n))).length 0 (ints (natL (ofD b (ds.drop n))))) := Lib.hid (by
    rw [HDN.out]
    show Own W1 _ _ 1 _ (natL 0).length 0 (ints (natL 0))
    rw [natL_zero, HW1.out]; exact Own.lit0 w _ 1)
  have HE0 : Hid (0 = (natL (ofD b (ds.drop n))).length) := Lib.hid (by
    rw [HDN.out]
    show 0 = (natL 0).length
    rw [natL_zero]; rfl)
  clear b1
  go_upto_region 3 with fail
  rw [← HW1.out]
  clear HW1
  go_loopw [6, 7] (fun s5 s6 wr => ∃ (j : Nat) (E : Option Addr) (ec : Nat), j ≤ n ∧ s6 = .int .i64 ((j : Int) - 1) ∧ s5 = .slice E (natL (ofD b (ds.drop j))).length ec ∧ Hid (Own wr w.heap.size 2 1 E (natL (ofD b (ds.drop j))).length ec (ints (natL (ofD b (ds.drop j))))) ∧ Hid ((natL (ofD b (ds.drop j))).length ≤ 40) ∧ Below w.heap.size w wr) (fun _ s6 _ => (intOf s6 + 1).toNat)
  case atStart => exact ⟨n, _, 0, Nat.le_refl _, rfl, by rw [← HE0.out], HO1, Lib.hid (by rw [← HE0.out]; omega), z1⟩
  case round =>
    obtain ⟨j, E, ec, hj, rfl, rfl, HO, H40, hz⟩ := hrel
    clear HO1 z1
    rcases Nat.eq_zero_or_pos j with h0 | h0
    · subst h0
      have h1 := H40.out
      rw [List.drop_zero] at h1
      have h2 := HF.out
      exact absurd h1 (by omega)
    obtain ⟨i, rfl⟩ : ∃ i, j = i + 1 := ⟨j - 1, by omega⟩
    have ei : ((i + 1 : Nat) : Int) - 1 = (i : Int) := by omega
    rw [ei]
    have i1 : (0 : Int) ≤ (i : Int) := by omega
    have i2 : (i : Int) < (n : Int) := by omega
    have wi : IntKind.i64.wrap ((i : Int) - 1) = (i : Int) - 1 := IntWalk.i64_in _ (by omega)
    have HOD := Lib.hid (ofD_drop (b := b) (show i < ds.length by rw [HLX.out]; omega))
    have hdr := HR.out _ (List.getElem_mem (show i < ds.length by rw [HLX.out]; omega))
    obtain ⟨g, o, rfl, hgl, hc⟩ := (HX.out.below hz).at_ (k := i) (by omega)
    obtain ⟨d, hd⟩ : ∃ d, ds[i]'(by rw [HLX.out]; omega) = d := ⟨_, rfl⟩
    rw [hd] at HOD hdr hc
    obtain ⟨q, rfl⟩ : ∃ q : Nat, d = (q : Int) := ⟨d.toNat, by omega⟩
    rw [Int.toNat_natCast] at HOD
    obtain ⟨N, hN⟩ : ∃ N, N = ofD b (ds.drop (i + 1)) := ⟨_, rfl⟩
    rw [← hN] at HOD HO H40 ⊢
    have HC := Lib.hid (fun w' (z : Below wr.heap.size wr w') => (z.cell (p := ⟨g, o + i, none⟩) hgl).trans hc)
    have y0 : Below wr.heap.size wr wr.drew := (Below.refl _ _).drew
    have HL2 : Hid ((natL (N * b)).length ≤ 42) := Lib.hid (mul_len H40.out HB.out)
    have HOr := Lib.hid HO.out.rd
    have hq0 : q ≤ 1000000000000000000 := by omega
    have HLD : Hid ((natL q).length ≤ 40) := Lib.hid (big_len2 hq0)
    clear hd hN
    go_upto_region 5 with fail
    go_region_held3 (fun w' => w'.cell? ⟨g, o + i, none⟩ = some (.int .i64 (q : Int)))
      (first
        | (go_keep; done)
        | (exact HC.out _ y4)
        | (exact HC.out _ y3)
        | (exact HC.out _ y2)
        | (exact HC.out _ y1))
      (first
        | (go_at_call 100; (with_reducible refine (l02Of_any b _ (by omega)).mono ?_); rintro e v1 ⟨A1, c1, rfl, o1, z1⟩; have y1 : Below wr.heap.size wr v1 := below_undrew z1)
        | (go_at_call 181; refine (l02Mul_any _ _ _ N _ _ _ b _ (HOr.out.below y1) o1.rd (by have := H40.out; omega) (by have := HB.out; omega)).mono ?_; rintro e v2 ⟨A2, c2, rfl, o2, z2⟩; have y2 : Below wr.heap.size wr v2 := y1.trans (z2.mono y1.size))
        | (go_at_call 100; (with_reducible refine (l02Of_any q _ hq0).mono ?_); rintro e v3 ⟨A3, c3, rfl, o3, z3⟩; have y3 : Below wr.heap.size wr v3 := y2.trans (z3.mono y2.size))
        | (go_at_call 109; refine (l02Add_any _ _ _ (N * b) _ _ _ q _ (o2.below z3).rd o3.rd (by have := HL2.out; omega) (by have := HLD.out; omega)).mono ?_; rintro e v4 ⟨A4, c4, rfl, o4, z4⟩; have y4 : Below wr.heap.size wr v4 := y3.trans (z4.mono y3.size)))
    have yw : Below w.heap.size w v4 := hz.trans (y4.mono hz.size)
    have hl3 : w.heap.size ≤ v3.heap.size := by have := y3.size; have := hz.size; omega
    have HO4 : Hid (Own v4 w.heap.size 2 1 A4 (natL (ofD b (ds.drop i))).length c4 (ints (natL (ofD b (ds.drop i))))) := Lib.hid (by rw [HOD.out]; exact o4.mono hl3)
    have HEL : Hid ((natL (N * b + q)).length = (natL (ofD b (ds.drop i))).length) := Lib.hid (by rw [HOD.out])
    rw [HEL.out]
    obtain ⟨L, hL⟩ : ∃ L, (natL (ofD b (ds.drop i))).length = L := ⟨_, rfl⟩
    have HLL := Lib.hid hL
    rw [hL] at HO4 ⊢
    clear o4 z4 y4 z3 y3 o3 z2 y2 o2 z1 y1 o1 hL
    by_cases h40 : L ≤ 40
    · have k1 : ¬ (40 : Int) < (L : Int) := by omega
      go_wp2_with fail
      go_roundw
      case rel => exact ⟨i, A4, c4, by omega, by go_num, by rw [HLL.out], Lib.hid (by rw [HLL.out]; exact HO4.out), Lib.hid (by rw [HLL.out]; exact h40), yw⟩
      case measure => (simp [intOf] <;> omega)
    · have k1 : (40 : Int) < (L : Int) := by omega
      go_wp2_with fail
      exact bodyPost_ret (v := .tuple #[.slice none 0 0, .bool false]) (by simp [results, Try.results129, go_sem]) rfl ⟨rfl, yw⟩
end Go.Proofs.Ytpleclmlcojkdaa

/-
  Contract of the reference's WeaveNaturals where the result is too long.
-/
namespace Go.Proofs.Ytpleclmlcojkdaa
open Go.RowKit

theorem Rd.new2 (w : World) (u v : Value) (e : TypeId) : Rd (w.alloc (.cells #[u, v] e)) 1 (some ⟨w.heap.size, 0, none⟩) 2 [u, v] :=
  (Own.lit w #[u, v] e 2 1 w.heap.size rfl (by simp [maxLen]) (Nat.le_refl _)).rd
theorem ints_one2 (u v : Int) : ∀ x ∈ ([.int .i64 u, .int .i64 v] : List Value), x.oneCell' = true := ints_one [u, v]
set_option maxRecDepth 100000 in
set_option maxHeartbeats 4000000 in
theorem weaveS_full (A : Option Addr) (c x : Nat) (B : Option Addr) (d y : Nat) (w : World) (hx : SI w A (natL x).length (natL x)) (hy : SI w B (natL y).length (natL y)) (hn : (natL x).length ≤ 40) (hm : (natL y).length ≤ 40) (hfull : 40 < (natL (wovenN x y)).length) :
    Calls Try.prog 47 #[.slice A (natL x).length c, .slice B (natL y).length d] w fun e w' => e = .returned (.tuple #[.slice none 0 0, .int .i64 5]) ∧ Below w.heap.size w w' := by
  have HI1 := Lib.hid (l02Is_any A _ c x w hx hn)
  have HI2 := Lib.hid (l02Is_any B _ d y w hy hm)
  have hdx := deci_len hn
  have hdy := deci_len hm
  have HD1 : Hid (Calls Try.prog 128 #[.slice A (natL x).length c, .int .i64 10] w (NewI w (digB 8 x))) := Lib.hid (l02Digits_any A _ c x 8 w hx hn (by omega) (by omega))
  have HY1 := Lib.hid hy
  obtain ⟨xs, hxs⟩ : ∃ xs, digB 8 x = xs := ⟨_, rfl⟩
  obtain ⟨ys, hys⟩ : ∃ ys, digB 8 y = ys := ⟨_, rfl⟩
  have HWN : Hid (40 < (natL (ofD 10 (weaveD xs ys (max xs.length ys.length)))).length) := Lib.hid (by unfold wovenN at hfull; rw [hxs, hys] at hfull; exact hfull)
  have HYS := Lib.hid hys
  have HRX : Hid (∀ d ∈ xs, 0 ≤ d ∧ d < (10 : Nat)) := Lib.hid (by rw [← hxs]; exact digB_range 8 x)
  have HRY : Hid (∀ d ∈ ys, 0 ≤ d ∧ d < (10 : Nat)) := Lib.hid (by rw [← hys]; exact digB_range 8 y)
  rw [hxs] at HD1 hdx
  rw [hys] at hdy
  have HM := Lib.hid hm
  clear hx hy hxs hys hn hfull
  go_enter Try.func47, Try.ntmps47
  go_wp2_with (first
    | (go_at_call 127; (with_reducible refine HI1.out.mono ?_); rintro e w' ⟨rfl, rfl⟩)
    | (go_at_call 127; (with_reducible refine HI2.out.mono ?_); rintro e w' ⟨rfl, rfl⟩))
  refine HD1.out.mono ?_
  rintro e W2 ⟨X, xc, rfl, o2, z1⟩
  have HD2 : Hid (Calls Try.prog 128 #[.slice B (natL y).length d, .int .i64 10] W2 (NewI W2 ys)) := Lib.hid (by
    have h := l02Digits_any B _ d y 8 W2 (HY1.out.below z1) HM.out (by omega) (by rw [HYS.out]; omega)
    rw [HYS.out] at h; exact h)
  go_wp2_with fail
  refine HD2.out.mono ?_
  rintro e W3 ⟨Y, yc, rfl, o3, z3⟩
  have y3 := z1.trans (z3.mono z1.size)
  have HX3 : Hid (SI W3 X xs.length xs) := Lib.hid (o2.below z3).rd
  have HY3 : Hid (SI W3 Y ys.length ys) := Lib.hid o3.rd
  obtain ⟨p, hp⟩ : ∃ p, xs.length = p := ⟨_, rfl⟩
  obtain ⟨q, hq⟩ : ∃ q, ys.length = q := ⟨_, rfl⟩
  obtain ⟨N, hN⟩ : ∃ N, N = max p q := ⟨_, rfl⟩
  rw [hp] at hdx HX3 HWN ⊢
  rw [hq] at hdy HY3 HWN ⊢
  rw [← hN] at HWN
  have HP := Lib.hid hp
  have HQ := Lib.hid hq
  have HN := Lib.hid hN
  have hN2 : N ≤ 240 := by omega
  clear hp hq hN o2 o3 z1 z3
  obtain ⟨W4, hW_⟩ : ∃ W_, W_ = W3.alloc (.cells #[] 2) := ⟨_, rfl⟩
  have b4 : Blk W4 W3.heap.size 2 #[] := by rw [hW_]; exact Blk.new W3 _ _
  have z4 : Below W3.heap.size W3 W4 := by rw [hW_]; exact (Below.refl _ _).alloc (Nat.le_refl _) _
  have HW4 := Lib.hid hW_
  clear hW_
  have HO1 : Hid (Own W4 W3.heap.size 2 1 (some ⟨W3.heap.size, 0, none⟩) (weaveD xs ys 0).length 0 (ints (weaveD xs ys 0))) := Lib.hid (by rw [HW4.out]; exact Own.lit0 W3 _ 1)
  have HE0 : Hid (0 = (weaveD xs ys 0).length) := Lib.hid rfl
  clear b4
  go_upto_region 7 with fail
  rw [← HW4.out]
  clear HW4
  go_loopw [8, 9, 10, 11] (fun s8 s9 _ _ wr => ∃ (i : Nat) (E : Option Addr) (ec : Nat), i ≤ N ∧ s9 = .int .i64 (i : Int) ∧ s8 = .slice E (weaveD xs ys i).length ec ∧ Hid (Own wr W3.heap.size 2 1 E (weaveD xs ys i).length ec (ints (weaveD xs ys i))) ∧ Below W3.heap.size W3 wr) (fun _ s9 _ _ _ => N - (intOf s9).toNat)
  case atStart => exact ⟨0, _, 0, Nat.zero_le _, rfl, by rw [← HE0.out], HO1, z4⟩
  case round =>
    obtain ⟨i, E, ec, hi, rfl, rfl, HO, hz⟩ := hrel
    clear HO1 z4
    have ho := HO.out
    have i0 : (0 : Int) ≤ (i : Int) := by omega
    have HLE : Hid ((weaveD xs ys i).length = 2 * i) := Lib.hid (weaveD_len xs ys i)
    have hle : (weaveD xs ys i).length ≤ 480 := by rw [HLE.out]; omega
    by_cases hw : i < p ∨ i < q
    · have hiN : i < N := by have := HN.out; omega
      have wi : IntKind.i64.wrap ((i : Int) + 1) = (i : Int) + 1 := IntWalk.i64_in _ (by omega)
      obtain ⟨u, hu⟩ : ∃ u, xs.getD i 0 = u := ⟨_, rfl⟩
      obtain ⟨v, hv⟩ : ∃ v, ys.getD i 0 = v := ⟨_, rfl⟩
      have HWS : Hid (weaveD xs ys (i + 1) = weaveD xs ys i ++ [u, v]) := Lib.hid (by rw [weaveD, hu, hv])
      by_cases hxn : i < p
      · by_cases hym : i < q
        · have x1 : (i : Int) < (p : Int) := by omega
          have y1 : (i : Int) < (q : Int) := by omega
          obtain ⟨bx, ox, hxe, _, hcx⟩ := (HX3.out.below hz).at_ hxn
          have hcx : wr.cell? ⟨bx, ox + i, none⟩ = some (.int .i64 u) := by rw [hcx, ← hu, List.getD_eq_getElem?_getD, List.getElem?_eq_getElem (by rw [HP.out]; exact hxn)]; rfl
          obtain ⟨by_, oy, hye, _, hcy⟩ := (HY3.out.below hz).at_ hym
          have hcy : wr.cell? ⟨by_, oy + i, none⟩ = some (.int .i64 v) := by rw [hcy, ← hv, List.getD_eq_getElem?_getD, List.getElem?_eq_getElem (by rw [HQ.out]; exact hym)]; rfl
          clear hu hv hw
          subst hxe
          subst hye
          go_wp2_with (at_builtin; refine wpList_append_Own rfl (.tmp 55) (.tmp 58) rfl elI (lo := W3.heap.size) rfl (ho.alloc _) rfl (Rd.new2 wr (.int .i64 u) (.int .i64 v) 2) (ints_one2 u v) (by omega) (by simp only [maxLen]; omega) (by have := hz.size; simp; omega) ?_; intro A3 c3 w3 ho3 hg3 hk3)
          have hz3 := (ho.alloc (.cells #[.int .i64 u, .int .i64 v] 2)).below_of (hz.alloc hz.size _) hg3 (by have := hz.size; simp; omega)
          have HO3 : Hid (Own w3 W3.heap.size 2 1 A3 (weaveD xs ys (i + 1)).length c3 (ints (weaveD xs ys (i + 1)))) := Lib.hid (by rw [HWS.out, List.length_append]; simpa [ints] using ho3)
          have hl8 : (weaveD xs ys i).length + 2 = (weaveD xs ys (i + 1)).length := by rw [HWS.out, List.length_append]; rfl
          rw [hl8]
          clear ho3 hg3 hk3 ho hl8
          go_wp2_with fail
          go_roundw
          case rel => exact ⟨i + 1, A3, c3, by omega, by go_num, rfl, HO3, hz3⟩
          case measure => (simp [intOf] <;> omega)
        · have x1 : (i : Int) < (p : Int) := by omega
          have y1 : ¬ (i : Int) < (q : Int) := by omega
          obtain ⟨bx, ox, hxe, _, hcx⟩ := (HX3.out.below hz).at_ hxn
          have hcx : wr.cell? ⟨bx, ox + i, none⟩ = some (.int .i64 u) := by rw [hcx, ← hu, List.getD_eq_getElem?_getD, List.getElem?_eq_getElem (by rw [HP.out]; exact hxn)]; rfl
          have hv0 : v = 0 := by rw [← hv, List.getD_eq_getElem?_getD, List.getElem?_eq_none (by rw [HQ.out]; omega)]; rfl
          clear hu hv hw
          subst hxe
          subst hv0
          go_wp2_with (at_builtin; refine wpList_append_Own rfl (.tmp 55) (.tmp 58) rfl elI (lo := W3.heap.size) rfl (ho.alloc _) rfl (Rd.new2 wr (.int .i64 u) (.int .i64 0) 2) (ints_one2 u 0) (by omega) (by simp only [maxLen]; omega) (by have := hz.size; simp; omega) ?_; intro A3 c3 w3 ho3 hg3 hk3)
          have hz3 := (ho.alloc (.cells #[.int .i64 u, .int .i64 0] 2)).below_of (hz.alloc hz.size _) hg3 (by have := hz.size; simp; omega)
          have HO3 : Hid (Own w3 W3.heap.size 2 1 A3 (weaveD xs ys (i + 1)).length c3 (ints (weaveD xs ys (i + 1)))) := Lib.hid (by rw [HWS.out, List.length_append]; simpa [ints] using ho3)
          have hl8 : (weaveD xs ys i).length + 2 = (weaveD xs ys (i + 1)).length := by rw [HWS.out, List.length_append]; rfl
          rw [hl8]
          clear ho3 hg3 hk3 ho hl8
          go_wp2_with fail
          go_roundw
          case rel => exact ⟨i + 1, A3, c3, by omega, by go_num, rfl, HO3, hz3⟩
          case measure => (simp [intOf] <;> omega)
      · have hym : i < q := by omega
        have x1 : ¬ (i : Int) < (p : Int) := by omega
        have y1 : (i : Int) < (q : Int) := by omega
        have hu0 : u = 0 := by rw [← hu, List.getD_eq_getElem?_getD, List.getElem?_eq_none (by rw [HP.out]; omega)]; rfl
        obtain ⟨by_, oy, hye, _, hcy⟩ := (HY3.out.below hz).at_ hym
        have hcy : wr.cell? ⟨by_, oy + i, none⟩ = some (.int .i64 v) := by rw [hcy, ← hv, List.getD_eq_getElem?_getD, List.getElem?_eq_getElem (by rw [HQ.out]; exact hym)]; rfl
        clear hu hv hw
        subst hu0
        subst hye
        go_wp2_with (at_builtin; refine wpList_append_Own rfl (.tmp 55) (.tmp 58) rfl elI (lo := W3.heap.size) rfl (ho.alloc _) rfl (Rd.new2 wr (.int .i64 0) (.int .i64 v) 2) (ints_one2 0 v) (by omega) (by simp only [maxLen]; omega) (by have := hz.size; simp; omega) ?_; intro A3 c3 w3 ho3 hg3 hk3)
        have hz3 := (ho.alloc (.cells #[.int .i64 0, .int .i64 v] 2)).below_of (hz.alloc hz.size _) hg3 (by have := hz.size; simp; omega)
        have HO3 : Hid (Own w3 W3.heap.size 2 1 A3 (weaveD xs ys (i + 1)).length c3 (ints (weaveD xs ys (i + 1)))) := Lib.hid (by rw [HWS.out, List.length_append]; simpa [ints] using ho3)
        have hl8 : (weaveD xs ys i).length + 2 = (weaveD xs ys (i + 1)).length := by rw [HWS.out, List.length_append]; rfl
        rw [hl8]
        clear ho3 hg3 hk3 ho hl8
        go_wp2_with fail
        go_roundw
        case rel => exact ⟨i + 1, A3, c3, by omega, by go_num, rfl, HO3, hz3⟩
        case measure => (simp [intOf] <;> omega)
    · have x1 : ¬ (i : Int) < (p : Int) := by omega
      have y1 : ¬ (i : Int) < (q : Int) := by omega
      obtain rfl : i = N := by have := HN.out; omega
      have HJ : Hid (Calls Try.prog 129 #[.slice E (weaveD xs ys i).length ec, .int .i64 10] wr (fun e w' => e = .returned (.tuple #[.slice none 0 0, .bool false]) ∧ Below wr.heap.size wr w')) := Lib.hid (l02Join_full E _ ec (weaveD xs ys i) 10 wr ho.rd (by omega) (by omega) (by omega) (weaveD_range (b := 10) (by omega) HRX.out HRY.out i) HWN.out)
      have yr : Below w.heap.size w wr := y3.trans (hz.mono y3.size)
      clear ho HO
      go_wp2_with fail
      refine HJ.out.mono ?_
      rintro e W5 ⟨rfl, z5⟩
      have y5 := yr.trans (z5.mono yr.size)
      go_wp2_with fail
      exact bodyPost_ret (v := .tuple #[.slice none 0 0, .int .i64 5]) (by simp [results, Try.results47, go_sem]) rfl ⟨rfl, y5⟩
end Go.Proofs.Ytpleclmlcojkdaa

/-
  The reference's draw of a word: l10DrawWord.
-/
namespace Go.Proofs.Ytpleclmlcojkdaa
open Go.RowKit

theorem Src.more {b lo s n0 c0 : Nat} {e : TypeId} {E : Option Addr} {xs : List Value} {A : Option Addr} {n c T : Nat} {W W' : World} (h : Src b A n c T W) (ho : Own W lo e s E n0 c0 xs) (hb : b < lo) (hg : W.grownBy W' (blk E)) : Src b A n c T W' := by
  obtain ⟨a, s, h1, h2, h3, h4⟩ := h
  exact ⟨a, s, h1, h2, h3, (hg.block b h4.lt (fun e => by have := ho.blk_ge b e.symm; omega)).trans h4⟩
theorem Blk.ownz {w : World} {g : Nat} {t : TypeId} {s lo : Nat} (h : Blk w g t #[]) (hlo : lo ≤ g) : Own w lo t s (some ⟨g, 0, none⟩) 0 0 [] := by
  refine ⟨by simp, .inr ⟨g, 0, #[], rfl, hlo, h, Nat.le_refl _, by simp [maxLen], by simp, fun k hk => ?_⟩⟩
  simp at hk
/-- A word was drawn. -/
def DrewL (b : Nat) (A : Option Addr) (n c T most : Nat) (L : Int) (w : World) (e : Ending) (w' : World) : Prop :=
  ∃ D d ys, e = .returned (.slice D ys.length d) ∧ Own w' w.heap.size 2 1 D ys.length d (ints ys) ∧ ys.length ≤ most ∧ (∀ x ∈ ys, 0 ≤ x ∧ x < L) ∧ Src b A n c T w' ∧ Kb b w w'
set_option maxRecDepth 100000 in
set_option maxHeartbeats 8000000 in
theorem drawWord_any (b : Nat) (A : Option Addr) (n c T : Nat) (xs : List Int) (least most : Nat) (L : Int) (w : World) (hx : SB w A n xs) (hA : ∀ k, blk A = some k → k ≠ b) (hs : Src b A n c T w) (hb : b < w.heap.size) (hT : T ≤ 1000000) (hn : n ≤ 9223372036854775807) (hlm : least ≤ most) (hmost : most ≤ 40) (hL : 1 ≤ L) (hL2 : L ≤ 200) :
    Calls Try.prog 111 #[.pointer (some ⟨b, 0, none⟩), .int .i64 (least : Int), .int .i64 (most : Int), .int .i64 L] w (DrewL b A n c (T + 100) most L w) := by
  have HX := Lib.hid hx
  have HA := Lib.hid hA
  have HS := Lib.hid hs
  clear hx hA hs
  obtain ⟨W1, hW_⟩ : ∃ W_, W_ = w.alloc (.cells #[] 2) := ⟨_, rfl⟩
  have b1 : Blk W1 w.heap.size 2 #[] := by rw [hW_]; exact Blk.new w _ _
  have z1 : Below w.heap.size w W1 := by rw [hW_]; exact (Below.refl _ _).alloc (Nat.le_refl _) _
  have HW1 := Lib.hid hW_
  clear hW_
  have o1 : Own W1 w.heap.size 2 1 (some ⟨w.heap.size, 0, none⟩) 0 0 (ints []) := Blk.ownz b1 (Nat.le_refl _)
  have HS1 := Lib.hid (HS.out.below z1)
  have HX1 := Lib.hid (HX.out.below z1)
  have HK1 : Hid (Kb b w W1) := Lib.hid (Kb.of_below z1)
  obtain ⟨P, hP⟩ : ∃ P : Int, (most : Int) - (least : Int) + 1 = P := ⟨_, rfl⟩
  obtain ⟨P0, hP0⟩ : ∃ P0 : Int, (most : Int) - (least : Int) = P0 := ⟨_, rfl⟩
  have w1 : IntKind.i64.wrap ((most : Int) - (least : Int)) = P0 := by rw [hP0]; exact IntWalk.i64_in _ (by omega)
  have w2 : IntKind.i64.wrap (P0 + 1) = P := by rw [← hP0, hP]; exact IntWalk.i64_in _ (by omega)
  have hp1 : 1 ≤ P ∧ P ≤ 41 := by omega
  have HPP := Lib.hid hP
  obtain ⟨hp1, hp2⟩ := hp1
  clear z1 b1 hP hP0
  go_enter Try.func111, Try.ntmps111
  go_upto_region 2 with fail
  rw [← HW1.out]
  clear HW1
  go_wp2_with fail
  refine (pick_any b A n c T xs P _ HX1.out HA.out HS1.out (by omega) hn (by omega) (by omega)).mono ?_
  rintro e3 w3 ⟨x, rfl, hx0, hx1, hs3, hk3⟩
  obtain ⟨Q, hQ⟩ : ∃ Q : Nat, (least : Int) + x = (Q : Int) := ⟨((least : Int) + x).toNat, by omega⟩
  have w3' : IntKind.i64.wrap ((least : Int) + x) = (Q : Int) := by rw [hQ]; exact IntWalk.i64_in _ (by omega)
  have hQm : Q ≤ most := by have := HPP.out; omega
  have HS3 := Lib.hid hs3
  have HK3 := Lib.hid (HK1.out.trans hk3)
  have o3 := Lib.hid (hk3.own' o1 hb)
  clear hs3 hk3 hx0 hx1 HS1 HK1 HX1 o1 w1 w2 hQ
  go_wp2_with fail
  clear w3'
  go_loopw [9, 10] (fun v k wr => ∃ (q : Nat) (E : Option Addr) (e : Nat) (ys : List Int), q ≤ Q ∧ k = .int .i64 (q : Int) ∧ v = .slice E ys.length e ∧ Own wr w.heap.size 2 1 E ys.length e (ints ys) ∧ Hid (ys.length + q = Q) ∧ Hid (∀ x ∈ ys, 0 ≤ x ∧ x < L) ∧ Hid (Src b A n c (T + 2 + 2 * ys.length) wr) ∧ Hid (Kb b w wr)) (fun _ k _ => (intOf k).toNat)
  case atStart => exact ⟨Q, _, 0, [], Nat.le_refl _, rfl, rfl, o3.out, Lib.hid (by simp), Lib.hid (by simp), HS3, HK3⟩
  case round =>
    obtain ⟨q, E, e, ys, hq, rfl, rfl, hE, HQ, HY, HSq, HKq⟩ := hrel
    clear o3 HS3 HK3
    by_cases hq1 : 0 < q
    · have hyl : ys.length ≤ 40 := by have := HQ.out; omega
      have HXq := Lib.hid (HX.out.kb HKq.out HA.out)
      go_wp2_with fail
      refine (pick_any b A n c (T + 2 + 2 * ys.length) xs L _ HXq.out HA.out HSq.out (by omega) hn (by omega) (by omega)).mono ?_
      rintro e1 w1 ⟨y, rfl, hy0, hy1, hs1, hk1⟩
      have hE1 := hk1.own' hE hb
      have HK4 := Lib.hid (HKq.out.trans hk1)
      have HS4 := Lib.hid hs1
      have HYY : Hid (∀ x ∈ ys ++ [y], 0 ≤ x ∧ x < L) := Lib.hid (by
        intro x hx
        rcases List.mem_append.1 hx with h | h
        · exact HY.out x h
        · rw [List.mem_singleton.1 h]; exact ⟨hy0, by omega⟩)
      clear hs1 hk1 hy1 hy0
      go_wp2_with (at_builtin; refine wpList_append_Own rfl (.tmp 24) (.tmp 28) rfl elI (lo := w.heap.size) rfl (hE1.alloc _) rfl (Rd.new1 _ (.int .i64 y) _) (by simp [Value.oneCell']) (by omega) (by simp only [maxLen]; omega) (by have := HK4.out.size; simp; omega) ?_; intro A5 c5 W5 o5 hg5 hw5)
      have HK5 : Hid (Kb b w W5) := Lib.hid ((HK4.out.alloc _).grown (hE1.alloc _) (Nat.le_refl _) hg5)
      have HS5 : Hid (Src b A n c (T + 2 + 2 * (ys ++ [y]).length) W5) := Lib.hid (by
        rw [List.length_append]
        exact ((HS4.out.alloc _).more (hE1.alloc _) hb hg5).le (by simp; omega))
      have o6 : Own W5 w.heap.size 2 1 A5 (ys ++ [y]).length c5 (ints (ys ++ [y])) := by
        rw [List.length_append, ← ints_append]; exact o5
      have HLL : Hid (ys.length + 1 = (ys ++ [y]).length) := Lib.hid (by rw [List.length_append]; rfl)
      have HQ5 : Hid ((ys ++ [y]).length + (q - 1) = Q) := Lib.hid (by rw [← HLL.out]; have := HQ.out; omega)
      go_wp2_with fail
      go_roundw
      case rel => exact ⟨q - 1, A5, c5, ys ++ [y], by omega, by go_num, by rw [← HLL.out], o6, HQ5, HYY, HS5, HK5⟩
      case measure => simp [intOf]; omega
    · obtain rfl : q = 0 := by omega
      have HE : Hid (DrewL b A n c (T + 100) most L w (.returned (.slice E ys.length e)) wr) := Lib.hid ⟨E, e, ys, rfl, hE, by have := HQ.out; omega, HY.out, HSq.out.le (by have := HQ.out; omega), HKq.out⟩
      go_wp2_with fail
      go_ret
      exact HE.out
end Go.Proofs.Ytpleclmlcojkdaa

/-
  The reference's B10Word.
-/
namespace Go.Proofs.Ytpleclmlcojkdaa
open Go.RowKit

/-- A short word and its number of letters were drawn. -/
def DrewWord (w : World) (e : Ending) (w' : World) : Prop :=
  ∃ D d ws L, e = .returned (.tuple #[.slice D ws.length d, .int .i64 ((L : Nat) : Int)]) ∧ Own w' w.heap.size 2 1 D ws.length d (ints ws) ∧ ShortW L ws ∧ Below w.heap.size w w'
set_option maxRecDepth 100000 in
set_option maxHeartbeats 1000000 in
theorem b10Word_any (A : Option Addr) (n c : Nat) (xs : List Int) (w : World) (hx : SB w A n xs) (hA : ∀ k, blk A = some k → k < w.heap.size) (hn : n ≤ 9223372036854775807) :
    Calls Try.prog 35 #[.slice A n c] w (DrewWord w) := by
  have HX := Lib.hid hx
  have HA : Hid (∀ k, blk A = some k → k ≠ w.heap.size) := Lib.hid (fun k hk => Nat.ne_of_lt (hA k hk))
  clear hx hA
  go_enter Try.func35, Try.ntmps35
  go_wp2_with fail
  refine (from_any A n c w).mono ?_
  rintro e w1 ⟨rfl, hs1, z1⟩
  have hb1 : w.heap.size < w1.heap.size := by obtain ⟨_, _, _, _, _, h⟩ := hs1; exact h.lt
  have HX1 := Lib.hid (HX.out.below z1)
  obtain ⟨b, hb⟩ : ∃ b, b = w.heap.size := ⟨_, rfl⟩
  have HZ1 : Hid (Below w.heap.size w w1) := Lib.hid z1
  rw [← hb] at hs1 hb1 HA ⊢
  have HBE := Lib.hid hb
  clear hb
  go_wp2_with fail
  refine (pick_any b A n c 0 xs 4 w1 HX1.out HA.out hs1 (by omega) hn (by omega) (by omega)).mono ?_
  rintro e w2 ⟨x, rfl, hx0, hx1, hs2, hk2⟩
  obtain ⟨q, rfl⟩ : ∃ q : Nat, x = (q : Int) := ⟨x.toNat, by omega⟩
  obtain ⟨L, hL⟩ : ∃ L, L = q + 1 := ⟨_, rfl⟩
  have hL4 : 1 ≤ L ∧ L ≤ 4 := by omega
  have wL : IntKind.i64.wrap (1 + (q : Int)) = (L : Int) := by rw [show 1 + (q : Int) = (L : Int) by omega]; exact IntWalk.i64_in _ (by omega)
  have HX2 := Lib.hid (HX1.out.kb hk2 HA.out)
  have HK2 := Lib.hid hk2
  have hb2 : b < w2.heap.size := by have := hk2.size; omega
  have HL2 : Hid (w1.heap.size ≤ w2.heap.size) := Lib.hid hk2.size
  clear hk2 hL hx0 hx1
  go_wp2_with fail
  refine (drawWord_any b A n c (0 + 2) xs 0 9 (L : Int) w2 HX2.out HA.out hs2 hb2 (by omega) hn (by omega) (by omega) (by omega) (by omega)).mono ?_
  rintro e w3 ⟨D, d, ws, rfl, o3, hl3, hm3, hs3, hk3⟩
  have hz : Below w.heap.size w w3 := (HK2.out.trans hk3).below HZ1.out (by have := HBE.out; omega)
  have HS : Hid (ShortW L ws) := Lib.hid ⟨hL4.1, hL4.2, hl3, hm3⟩
  clear hl3 hm3
  go_wp2_with fail
  exact bodyPost_ret (v := .tuple #[.slice D ws.length d, .int .i64 (L : Int)]) (by simp [results, Try.results35, go_sem]) rfl ⟨D, d, ws, L, rfl, o3.mono (by have := HL2.out; have := HBE.out; omega), HS.out, hz⟩
end Go.Proofs.Ytpleclmlcojkdaa
