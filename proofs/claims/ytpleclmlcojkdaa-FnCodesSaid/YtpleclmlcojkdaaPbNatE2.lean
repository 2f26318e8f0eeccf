/-
  copy into a slice that the caller owns, from its head on.
-/
import Derived.Test.YtpleclmlcojkdaaPbNatE0
import Derived.Test.YtpleclmlcojkdaaPbNatE1
import Derived.Laws.CopyOwn
import Derived.RegionTactic
import Derived.Lib.MinMax
import Derived.Deep.RegionHeld3
import Derived.Deep.RegionLaw
import Derived.Deep.DeepCutAuto
namespace Go.Proofs.Ytpleclmlcojkdaa
open Go.RowKit

theorem wpList_copy_Own {P : Program} {w : World} {ops : Array Oper} {rest : List Oper} {o : Oper} {a : Act} {Q : Exit → Act → World → Prop} (hgd : o.guard = none) (d s : Operand) (dT sT : TypeId)
    (ho : o.op = .call { callee := .builtin .copy, args := #[d, s], argTypes := #[dT, sT] }) (elem : TypeId) (hu : P.underlying dT = some (.slice elem)) (hsz : (P.info? elem).map (·.size) = some 1)
    {lo lo0 n c m k : Nat} {A B : Option Addr} {cs news : List Value} {w0 : World} (hd : a.eval d = .slice A n c) (h : Own w lo elem 1 A n c cs) (hs : a.eval s = .slice B m k) (hr : Rd w 1 B m news) (hm : m ≤ n) (h1 : ∀ v ∈ news, v.oneCell' = true)
    (hz : Below lo0 w0 w) (hl : lo0 ≤ lo)
    (hK : ∀ w', Own w' lo elem 1 A n c (news ++ cs.drop m) → Below lo0 w0 w' → w'.heap.size = w.heap.size → (∀ x, blk A ≠ some x → w'.heap[x]? = w.heap[x]?) → wpList P ops Q rest (a.put o.dst (goInt m)) w') : wpList P ops Q (o :: rest) a w := by
  have hnl : news.length = m := by have := hr.1; omega
  have hcl : cs.length = n := by have := h.1; omega
  rcases Nat.eq_zero_or_pos m with h0 | h0
  · subst h0
    obtain rfl : news = [] := List.length_eq_zero_iff.1 hnl
    exact wpList_copy_nothing hgd d s dT sT ho elem hu hsz A B n c 0 k hd hs (Nat.zero_min n) (hK w (by simpa using h) hz rfl (fun _ _ => rfl))
  · obtain ⟨sb, so, rfl, hc⟩ := hr.2 (by omega)
    rcases h.2 with ⟨_, hn0, _⟩ | ⟨b, off, cur, rfl, hlb, hg, h2, h3, h4, h5⟩
    · omega
    · have hadd : ∀ j, (⟨sb, so, none⟩ : Addr).add j = ⟨sb, so + j, none⟩ := fun j => by unfold Addr.add; split <;> simp_all
      have hsrc : ∀ j v, news[j]? = some v → w.cell? ((⟨sb, so, none⟩ : Addr).add j) = some v := fun j v hj => by
        obtain ⟨hj2, rfl⟩ := List.getElem?_eq_some_iff.1 hj
        rw [hadd]; exact hc j hj2
      subst hnl
      refine wpList_copy_own hgd d s dT sT ho elem hu hsz b off n c ⟨sb, so, none⟩ news.length k hd hs cur elem hg news (Nat.min_eq_left hm).symm hsrc (by omega) h1 ?_
      refine hK _ ⟨by rw [List.length_append, List.length_drop]; omega, .inr ⟨b, off, _, rfl, hlb, setRow_heap w b cur _ elem (0, 0) hg, h2, h3, by simp only [List.size_toArray, List.length_append, List.length_take, List.length_drop, Array.length_toList]; omega, fun j hj => ?_⟩⟩ (below_setRow hz (by omega) _) (by simp [World.setRow]) (fun x hx => setRow_other w b x _ (fun e => hx (by rw [← e]; rfl)))
      have hj' := hj
      rw [List.length_append, List.length_drop] at hj'
      simp only [List.getElem?_toArray]
      rw [List.getElem?_append_right (by rw [List.length_take]; omega), show off + j - (cur.toList.take off).length = j by rw [List.length_take, Array.length_toList]; omega]
      by_cases hj2 : j < news.length
      · rw [List.getElem?_append_left hj2, List.getElem_append_left hj2, List.getElem?_eq_getElem hj2]
      · rw [List.getElem?_append_right (by omega), List.getElem_append_right (by omega), List.getElem?_drop, List.getElem_drop]
        have := h5 (news.length + (j - news.length)) (by omega)
        rw [← Array.getElem?_toList] at this
        rw [show off + news.length + (j - news.length) = off + (news.length + (j - news.length)) by omega]
        exact this
end Go.Proofs.Ytpleclmlcojkdaa

/-
  Contracts of impl's add, divideSmall, subtract over naturals by limbs.
-/
namespace Go.Proofs.Ytpleclmlcojkdaa
open Go.RowKit

theorem szI1 : (Try.prog.info? 2).map (·.size) = some 1 := by kernel_rfl
theorem made_zeros (n : Nat) : (madeCells (Value.int .i64 0).cells (n * 1)).toList = ints (List.replicate n 0) := by
  rw [made_ints n (List.replicate n 0) (by simp)]
  simp [copied]
theorem val_pad (xs : List Int) (n : Nat) : val (xs ++ List.replicate n 0) = val xs := by rw [val_append, val_zeros]; simp
/-- Limbs in range up to i, and twice that below. -/
def Sums (arr : List Int) (j : Nat) : Prop := ∀ i (hi : i < arr.length), 0 ≤ arr[i] ∧ arr[i] < (if i < j then 2000000 else 1000000)
theorem Sums.step {arr : List Int} {j : Nat} (h : Sums arr j) (hj : j < arr.length) {y : Int} (hy : 0 ≤ y ∧ y < 1000000) : Sums (arr.set j (arr[j] + y)) (j + 1) := by
  intro i hi
  have h1 := h j hj
  rw [if_neg (by omega)] at h1
  rw [List.getElem_set]
  split
  · rw [if_pos (by omega)]; omega
  · have h2 := h i (by simpa using hi)
    by_cases h3 : i < j
    · rw [if_pos h3] at h2; rw [if_pos (by omega)]; exact h2
    · rw [if_neg h3] at h2; rw [if_neg (by omega)]; exact h2
set_option maxRecDepth 100000 in
set_option maxHeartbeats 4000000 in
theorem add_any (A : Option Addr) (n c x : Nat) (B : Option Addr) (m d y : Nat) (w : World) (hx : SI w A n (natL x)) (hy : SI w B m (natL y)) (hn : n ≤ 1000) (hm : m ≤ 1000) :
    Calls Try.prog 114 #[.slice A n c, .slice B m d] w (NewN w (x + y)) := by
  have hlx := hx.len
  have hly := hy.len
  have HLX := Lib.hid hlx
  have HLY := Lib.hid hly
  obtain ⟨N, hN⟩ : ∃ N, N = max n m := ⟨_, rfl⟩
  have hnN : n ≤ N := by omega
  have hmN : m ≤ N := by omega
  have hN2 : N ≤ 1000 := by omega
  have hmax : (max (n : Int) (m : Int)) = (N : Int) := by omega
  have HX := Lib.hid hx
  have HNN := Lib.hid hnN
  clear hlx hly hN
  go_enter Try.func114, Try.ntmps114
  go_upto_region 2 with (at_make; refine wpList_make_Own rfl (.tmp 12) (.tmp 12) rfl elI (n := N) (lo := w.heap.size) rfl rfl (by omega) (by unfold maxLen; omega) (Nat.le_refl _) ?_; intro w2 ho2 hb2 hs2)
  rw [made_zeros] at ho2
  generalize hD : (some ⟨w.heap.size, 0, none⟩ : Option Addr) = D at *
  clear hD hs2 hmax
  go_upto_region 3 with (refine wpList_copy_Own rfl (.tmp 14) (.tmp 15) 25 25 rfl 2 Try.underlying25 szI1 rfl ho2 rfl (HX.out.below hb2) HNN.out (ints_one _) hb2 (Nat.le_refl _) ?_; intro w3 ho3 hz3 hs3 hk3)
  have ho4 : Own w3 w.heap.size 2 1 D N N (ints (natL x ++ List.replicate (N - n) 0)) := by
    rw [ints_drop, ints_append] at ho3
    simpa using ho3
  obtain ⟨a0, ha0⟩ : ∃ a0, a0 = natL x ++ List.replicate (N - n) 0 := ⟨_, rfl⟩
  rw [← ha0] at ho4
  have HV0 : Hid (val a0 = (x : Int)) := Lib.hid (by rw [ha0, val_pad, val_natL])
  have HS0 : Hid (Sums a0 0) := Lib.hid (fun i hi => by
    rw [if_neg (by omega)]
    have : lims a0 := by rw [ha0]; exact fun z hz => (List.mem_append.1 hz).elim (fun h => lims_natL x z h) (fun h => lims_zeros _ z h)
    exact this.at_ hi)
  clear ha0 ho3 ho2 hb2 hk3 HX hx
  go_wp2_with fail
  go_loopw [19] (fun s wr => ∃ (j : Nat) (arr : List Int), j ≤ m ∧ s = .int .i64 (j : Int) ∧ Own wr w.heap.size 2 1 D N N (ints arr) ∧ Below w.heap.size w wr ∧ Hid (val arr = x + val ((natL y).take j)) ∧ Hid (Sums arr j)) (fun s _ => m - (intOf s).toNat)
  case atStart => exact ⟨0, a0, Nat.zero_le _, rfl, ho4, hz3, Lib.hid (by rw [HV0.out, List.take_zero]; show (x : Int) = x + 0; omega), HS0⟩
  case round =>
    obtain ⟨j, arr, hj, rfl, ho, hz, HV, HS⟩ := hrel
    clear ho4 hz3 HV0 HS0
    have hal : arr.length = N := (show SI wr D N arr from ho.rd).len
    have HAL := Lib.hid hal
    by_cases hlt : j < m
    · have i1 : (j : Int) < (m : Int) := by omega
      have i2 : (0 : Int) ≤ (j : Int) := by omega
      have i3 : (j : Int) < (N : Int) := by omega
      obtain ⟨b, off, rfl, _, hcb⟩ := (hy.below hz).at_ hlt
      obtain ⟨g, o, rfl, hgl, _, hca, hfa⟩ := ho.at_ (k := j) (by rw [length_ints]; omega)
      rw [ints_get] at hca
      obtain ⟨p, hp⟩ : ∃ p, arr[j]'(by omega) = p := ⟨_, rfl⟩
      obtain ⟨q, hq⟩ : ∃ q, (natL y)[j]'(by rw [HLY.out]; omega) = q := ⟨_, rfl⟩
      have hpr := HS.out j (by omega)
      rw [if_neg (by omega), hp] at hpr
      have hqr := (lims_natL y).at_ (k := j) (by rw [HLY.out]; omega)
      rw [hq] at hqr
      rw [hp] at hca
      rw [hq] at hcb
      have wpq : IntKind.i64.wrap (p + q) = p + q := IntWalk.i64_in _ (by omega)
      have HS2 : Hid (Sums (arr.set j (p + q)) (j + 1)) := Lib.hid (by have := HS.out.step (show j < arr.length by omega) hqr; rw [hp] at this; exact this)
      have HV2 : Hid (val (arr.set j (p + q)) = x + val ((natL y).take (j + 1))) := Lib.hid (by
        rw [val_set _ _ _ (show j < arr.length by omega), val_take_succ (by rw [HLY.out]; omega), HV.out, hp, hq, show p + q - p = q by omega]; omega)
      have ho5 := ho.set_ (k := j) (by rw [length_ints]; omega) (.int .i64 (p + q))
      rw [ints_set] at ho5
      have hz5 := hz.setCell (p := ⟨g, o + j, none⟩) hgl (.int .i64 (p + q))
      clear hp hq hpr hqr
      go_wp2_with fail
      go_roundw
      case rel => exact ⟨j + 1, arr.set j (p + q), by omega, by go_num, ho5, hz5, HV2, HS2⟩
      case measure => simp [intOf]; omega
    · obtain rfl : j = m := by omega
      have i1 : ¬ (j : Int) < (j : Int) := by omega
      have HE : Hid ((val arr).toNat = x + y) := Lib.hid (by
        rw [HV.out, List.take_of_length_le (by rw [HLY.out]; exact Nat.le_refl _), val_natL]; omega)
      have HR : Hid (∀ z ∈ arr, 0 ≤ z ∧ z ≤ 1000000000000000000) := Lib.hid (fun z hz => by
        obtain ⟨i, hi, rfl⟩ := List.getElem_of_mem hz
        have := HS.out i hi
        split at this <;> omega)
      go_wp2_with fail
      refine (carried_any D N N arr wr ho.rd (by omega) HR.out).mono ?_
      rw [HE.out]
      rintro e w5 ⟨A5, c5, rfl, ho5, hz5⟩
      go_wp2_with fail
      go_ret
      exact ⟨A5, c5, rfl, ho5.mono hz.size, hz.trans (hz5.mono hz.size)⟩
/-- A natural in new memory, and a number. -/
def NewN2 (w : World) (x : Nat) (r : Int) (e : Ending) (w' : World) : Prop := ∃ A c, e = .returned (.tuple #[.slice A (natL x).length c, .int .i64 r]) ∧ Own w' w.heap.size 2 1 A (natL x).length c (ints (natL x)) ∧ Below w.heap.size w w'
set_option maxRecDepth 100000 in
set_option maxHeartbeats 4000000 in
theorem divideSmall_any (A : Option Addr) (n c x : Nat) (D : Nat) (w : World) (hx : SI w A n (natL x)) (hn : n ≤ 1000) (h1 : 1 ≤ D) (h2 : D ≤ 1000000) :
    Calls Try.prog 117 #[.slice A n c, .int .i64 (D : Int)] w (NewN2 w (x / D) ((x % D : Nat) : Int)) := by
  have hlx := hx.len
  have HLX := Lib.hid hlx
  have wn : IntKind.i64.wrap ((n : Int) - 1) = (n : Int) - 1 := IntWalk.i64_in _ (by omega)
  have d0 : ((D : Int) == 0) = false := by simp; omega
  go_enter Try.func117, Try.ntmps117
  go_upto_region 2 with (at_make; refine wpList_make_Own rfl (.tmp 10) (.tmp 10) rfl elI (n := n) (lo := w.heap.size) rfl rfl (by omega) (by unfold maxLen; omega) (Nat.le_refl _) ?_; intro w2 ho2 hb2 hs2)
  rw [made_zeros] at ho2
  generalize hD : (some ⟨w.heap.size, 0, none⟩ : Option Addr) = B at *
  clear hD hs2
  go_upto_region 3 with fail
  have HD0 : Hid (DivS (natL x) D n (List.replicate n 0) 0) := Lib.hid (by have := DivS.start (a := natL x) (d := D) (by omega); rw [hlx] at this; exact this)
  clear wn hlx
  go_loopw [7, 8] (fun r s wr => ∃ (j : Nat) (out : List Int) (q : Int), j ≤ n ∧ s = .int .i64 ((j : Int) - 1) ∧ r = .int .i64 q ∧ Own wr w.heap.size 2 1 B n n (ints out) ∧ Below w.heap.size w wr ∧ Hid (DivS (natL x) D j out q)) (fun _ s _ => (intOf s + 1).toNat)
  case atStart => exact ⟨n, _, 0, Nat.le_refl _, rfl, rfl, ho2, hb2, HD0⟩
  case round =>
    obtain ⟨j, out, q, hj, rfl, rfl, ho, hz, HS⟩ := hrel
    clear ho2 hb2 HD0
    have hol : out.length = n := (show SI wr B n out from ho.rd).len
    rcases Nat.eq_zero_or_pos j with h0 | h0
    · subst h0
      have i1 : ¬ (0 : Int) ≤ ((0 : Nat) : Int) - 1 := by omega
      have HE : Hid ((val out).toNat = x / D ∧ q = ((x % D : Nat) : Int)) := Lib.hid (by
        have h := HS.out.end_
        rw [val_natL] at h
        refine ⟨?_, ?_⟩
        · rw [h.1]; exact_mod_cast Int.toNat_natCast (x / D)
        · rw [h.2]; rfl)
      have HL := Lib.hid HS.out.lim
      have HLO := Lib.hid hol
      go_wp2_with fail
      refine (trimmed_any B n n w.heap.size out wr ho HL.out (by omega)).mono ?_
      rw [HE.out.1]
      rintro e w' ⟨rfl, ho5, rfl⟩
      go_wp2_with fail
      exact bodyPost_ret (v := .tuple #[.slice B (natL (x / D)).length n, .int .i64 q]) (by simp [results, Try.results117, go_sem]) rfl ⟨B, n, by rw [HE.out.2], ho5, hz⟩
    · obtain ⟨i, rfl⟩ : ∃ i, j = i + 1 := ⟨j - 1, by omega⟩
      have ei : ((i + 1 : Nat) : Int) - 1 = (i : Int) := by omega
      rw [ei]
      have i1 : (0 : Int) ≤ (i : Int) := by omega
      have i2 : (i : Int) < (n : Int) := by omega
      have hq0 := HS.out.r0
      have hq1 := HS.out.r1
      obtain ⟨b, off, rfl, _, hcb⟩ := (hx.below hz).at_ (k := i) (by omega)
      obtain ⟨g, o, rfl, hgl, hglt, hca, hfa⟩ := ho.at_ (k := i) (by rw [length_ints]; omega)
      have hli := (lims_natL x).at_ (k := i) (by rw [HLX.out]; omega)
      have HS2 := HS.out.step (lims_natL x) (show i < (natL x).length by rw [HLX.out]; omega)
      obtain ⟨y, hy⟩ : ∃ y, (natL x)[i]'(by rw [HLX.out]; omega) = y := ⟨_, rfl⟩
      rw [hy] at hcb hli HS2
      have HS2 := Lib.hid HS2
      obtain ⟨t, ht⟩ : ∃ t, q * 1000000 + y = t := ⟨_, rfl⟩
      rw [ht] at HS2
      have wm : IntKind.i64.wrap (q * 1000000) = q * 1000000 := IntWalk.i64_in _ (by omega)
      have wt : IntKind.i64.wrap (q * 1000000 + y) = t := by rw [ht]; exact IntWalk.i64_in _ (by omega)
      have ht0 : 0 ≤ t := by omega
      have ht1 : t ≤ 1000000000000 := by omega
      have hq2 : 0 ≤ t / D ∧ t / D ≤ t := ⟨Int.ediv_nonneg ht0 (by omega), Int.ediv_le_self _ ht0⟩
      have hm2 : 0 ≤ t % D ∧ t % D < D := ⟨Int.emod_nonneg _ (by omega), Int.emod_lt_of_pos _ (by omega)⟩
      have wq : IntKind.i64.wrap (Int.tdiv t D) = t / D := by rw [Int.tdiv_eq_ediv_of_nonneg ht0]; exact IntWalk.i64_in _ (by omega)
      have wr' : IntKind.i64.wrap (Int.tmod t D) = t % D := by rw [Int.tmod_eq_emod_of_nonneg ht0]; exact IntWalk.i64_in _ (by omega)
      have wi : IntKind.i64.wrap ((i : Int) - 1) = (i : Int) - 1 := IntWalk.i64_in _ (by omega)
      obtain ⟨u, hu⟩ : ∃ u, t / D = u := ⟨_, rfl⟩
      obtain ⟨v, hv⟩ : ∃ v, t % D = v := ⟨_, rfl⟩
      rw [hu] at wq HS2
      rw [hv] at wr' HS2
      have ho5 := ho.set_ (k := i) (by rw [length_ints]; omega) (.int .i64 u)
      rw [ints_set] at ho5
      have hz5 := hz.setCell (p := ⟨g, o + i, none⟩) hgl (.int .i64 u)
      have HVV := Lib.hid hv
      clear hy ht hu hv hq2 hm2 hli HS
      go_upto_region 6 with fail
      go_region
      go_wp2_with fail
      go_roundw
      case rel => exact ⟨i, out.set i u, v, by omega, by go_num, by first | rfl | rw [HVV.out], ho5, below_drewN hz5 1, HS2⟩
      case measure => simp [intOf]
set_option maxRecDepth 100000 in
set_option maxHeartbeats 4000000 in
theorem subtract_any (A : Option Addr) (n c x : Nat) (B : Option Addr) (m d y : Nat) (w : World) (hx : SI w A n (natL x)) (hy : SI w B m (natL y)) (hn : n ≤ 1000) (hm : m ≤ 1000) (hxy : y ≤ x) :
    Calls Try.prog 110 #[.slice A n c, .slice B m d] w (NewN w (x - y)) := by
  have hlx := hx.len
  have HLX := Lib.hid hlx
  have HLY := Lib.hid hy.len
  have HMN : Hid (m ≤ n) := Lib.hid (by have := natL_len_mono hxy; rw [hlx, hy.len] at this; exact this)
  have HCL := Lib.hid (cloneI_any A n c (natL x) w hx (by omega))
  have HVV : Hid (val (natL y) ≤ val (natL x)) := Lib.hid (by rw [val_natL, val_natL]; exact_mod_cast hxy)
  clear hlx
  go_enter Try.func110, Try.ntmps110
  go_wp2_with (go_at_call 107; refine HCL.out.mono ?_; rintro e w2 ⟨D, dc, rfl, ho2, hz2⟩)
  rw [HLX.out] at ho2 ⊢
  go_wp2_with fail
  go_loopw [11] (fun s wr => ∃ (j : Nat) (out : List Int), j ≤ n ∧ s = .int .i64 (j : Int) ∧ Own wr w.heap.size 2 1 D n dc (ints out) ∧ Below w.heap.size w wr ∧ Hid (SubS (natL x) (natL y) j out)) (fun s _ => n - (intOf s).toNat)
  case atStart => exact ⟨0, natL x, Nat.zero_le _, rfl, ho2, hz2, Lib.hid (SubS.start _ (lims_natL x))⟩
  case round =>
    obtain ⟨j, out, hj, rfl, ho, hz, HS⟩ := hrel
    clear ho2 hz2 HCL
    have hol : out.length = n := (show SI wr D n out from ho.rd).len
    have HOL := Lib.hid hol
    by_cases hlt : j < n
    rotate_left
    · obtain rfl : j = n := by omega
      have i1 : ¬ (j : Int) < (j : Int) := by omega
      have h := HS.out.end_ (by omega) (by rw [HLX.out, HLY.out]; exact HMN.out)
      have HL := Lib.hid h.1
      have HE : Hid ((val out).toNat = x - y) := Lib.hid (by rw [h.2, val_natL, val_natL]; omega)
      clear h
      go_wp2_with fail
      refine (trimmed_any D j dc w.heap.size out wr ho HL.out (by omega)).mono ?_
      rw [HE.out]
      rintro e w' ⟨rfl, ho5, rfl⟩
      go_wp2_with fail
      go_ret
      exact ⟨D, dc, rfl, ho5, hz⟩
    have i1 : (j : Int) < (n : Int) := by omega
    have i2 : (0 : Int) ≤ (j : Int) := by omega
    obtain ⟨g, o, rfl, hgl, hglt, hca, hfa⟩ := ho.at_ (k := j) (by rw [length_ints]; omega)
    rw [ints_get] at hca
    have hat := HS.out.at_ (show j < out.length by omega)
    obtain ⟨p, hp⟩ : ∃ p, out[j]'(by omega) = p := ⟨_, rfl⟩
    rw [hp] at hca hat
    -- what is taken off at j
    have key : ∀ (s t : Int), val ((natL y).take (j + 1)) = val ((natL y).take j) + s * pw j → p - s = t → 0 ≤ s → s < 1000000 →
        (0 ≤ t → SubS (natL x) (natL y) (j + 1) (out.set j t)) ∧ (t < 0 → ∃ h : j + 1 < out.length, SubS (natL x) (natL y) (j + 1) ((out.set j (t + 1000000)).set (j + 1) (out[j + 1] - 1))) := by
      intro s t hs ht h0 h1
      have hyy : t = out[j]'(by omega) - s := by rw [hp]; omega
      refine ⟨fun h2 => HS.out.step (by omega) hs hyy (by omega), fun h2 => ?_⟩
      have h3 := HS.out.no_borrow (by omega) (by rw [HLX.out, HLY.out]; exact HMN.out) HVV.out hs hyy h2
      exact ⟨h3, HS.out.borrow (by omega) h3 hs hyy (by omega)⟩
    have HK := Lib.hid key
    clear key
    by_cases hjm : j < m
    · have i3 : (j : Int) < (m : Int) := by omega
      obtain ⟨b, off, rfl, _, hcb⟩ := (hy.below hz).at_ hjm
      have hyr := (lims_natL y).at_ (k := j) (by rw [HLY.out]; omega)
      obtain ⟨s, hs⟩ : ∃ s, (natL y)[j]'(by rw [HLY.out]; omega) = s := ⟨_, rfl⟩
      rw [hs] at hcb hyr
      have hvs := val_take_succ (xs := natL y) (k := j) (by rw [HLY.out]; omega)
      rw [hs] at hvs
      obtain ⟨t, ht⟩ : ∃ t, p - s = t := ⟨_, rfl⟩
      have wt : IntKind.i64.wrap (p - s) = t := by rw [ht]; exact IntWalk.i64_in _ (by omega)
      have HT := Lib.hid (HK.out s t hvs ht hyr.1 hyr.2)
      have htb : -1000000 ≤ t ∧ t < 1000000 := by omega
      have ho5 := ho.set_ (k := j) (by rw [length_ints]; omega) (.int .i64 t)
      rw [ints_set] at ho5
      have hz5 := hz.setCell (p := ⟨g, o + j, none⟩) hgl (.int .i64 t)
      clear hp hs hvs ht hyr HK hat
      go_upto_region 6 with fail
      go_region
      have hz6 := below_drewN hz5 1
      have ho6 := ho5.drewN 1
      clear hz5 ho5 hca
      generalize hW6 : ((wr.setCell ⟨g, o + j, none⟩ (.int .i64 t)).drewN 1) = W6 at *
      have hW7 : (wr.setCell ⟨g, o + j, none⟩ (.int .i64 t)).drew = W6 := hW6
      rw [hW7]
      clear hW6 hW7 i3 hcb wt hfa
      go_upto_region 7 with fail
      obtain ⟨_, _, e6, hgl6, _, hca6, hfa6⟩ := ho6.at_ (k := j) (by rw [length_ints, List.length_set]; omega)
      cases e6
      rw [ints_get] at hca6
      simp only [List.getElem_set_self] at hca6
      by_cases ht : t < 0
      rotate_left
      · have HS2 := Lib.hid (HT.out.1 (by omega))
        go_wp2_with fail
        go_roundw
        case rel => exact ⟨j + 1, out.set j t, by omega, by go_num, ho6, hz6, HS2⟩
        case measure => simp [intOf]; omega
      · obtain ⟨h3, HS1⟩ := HT.out.2 ht
        obtain ⟨k1, hk1⟩ : ∃ k1, k1 = j + 1 := ⟨_, rfl⟩
        have hk1n : k1 < n := by omega
        have hrr := HS.out.hi k1 (by omega) (by omega)
        obtain ⟨r, hr⟩ : ∃ r, out[k1]'(by omega) = r := ⟨_, rfl⟩
        have HS2 : Hid (SubS (natL x) (natL y) k1 ((out.set j (t + 1000000)).set k1 (r - 1))) := Lib.hid (by subst hk1; rw [← hr]; exact HS1)
        obtain ⟨_, _, e7, _, _, hc7, hf7⟩ := ho6.at_ (k := k1) (by rw [length_ints, List.length_set]; omega)
        cases e7
        rw [ints_get, List.getElem_set_ne (by omega), hr] at hc7
        rw [hr] at hrr
        have wt2 : IntKind.i64.wrap (t + 1000000) = t + 1000000 := IntWalk.i64_in _ (by omega)
        have wk : IntKind.i64.wrap ((j : Int) + 1) = (k1 : Int) := by rw [show (j : Int) + 1 = (k1 : Int) by omega]; exact IntWalk.i64_in _ (by omega)
        have wr1 : IntKind.i64.wrap (r - 1) = r - 1 := IntWalk.i64_in _ (by omega)
        have hne : j ≠ k1 := by omega
        have k0 : (0 : Int) ≤ (k1 : Int) := by omega
        have k2 : (k1 : Int) < (n : Int) := by omega
        have ho7 := (ho6.set_ (k := j) (by rw [length_ints, List.length_set]; omega) (.int .i64 (t + 1000000))).set_ (k := k1) (by rw [List.length_set, length_ints, List.length_set]; omega) (.int .i64 (r - 1))
        rw [ints_set, List.set_set, ints_set] at ho7
        have hz7 := (hz6.setCell (p := ⟨g, o + j, none⟩) hgl6 (.int .i64 (t + 1000000))).setCell (p := ⟨g, o + k1, none⟩) hgl6 (.int .i64 (r - 1))
        have hms : n - k1 < n - j := by omega
        have hkn : k1 ≤ n := by omega
        clear hr hk1 HS1 h3
        go_wp2_with fail
        go_roundw
        case rel => exact ⟨k1, _, hkn, rfl, ho7, hz7, HS2⟩
        case measure => simp [intOf]; omega
    · have i3 : ¬ (j : Int) < (m : Int) := by omega
      have hvs : val ((natL y).take (j + 1)) = val ((natL y).take j) + 0 * pw j := by rw [List.take_of_length_le (by rw [HLY.out]; omega), List.take_of_length_le (by rw [HLY.out]; omega)]; simp
      have HT := Lib.hid (HK.out 0 p hvs (by omega) (by omega) (by omega))
      have htb : -1000000 ≤ p ∧ p < 1000000 := by omega
      have ho6 : Own wr w.heap.size 2 1 (some ⟨g, o, none⟩) n dc (ints (out.set j p)) := by rw [← hp, List.set_getElem_self]; exact ho
      have hz6 := hz
      clear hp hvs HK hat hca hfa
      go_upto_region 7 with fail
      obtain ⟨_, _, e6, hgl6, _, hca6, hfa6⟩ := ho6.at_ (k := j) (by rw [length_ints, List.length_set]; omega)
      cases e6
      rw [ints_get] at hca6
      simp only [List.getElem_set_self] at hca6
      by_cases ht : p < 0
      rotate_left
      · have HS2 := Lib.hid (HT.out.1 (by omega))
        go_wp2_with fail
        go_roundw
        case rel => exact ⟨j + 1, out.set j p, by omega, by go_num, ho6, hz6, HS2⟩
        case measure => simp [intOf]; omega
      · obtain ⟨h3, HS1⟩ := HT.out.2 ht
        obtain ⟨k1, hk1⟩ : ∃ k1, k1 = j + 1 := ⟨_, rfl⟩
        have hk1n : k1 < n := by omega
        have hrr := HS.out.hi k1 (by omega) (by omega)
        obtain ⟨r, hr⟩ : ∃ r, out[k1]'(by omega) = r := ⟨_, rfl⟩
        have HS2 : Hid (SubS (natL x) (natL y) k1 ((out.set j (p + 1000000)).set k1 (r - 1))) := Lib.hid (by subst hk1; rw [← hr]; exact HS1)
        obtain ⟨_, _, e7, _, _, hc7, hf7⟩ := ho6.at_ (k := k1) (by rw [length_ints, List.length_set]; omega)
        cases e7
        rw [ints_get, List.getElem_set_ne (by omega), hr] at hc7
        rw [hr] at hrr
        have wt2 : IntKind.i64.wrap (p + 1000000) = p + 1000000 := IntWalk.i64_in _ (by omega)
        have wk : IntKind.i64.wrap ((j : Int) + 1) = (k1 : Int) := by rw [show (j : Int) + 1 = (k1 : Int) by omega]; exact IntWalk.i64_in _ (by omega)
        have wr1 : IntKind.i64.wrap (r - 1) = r - 1 := IntWalk.i64_in _ (by omega)
        have hne : j ≠ k1 := by omega
        have k0 : (0 : Int) ≤ (k1 : Int) := by omega
        have k2 : (k1 : Int) < (n : Int) := by omega
        have ho7 := (ho6.set_ (k := j) (by rw [length_ints, List.length_set]; omega) (.int .i64 (p + 1000000))).set_ (k := k1) (by rw [List.length_set, length_ints, List.length_set]; omega) (.int .i64 (r - 1))
        rw [ints_set, List.set_set, ints_set] at ho7
        have hz7 := (hz6.setCell (p := ⟨g, o + j, none⟩) hgl6 (.int .i64 (p + 1000000))).setCell (p := ⟨g, o + k1, none⟩) hgl6 (.int .i64 (r - 1))
        have hms : n - k1 < n - j := by omega
        have hkn : k1 ≤ n := by omega
        clear hr hk1 HS1 h3
        go_wp2_with fail
        go_roundw
        case rel => exact ⟨k1, _, hkn, rfl, ho7, hz7, HS2⟩
        case measure => simp [intOf]; omega
end Go.Proofs.Ytpleclmlcojkdaa

/-
  Contracts of impl's multiply, one, pairOf, triangle.
-/
namespace Go.Proofs.Ytpleclmlcojkdaa
open Go.RowKit

set_option maxRecDepth 100000 in
set_option maxHeartbeats 4000000 in
theorem multiply_any (A : Option Addr) (n c x : Nat) (B : Option Addr) (m d y : Nat) (w : World) (hx : SI w A n (natL x)) (hy : SI w B m (natL y)) (hn : n ≤ 1000) (hm : m ≤ 1000) :
    Calls Try.prog 115 #[.slice A n c, .slice B m d] w (NewN w (x * y)) := by
  have HLX := Lib.hid hx.len
  have HLY := Lib.hid hy.len
  obtain ⟨N, hN⟩ : ∃ N, N = n + m := ⟨_, rfl⟩
  have wN : IntKind.i64.wrap ((n : Int) + (m : Int)) = (N : Int) := by rw [show (n : Int) + (m : Int) = (N : Int) by omega]; exact IntWalk.i64_in _ (by omega)
  have HN := Lib.hid hN
  have hN2 : N ≤ 2000 := by omega
  clear hN
  go_enter Try.func115, Try.ntmps115
  go_upto_region 2 with (at_make; refine wpList_make_Own rfl (.tmp 14) (.tmp 14) rfl elI (n := N) (lo := w.heap.size) rfl rfl (by omega) (by unfold maxLen; omega) (Nat.le_refl _) ?_; intro w2 ho2 hb2 hs2)
  rw [made_zeros] at ho2
  generalize hD : (some ⟨w.heap.size, 0, none⟩ : Option Addr) = D at *
  clear hD hs2 wN
  go_wp2_with fail
  go_loopw [18] (fun s wr => ∃ (j : Nat) (arr : List Int), j ≤ n ∧ s = .int .i64 (j : Int) ∧ Own wr w.heap.size 2 1 D N N (ints arr) ∧ Below w.heap.size w wr ∧ Hid (lims arr) ∧ Hid (val arr = val ((natL x).take j) * val (natL y))) (fun s _ => n - (intOf s).toNat)
  case atStart => exact ⟨0, _, Nat.zero_le _, rfl, ho2, hb2, Lib.hid (lims_zeros _), Lib.hid (by rw [val_zeros, List.take_zero]; show 0 = 0 * _; simp)⟩
  case round =>
    obtain ⟨j, arr, hj, rfl, ho, hz, HLM, HV⟩ := hrel
    clear ho2 hb2
    by_cases hlt : j < n
    rotate_left
    · obtain rfl : j = n := by omega
      have i1 : ¬ (j : Int) < (j : Int) := by omega
      have HE : Hid ((val arr).toNat = x * y) := Lib.hid (by
        rw [HV.out, List.take_of_length_le (by rw [HLX.out]; exact Nat.le_refl _), val_natL, val_natL, ← Int.natCast_mul, Int.toNat_natCast])
      go_wp2_with fail
      refine (trimmed_any D N N w.heap.size arr wr ho HLM.out (by omega)).mono ?_
      rw [HE.out]
      rintro e w' ⟨rfl, ho5, rfl⟩
      go_wp2_with fail
      go_ret
      exact ⟨D, N, rfl, ho5, hz⟩
    have hal : arr.length = N := (show SI wr D N arr from ho.rd).len
    have HAL : Hid (arr.length = (natL x).length + (natL y).length) := Lib.hid (by rw [hal, HLX.out, HLY.out, HN.out])
    have i1 : (j : Int) < (n : Int) := by omega
    have i2 : (0 : Int) ≤ (j : Int) := by omega
    obtain ⟨ba, oa, rfl, _, hca⟩ := (hx.below hz).at_ hlt
    obtain ⟨p, hp⟩ : ∃ p, (natL x)[j]'(by rw [HLX.out]; omega) = p := ⟨_, rfl⟩
    have hpr := (lims_natL x).at_ (k := j) (by rw [HLX.out]; omega)
    rw [hp] at hca hpr
    have HP := Lib.hid hp
    have H0 : Hid (MulI (natL x) (natL y) j (val ((natL x).take j) * val (natL y)) 0 arr 0) := Lib.hid (by have := MulI.start (i := j) HAL.out HLM.out; rw [HV.out] at this; exact this)
    clear hp
    go_upto_region 7 with fail
    clear hca
    have hjn : j < n := hlt
    go_loopw [8, 9] (fun cc kk wr => ∃ (k : Nat) (out : List Int) (cy : Int), kk = .int .i64 (k : Int) ∧ cc = .int .i64 cy ∧ Own wr w.heap.size 2 1 D N N (ints out) ∧ Below w.heap.size w wr ∧ k ≤ m + 1 ∧ 0 ≤ cy ∧ cy < 1000000 ∧ Hid (MulI (natL x) (natL y) j (val ((natL x).take j) * val (natL y)) k out cy)) (fun _ kk _ => m + 2 - (intOf kk).toNat)
    case atStart => exact ⟨0, arr, 0, rfl, rfl, ho, hz, by omega, by omega, by omega, H0⟩
    case round =>
      obtain ⟨k, out, cy, rfl, rfl, ho3, hz3, hkm, hc0, hc1, HS⟩ := hrel
      clear ho hz H0
      have hol : out.length = N := (show SI _ D N out from ho3.rd).len
      by_cases hk : k < m
      · have i3 : (k : Int) < (m : Int) := by omega
        have i4 : (0 : Int) ≤ (k : Int) := by omega
        obtain ⟨q, hq⟩ : ∃ q, q = j + k := ⟨_, rfl⟩
        have hqN : q < N := by have := HN.out; omega
        obtain ⟨g, o, rfl, hgl, _, hcq, hfq⟩ := ho3.at_ (k := q) (by rw [length_ints]; omega)
        obtain ⟨bb, ob, rfl, _, hcb⟩ := (hy.below hz3).at_ hk
        have HST := Lib.hid (HS.out.step1 (lims_natL x) (lims_natL y) (by rw [HLX.out]; omega) (by rw [HLY.out]; omega) (show j + k < out.length by omega))
        rw [ints_get] at hcq
        obtain ⟨u, hu⟩ : ∃ u, out[q]'(by omega) = u := ⟨_, rfl⟩
        obtain ⟨v, hv⟩ : ∃ v, (natL y)[k]'(by rw [HLY.out]; omega) = v := ⟨_, rfl⟩
        have hur := HS.out.lim.at_ (k := q) (by omega)
        have hvr := (lims_natL y).at_ (k := k) (by rw [HLY.out]; omega)
        obtain ⟨t, ht⟩ : ∃ t, cy + u + p * v = t := ⟨_, rfl⟩
        have HST2 : Hid (MulI (natL x) (natL y) j (val ((natL x).take j) * val (natL y)) (k + 1) (out.set q (t % 1000000)) (t / 1000000) ∧ 0 ≤ t ∧ t < 1000000000000) := Lib.hid (by
          subst hq; subst hu; subst hv; have h := HST.out; rw [HP.out, ht] at h; exact h)
        have hpv0 : 0 ≤ p * v := by rw [← hv]; exact Int.mul_nonneg hpr.1 hvr.1
        have hpv1 : p * v ≤ 999999 * 999999 := by rw [← hv]; exact Int.mul_le_mul (by omega) (by omega) hvr.1 (by omega)
        have ht0 := HST2.out.2.1
        have ht1 := HST2.out.2.2
        rw [hu] at hcq hur
        rw [hv] at hcb
        have wq : IntKind.i64.wrap ((j : Int) + (k : Int)) = (q : Int) := by rw [show (j : Int) + (k : Int) = (q : Int) by omega]; exact IntWalk.i64_in _ (by omega)
        obtain ⟨cu, hcu⟩ : ∃ cu, cy + u = cu := ⟨_, rfl⟩
        obtain ⟨pv, hpv⟩ : ∃ pv, p * v = pv := ⟨_, rfl⟩
        rw [hpv] at hpv0 hpv1
        have w1 : IntKind.i64.wrap (cy + u) = cu := by rw [hcu]; exact IntWalk.i64_in _ (by omega)
        have w2' : IntKind.i64.wrap (p * v) = pv := by rw [hpv]; exact IntWalk.i64_in _ (by omega)
        have w3 : IntKind.i64.wrap (cu + pv) = t := by rw [← hcu, ← hpv, ht]; exact IntWalk.i64_in _ (by omega)
        have wm : IntKind.i64.wrap (Int.tmod t 1000000) = t % 1000000 := by rw [Int.tmod_eq_emod_of_nonneg ht0]; exact IntWalk.i64_in _ (by omega)
        have wd : IntKind.i64.wrap (Int.tdiv t 1000000) = t / 1000000 := by rw [Int.tdiv_eq_ediv_of_nonneg ht0]; exact IntWalk.i64_in _ (by omega)
        have wk : IntKind.i64.wrap ((k : Int) + 1) = (k : Int) + 1 := IntWalk.i64_in _ (by omega)
        have q0 : (0 : Int) ≤ (q : Int) := by omega
        have q1 : (q : Int) < (N : Int) := by omega
        have ho5 := ho3.set_ (k := q) (by rw [length_ints]; omega) (.int .i64 (t % 1000000))
        rw [ints_set] at ho5
        have hz5 := hz3.setCell (p := ⟨g, o + q, none⟩) hgl (.int .i64 (t % 1000000))
        have HST3 := Lib.hid HST2.out.1
        have hd0 : 0 ≤ t / 1000000 ∧ t / 1000000 < 1000000 := by omega
        clear hu hv ht hcu hpv hur hvr hq HST HST2 hpv0 hpv1
        go_wp2_with fail
        go_roundw
        case rel => exact ⟨k + 1, out.set q (t % 1000000), t / 1000000, by go_num, by first | rfl | rw [wd], ho5, hz5, by omega, hd0.1, hd0.2, HST3⟩
        case measure => (simp [intOf] <;> omega)
      · have i3 : ¬ (k : Int) < (m : Int) := by omega
        by_cases hcy : 0 < cy
        · have hkb := HS.out.bound (lims_natL x) (lims_natL y) (by rw [HLX.out]; omega) hcy
          rw [HLY.out] at hkb
          obtain rfl : k = m := by omega
          obtain ⟨q, hq⟩ : ∃ q, q = j + k := ⟨_, rfl⟩
          have hqN : q < N := by have := HN.out; omega
          obtain ⟨g, o, rfl, hgl, _, hcq, hfq⟩ := ho3.at_ (k := q) (by rw [length_ints]; omega)
          have HST := Lib.hid (HS.out.step2 (by rw [HLY.out]; omega) (show j + k < out.length by omega))
          rw [ints_get] at hcq
          obtain ⟨u, hu⟩ : ∃ u, out[q]'(by omega) = u := ⟨_, rfl⟩
          have hur := HS.out.lim.at_ (k := q) (by omega)
          obtain ⟨t, ht⟩ : ∃ t, cy + u = t := ⟨_, rfl⟩
          have HST3 : Hid (MulI (natL x) (natL y) j (val ((natL x).take j) * val (natL y)) (k + 1) (out.set q (t % 1000000)) (t / 1000000)) := Lib.hid (by
            subst hq; subst hu; have h := HST.out; rw [ht] at h; exact h)
          rw [hu] at hcq hur
          have ht0 : 0 ≤ t := by omega
          have ht1 : t < 2000000 := by omega
          have wq : IntKind.i64.wrap ((j : Int) + (k : Int)) = (q : Int) := by rw [show (j : Int) + (k : Int) = (q : Int) by omega]; exact IntWalk.i64_in _ (by omega)
          have w1 : IntKind.i64.wrap (cy + u) = t := by rw [ht]; exact IntWalk.i64_in _ (by omega)
          have wm : IntKind.i64.wrap (Int.tmod t 1000000) = t % 1000000 := by rw [Int.tmod_eq_emod_of_nonneg ht0]; exact IntWalk.i64_in _ (by omega)
          have wd : IntKind.i64.wrap (Int.tdiv t 1000000) = t / 1000000 := by rw [Int.tdiv_eq_ediv_of_nonneg ht0]; exact IntWalk.i64_in _ (by omega)
          have wk : IntKind.i64.wrap ((k : Int) + 1) = (k : Int) + 1 := IntWalk.i64_in _ (by omega)
          have q0 : (0 : Int) ≤ (q : Int) := by omega
          have q1 : (q : Int) < (N : Int) := by omega
          have ho5 := ho3.set_ (k := q) (by rw [length_ints]; omega) (.int .i64 (t % 1000000))
          rw [ints_set] at ho5
          have hz5 := hz3.setCell (p := ⟨g, o + q, none⟩) hgl (.int .i64 (t % 1000000))
          have hd0 : 0 ≤ t / 1000000 ∧ t / 1000000 < 1000000 := by omega
          clear hu ht hur hq HST
          go_wp2_with fail
          go_roundw
          case rel => exact ⟨k + 1, out.set q (t % 1000000), t / 1000000, by go_num, by first | rfl | rw [wd], ho5, hz5, by omega, hd0.1, hd0.2, HST3⟩
          case measure => (simp [intOf] <;> omega)
        · obtain rfl : cy = 0 := by omega
          have HE : Hid (val out = val ((natL x).take (j + 1)) * val (natL y)) := Lib.hid (HS.out.end_ (by rw [HLX.out]; omega) (by rw [HLY.out]; omega))
          have HL2 := Lib.hid HS.out.lim
          go_wp2_with fail
          go_roundw
          case rel => exact ⟨j + 1, out, by omega, by go_num, ho3, hz3, HL2, HE⟩
          case measure => (simp [intOf] <;> omega)
theorem natL_one : natL 1 = [1] := by rw [natL_pos (by omega)]; simp [natL_zero]
theorem natL_small {x : Nat} (h0 : 0 < x) (h1 : x < 1000000) : natL x = [(x : Int)] := by rw [natL_pos h0, show x % 1000000 = x by omega, show x / 1000000 = 0 by omega, natL_zero]
set_option maxHeartbeats 1000000 in
theorem one_nat (w : World) : Calls Try.prog 108 #[] w (NewN w 1) := by
  obtain ⟨W1, hW_⟩ : ∃ W_, W_ = w.alloc (.cells #[.int .i64 1] 2) := ⟨_, rfl⟩
  have b1 : Blk W1 w.heap.size 2 #[.int .i64 1] := by rw [hW_]; exact Blk.new w _ _
  have z1 : Below w.heap.size w W1 := by rw [hW_]; exact (Below.refl _ _).alloc (Nat.le_refl _) _
  have HW1 := Lib.hid hW_
  clear hW_
  have o1 : Own W1 w.heap.size 2 1 (some ⟨w.heap.size, 0, none⟩) 1 1 (ints (natL 1)) := by
    rw [HW1.out, natL_one]; exact Own.lit w #[.int .i64 1] _ 1 1 w.heap.size rfl (by simp [maxLen]) (Nat.le_refl _)
  have hl : (natL 1).length = 1 := by rw [natL_one]; rfl
  go_enter Try.func108, Try.ntmps108
  go_wp2_with fail
  go_ret
  rw [← HW1.out]
  exact ⟨some ⟨w.heap.size, 0, none⟩, 1, by rw [hl]; rfl, by rw [hl]; exact o1, z1⟩
/-- Lengths. -/
theorem add_len {x y k : Nat} (hx : (natL x).length ≤ k) (hy : (natL y).length ≤ k) : (natL (x + y)).length ≤ k + 1 := natL_len_le (by
  have h1 := natL_lt x
  have h2 := natL_lt y
  have h3 := pw_mono hx
  have h4 := pw_mono hy
  rw [pw_succ]
  have := pw_pos k
  omega)
theorem mul_len {x y k l : Nat} (hx : (natL x).length ≤ k) (hy : (natL y).length ≤ l) : (natL (x * y)).length ≤ k + l := natL_len_le (by
  have h1 := natL_lt x
  have h2 := natL_lt y
  have h3 := pw_mono hx
  have h4 := pw_mono hy
  rw [pw_add]
  have p1 := pw_pos k
  have p2 := pw_pos l
  have m1 : (x : Int) * y ≤ x * pw l := Int.mul_le_mul_of_nonneg_left (by omega) (by omega)
  have m2 : (x : Int) * pw l < pw k * pw l := Int.mul_lt_mul_of_pos_right (by omega) p2
  rw [Int.natCast_mul]
  omega)
set_option maxRecDepth 100000 in
set_option maxHeartbeats 2000000 in
theorem pairOfI_any (A : Option Addr) (n c x : Nat) (B : Option Addr) (m d y : Nat) (w : World) (hx : SI w A n (natL x)) (hy : SI w B m (natL y)) (hn : n ≤ 400) (hm : m ≤ 400) :
    Calls Try.prog 99 #[.slice A n c, .slice B m d] w (NewN w (pairN x y)) := by
  have hlx := hx.len
  have hly := hy.len
  have l1 : (natL (x + y)).length ≤ 401 := add_len (by omega) (by omega)
  have l2 : (natL (x + y + 1)).length ≤ 402 := add_len (k := 401) l1 (by rw [natL_one]; simp)
  have l3 : (natL ((x + y) * (x + y + 1))).length ≤ 803 := mul_len l1 l2
  have l4 : (natL (tri (x + y))).length ≤ 803 := by rw [← tri_half]; exact Nat.le_trans (natL_len_mono (Nat.div_le_self _ _)) l3
  have L1 := Lib.hid l1
  have L2 := Lib.hid l2
  have L3 := Lib.hid l3
  have L4 := Lib.hid l4
  have lo : (natL 1).length = 1 := by rw [natL_one]; rfl
  have LO := Lib.hid lo
  have HY := Lib.hid hy
  have HADD := Lib.hid (add_any A n c x B m d y w hx hy (by omega) (by omega))
  clear hlx hly l1 l2 l3 l4 lo hx hy
  go_enter Try.func99, Try.ntmps99
  go_wp2_with fail
  refine HADD.out.mono ?_
  rintro e W1 ⟨A1, c1, rfl, o1, z1⟩
  go_wp2_with fail
  refine (one_nat W1).mono ?_
  rintro e W2 ⟨A2, c2, rfl, o2, z2⟩
  have r1 := Lib.hid (o1.below z2).rd
  have y2 := z1.trans (z2.mono z1.size)
  go_wp2_with fail
  refine (add_any A1 _ c1 (x + y) A2 _ c2 1 W2 r1.out o2.rd (by have := L1.out; omega) (by have := LO.out; omega)).mono ?_
  rintro e W3 ⟨A3, c3, rfl, o3, z3⟩
  have r3 := Lib.hid (show SI W3 A1 _ _ from r1.out.below z3)
  have y3 := y2.trans (z3.mono y2.size)
  go_wp2_with fail
  refine (multiply_any A1 _ c1 (x + y) A3 _ c3 (x + y + 1) W3 r3.out o3.rd (by have := L1.out; omega) (by have := L2.out; omega)).mono ?_
  rintro e W4 ⟨A4, c4, rfl, o4, z4⟩
  have y4 := y3.trans (z4.mono y3.size)
  go_wp2_with fail
  refine (divideSmall_any A4 _ c4 ((x + y) * (x + y + 1)) 2 W4 o4.rd (by have := L3.out; omega) (by omega) (by omega)).mono ?_
  rw [tri_half]
  rintro e W5 ⟨A5, c5, rfl, o5, z5⟩
  have y5 := y4.trans (z5.mono y4.size)
  go_wp2_with fail
  refine (add_any A5 _ c5 (tri (x + y)) B m d y W5 o5.rd (HY.out.below y5) (by have := L4.out; omega) (by omega)).mono ?_
  rintro e W6 ⟨A6, c6, rfl, o6, z6⟩
  go_wp2_with fail
  go_ret
  exact ⟨A6, c6, rfl, o6.mono y5.size, y5.trans (z6.mono y5.size)⟩
theorem pairN_zero (x : Nat) : pairN x 0 = tri x := rfl
set_option maxHeartbeats 1000000 in
theorem triangleI_any (A : Option Addr) (n c x : Nat) (w : World) (hx : SI w A n (natL x)) (hn : n ≤ 400) :
    Calls Try.prog 178 #[.slice A n c] w (NewN w (tri x)) := by
  have HP := Lib.hid (pairOfI_any A n c x none 0 0 0 w hx (by rw [natL_zero]; exact SI.nil) hn (by omega))
  rw [pairN_zero] at HP
  go_enter Try.func178, Try.ntmps178
  go_wp2_with fail
  refine HP.out.mono ?_
  rintro e W1 ⟨A1, c1, rfl, o1, z1⟩
  go_wp2_with fail
  go_ret
  exact ⟨A1, c1, rfl, o1, z1⟩
end Go.Proofs.Ytpleclmlcojkdaa

/-
  Slices of structs of three numbers.
-/
namespace Go.Proofs.Ytpleclmlcojkdaa
open Go.RowKit

/-- Three numbers. -/
structure R3 where
  a : Int
  b : Int
  c : Int
  deriving DecidableEq
def R3.cells (r : R3) : List Value := [.int .i64 r.a, .int .i64 r.b, .int .i64 r.c]
def cells3 (rs : List R3) : List Value := rs.flatMap R3.cells
theorem length_cells3 (rs : List R3) : (cells3 rs).length = rs.length * 3 := by
  induction rs with
  | nil => rfl
  | cons r rs ih => simp [cells3, R3.cells] at ih ⊢; omega
theorem cells3_get : ∀ (rs : List R3) (k : Nat) (r : R3), rs[k]? = some r → (cells3 rs)[k * 3]? = some (.int .i64 r.a) ∧ (cells3 rs)[k * 3 + 1]? = some (.int .i64 r.b) ∧ (cells3 rs)[k * 3 + 2]? = some (.int .i64 r.c)
  | [], k, r, h => by simp at h
  | s :: rs, 0, r, h => by simp at h; subst h; simp [cells3, R3.cells]
  | s :: rs, k + 1, r, h => by
    have ih := cells3_get rs k r (by simpa using h)
    have e : cells3 (s :: rs) = .int .i64 s.a :: .int .i64 s.b :: .int .i64 s.c :: cells3 rs := by simp [cells3, R3.cells]
    rw [e, show (k + 1) * 3 = k * 3 + 3 from by omega]
    simpa using ih
theorem cells3_one (rs : List R3) : ∀ u ∈ cells3 rs, u.oneCell' = true := by
  intro u hu
  simp [cells3, R3.cells] at hu
  obtain ⟨r, _, h | h | h⟩ := hu <;> subst h <;> rfl
theorem cells3_set : ∀ (rs : List R3) (k : Nat) (r : R3), k < rs.length → (((cells3 rs).set (k * 3) (.int .i64 r.a)).set (k * 3 + 1) (.int .i64 r.b)).set (k * 3 + 2) (.int .i64 r.c) = cells3 (rs.set k r)
  | [], k, r, h => by simp at h
  | s :: rs, 0, r, h => by simp [cells3, R3.cells]
  | s :: rs, k + 1, r, h => by
    have ih := cells3_set rs k r (by simpa using h)
    have e : cells3 (s :: rs) = .int .i64 s.a :: .int .i64 s.b :: .int .i64 s.c :: cells3 rs := by simp [cells3, R3.cells]
    have e2 : cells3 ((s :: rs).set (k + 1) r) = .int .i64 s.a :: .int .i64 s.b :: .int .i64 s.c :: cells3 (rs.set k r) := by simp [cells3, R3.cells]
    rw [e, e2, ← ih, show (k + 1) * 3 = k * 3 + 3 from by omega]
    simp
theorem cells3_append (xs ys : List R3) : cells3 xs ++ cells3 ys = cells3 (xs ++ ys) := by simp [cells3]

/-- A slice that reads as a list of triples. -/
def S3 (w : World) (A : Option Addr) (n : Nat) (rs : List R3) : Prop := Rd w 3 A n (cells3 rs)
section
variable {w w' : World} {A : Option Addr} {n : Nat} {rs : List R3}
theorem S3.len (h : S3 w A n rs) : rs.length = n := by have := h.1; rw [length_cells3] at this; omega
theorem S3.pick (h : S3 w A n rs) {k : Nat} (hk : k < n) : ∃ r b off, Hid (rs[k]? = some r) ∧ r ∈ rs ∧ A = some ⟨b, off, none⟩ ∧ b < w.heap.size ∧
    w.cell? ⟨b, off + k * 3, none⟩ = some (.int .i64 r.a) ∧ w.cell? ⟨b, off + k * 3 + 1, none⟩ = some (.int .i64 r.b) ∧ w.cell? ⟨b, off + k * 3 + 2, none⟩ = some (.int .i64 r.c) := by
  have hl := h.len
  have hr : rs[k]? = some (rs[k]'(by omega)) := List.getElem?_eq_getElem (by omega)
  obtain ⟨h0, h1, h2⟩ := cells3_get rs k _ hr
  obtain ⟨b, off, e, hc⟩ := h.2 (by rw [length_cells3]; omega)
  obtain ⟨l0, g0⟩ := List.getElem?_eq_some_iff.1 h0
  obtain ⟨l1, g1⟩ := List.getElem?_eq_some_iff.1 h1
  obtain ⟨l2, g2⟩ := List.getElem?_eq_some_iff.1 h2
  have k0 := hc _ l0
  have k1 := hc _ l1
  have k2 := hc _ l2
  rw [g0] at k0
  rw [g1] at k1
  rw [g2] at k2
  exact ⟨_, b, off, hr, List.getElem_mem _, e, World.block_lt_of_cell? w _ k0, k0, by rw [Nat.add_assoc]; exact k1, by rw [Nat.add_assoc]; exact k2⟩
theorem S3.below (h : S3 w A n rs) (hb : Below w.heap.size w w') : S3 w' A n rs := Rd.below h hb
theorem S3.drewN (h : S3 w A n rs) (k : Nat) : S3 (w.drewN k) A n rs := h
theorem S3.alloc (h : S3 w A n rs) (o : Obj) : S3 (w.alloc o) A n rs := Rd.alloc h o
end
/-- After k copies into a list of zeros. -/
def copied3 (rs : List R3) (k : Nat) : List R3 := rs.take k ++ List.replicate (rs.length - k) ⟨0, 0, 0⟩
theorem copied3_end (rs : List R3) {k : Nat} (h : rs.length ≤ k) : copied3 rs k = rs := by
  unfold copied3
  rw [List.take_of_length_le h, show rs.length - k = 0 from by omega]; simp
theorem length_copied3 (rs : List R3) (k : Nat) (h : k ≤ rs.length) : (copied3 rs k).length = rs.length := by simp [copied3]; omega
theorem copied3_next (rs : List R3) (k : Nat) (r : R3) (h : rs[k]? = some r) : (copied3 rs k).set k r = copied3 rs (k + 1) := by
  obtain ⟨hk, rfl⟩ := List.getElem?_eq_some_iff.1 h
  unfold copied3
  have e1 : (rs.take k).length = k := by simp; omega
  rw [List.set_append_right _ _ (by omega), e1, Nat.sub_self, List.take_succ_eq_append_getElem hk, show rs.length - k = (rs.length - (k + 1)) + 1 from by omega, List.replicate_succ]
  simp only [List.set_cons_zero, List.append_assoc, List.singleton_append]
theorem made_cells3 (n : Nat) (rs : List R3) (h : rs.length = n) : (madeCells (Value.agg #[.int .i64 0, .int .i64 0, .int .i64 0]).cells (n * 3)).toList = cells3 (copied3 rs 0) := by
  show (madeCells #[Value.int .i64 0, .int .i64 0, .int .i64 0] (n * 3)).toList = _
  have e : copied3 rs 0 = List.replicate n ⟨0, 0, 0⟩ := by simp [copied3, h]
  rw [e]
  apply List.ext_getElem?
  intro j
  by_cases hj : j < n * 3
  · obtain ⟨q, r, rfl, hr⟩ : ∃ q r, j = q * 3 + r ∧ r < 3 := ⟨j / 3, j % 3, by omega, by omega⟩
    have hq : (List.replicate n (⟨0, 0, 0⟩ : R3))[q]? = some ⟨0, 0, 0⟩ := by rw [List.getElem?_replicate, if_pos (by omega)]
    obtain ⟨h0, h1, h2⟩ := cells3_get _ q _ hq
    have hm : (q * 3 + r) % 3 = r := by omega
    match r, hr with
    | 0, _ => simp only [Nat.add_zero] at hj hm ⊢; rw [h0]; simp [madeCells, hj]
    | 1, _ => rw [h1]; simp [madeCells, hj, hm]
    | 2, _ => rw [h2]; simp [madeCells, hj, hm]
  · have hl : (cells3 (List.replicate n (⟨0, 0, 0⟩ : R3))).length = n * 3 := by rw [length_cells3]; simp
    rw [List.getElem?_eq_none (by simp [size_madeCells]; omega), List.getElem?_eq_none (by omega)]
def same3 (xs ys : List R3) : Bool := decide (xs = ys)
theorem same3_self (xs : List R3) : same3 xs xs = true := by simp [same3]
def sameR (x y : R3) : Bool := decide (x = y)
theorem same3_ne {xs ys : List R3} {x y : R3} {k : Nat} (hx : xs[k]? = some x) (hy : ys[k]? = some y) (h : (!sameR x y) = true) : false = same3 xs ys := by
  unfold same3; symm; rw [decide_eq_false_iff_not]; rintro rfl
  rw [hx] at hy
  simp at hy
  simp [sameR, hy] at h
theorem same3_len {xs ys : List R3} {n m : Nat} (h : ¬ n = m) (hx : xs.length = n) (hy : ys.length = m) : false = same3 xs ys := by
  unfold same3; symm; rw [decide_eq_false_iff_not]; rintro rfl; omega
theorem same3_eq {xs ys : List R3} {n k : Nat} (hk : n ≤ k) (hx : xs.length = n) (hy : ys.length = n) (h : xs.take k = ys.take k) : true = same3 xs ys := by
  rw [List.take_of_length_le (by omega), List.take_of_length_le (by omega)] at h
  unfold same3; symm; rw [decide_eq_true_iff]; exact h
theorem same3_next {xs ys : List R3} {x y : R3} {k : Nat} (hx : xs[k]? = some x) (hy : ys[k]? = some y) (h : xs.take k = ys.take k) (h1 : (!sameR x y) = false) : xs.take (k + 1) = ys.take (k + 1) := by
  obtain ⟨hk, rfl⟩ := List.getElem?_eq_some_iff.1 hx
  obtain ⟨hk', rfl⟩ := List.getElem?_eq_some_iff.1 hy
  rw [List.take_succ_eq_append_getElem hk, List.take_succ_eq_append_getElem hk', h]
  simp [sameR] at h1
  rw [h1]
end Go.Proofs.Ytpleclmlcojkdaa

/-
  Words that the laws' walks share: a box that a region made, contracts of the helpers in one form.
-/
namespace Go.Proofs.Ytpleclmlcojkdaa
open Go.RowKit

theorem Own.asI {w : World} {lo n c : Nat} {e : TypeId} {A : Option Addr} {xs : List Int} (h : Own w lo e 1 A n c (ints xs)) : SI w A n xs := h.rd
theorem Own.as3 {w : World} {lo n c : Nat} {e : TypeId} {A : Option Addr} {xs : List R3} (h : Own w lo e 3 A n c (cells3 xs)) : S3 w A n xs := h.rd
/-- A block from lo on that is known whole. -/
def Bx (lo : Nat) (t : TypeId) (cs : Array Value) (g : Nat) (w : World) : Prop := lo ≤ g ∧ Blk w g t cs
theorem Bx.new {lo : Nat} (w : World) (t : TypeId) (cs : Array Value) (h : lo ≤ w.heap.size) : Bx lo t cs w.heap.size (w.alloc (.cells cs t)) := ⟨h, Blk.new w t cs⟩
theorem Bx.below' {lo g : Nat} {t : TypeId} {cs : Array Value} {w w' : World} (h : Bx lo t cs g w) (z : Below w.heap.size w w') : Bx lo t cs g w' := ⟨h.1, h.2.below' z⟩
theorem Bx.drewN {lo g : Nat} {t : TypeId} {cs : Array Value} {w : World} (h : Bx lo t cs g w) (n : Nat) : Bx lo t cs g (w.drewN n) := ⟨h.1, h.2.drewN n⟩
theorem below_of_alloc {w w' : World} {o : Obj} (h : Below (w.alloc o).heap.size (w.alloc o) w') : Below w.heap.size w w' :=
  ((Below.refl _ _).alloc (Nat.le_refl _) o).trans (h.mono (by simp))
theorem sameII_self (xs : List (List Int)) : sameII xs xs = true := by simp [sameII]
end Go.Proofs.Ytpleclmlcojkdaa

/-
  What the size helpers of the laws come to, in one form.
-/
namespace Go.Proofs.Ytpleclmlcojkdaa
open Go.RowKit
def SzP (w : World) (left tot : Int) (e : Ending) (w' : World) : Prop := ∃ z : Int, e = .returned (.int .i64 z) ∧ -1 ≤ z ∧ z ≤ left ∧ (0 ≤ z → z = left - tot) ∧ Below w.heap.size w w'
theorem szF_p {left : Int} {n : Nat} (h0 : 0 ≤ left) : -1 ≤ szF left n ∧ szF left n ≤ left ∧ (0 ≤ szF left n → szF left n = left - n) := by
  unfold szF; split <;> omega
end Go.Proofs.Ytpleclmlcojkdaa

/-
  What the size helper over [][]int64 comes to, in one form; totals of rows.
-/
namespace Go.Proofs.Ytpleclmlcojkdaa
open Go.RowKit
theorem szRows_tot : ∀ (rows : List Nat) (left : Int), 0 ≤ left → -1 ≤ szRows left rows ∧ szRows left rows ≤ left ∧ (0 ≤ szRows left rows → szRows left rows = left - rows.sum)
  | [], left, h => by simp [szRows]; omega
  | n :: r, left, h => by
    rw [szRows]
    split
    · omega
    · rename_i hn
      have h2 := szRows_tot r (left - n) (by omega)
      simp only [List.sum_cons]
      omega
theorem row_total {ts : List Sl} {t : Sl} (h : t ∈ ts) : t.xs.length ≤ total ts := by
  unfold total
  obtain ⟨a, b, rfl⟩ := List.append_of_mem h
  simp; omega
theorem total_of_nums (ts : List Sl) : total ts = ((nums ts).map List.length).sum := by simp [total, nums, Function.comp_def]
theorem total_same {ts us : List Sl} (h : nums us = nums ts) : total us = total ts := by rw [total_of_nums, total_of_nums, h]
theorem rows_le {ts us : List Sl} (h : nums us = nums ts) {b : Nat} (hb : ∀ t ∈ ts, t.xs.length ≤ b) : ∀ u ∈ us, u.xs.length ≤ b := by
  intro u hu
  have h1 : u.xs ∈ nums us := List.mem_map.2 ⟨u, hu, rfl⟩
  rw [h] at h1
  obtain ⟨t, ht, e⟩ := List.mem_map.1 h1
  rw [← e]; exact hb t ht
end Go.Proofs.Ytpleclmlcojkdaa

/-
  Marks that are read again, for [][]int64; owned rows behind other marks.
-/
namespace Go.Proofs.Ytpleclmlcojkdaa
open Go.RowKit

theorem OII.blk_ge {w : World} {lo : Nat} {e2 e1 : TypeId} {A : Option Addr} {n c : Nat} {ts : List Sl} (h : OII w lo e2 e1 A n c ts) : ∀ b, blk A = some b → lo ≤ b := h.1.blk_ge
theorem OII.mono {w : World} {lo lo' : Nat} {e2 e1 : TypeId} {A : Option Addr} {n c : Nat} {ts : List Sl} (h : OII w lo e2 e1 A n c ts) (hl : lo' ≤ lo) : OII w lo' e2 e1 A n c ts := ⟨h.1.mono hl, fun t ht => (h.2.1 t ht).mono hl, h.2.2⟩
theorem OII.alloc {w : World} {lo : Nat} {e2 e1 : TypeId} {A : Option Addr} {n c : Nat} {ts : List Sl} (h : OII w lo e2 e1 A n c ts) (o : Obj) : OII (w.alloc o) lo e2 e1 A n c ts := ⟨h.1.alloc o, fun t ht => (h.2.1 t ht).alloc o, h.2.2⟩
theorem OII.mkf_far {T : List TypeId} {w w' : World} {l hh lo : Nat} {e2 e1 : TypeId} {A : Option Addr} {n c : Nat} {ts : List Sl} (h : OII w lo e2 e1 A n c ts) (hf : MkF T l hh w w') (hd : ∀ b, lo ≤ b → b < l ∨ hh ≤ b) : OII w' lo e2 e1 A n c ts :=
  ⟨h.1.mkf_far hf (fun b hb => hd b (h.1.blk_ge b hb)), fun t ht => (h.2.1 t ht).mkf_far hf (fun b hb => hd b ((h.2.1 t ht).blk_ge b hb)), h.2.2⟩
theorem OII.mkf_below {T : List TypeId} {w0 w w' : World} {l hh lo : Nat} {e2 e1 : TypeId} {A : Option Addr} {n c : Nat} {ts : List Sl} (h0 : OII w0 lo e2 e1 A n c ts) (hl : w0.heap.size ≤ l) (h : OII w lo e2 e1 A n c ts) (hf : MkF T l hh w w') : OII w' lo e2 e1 A n c ts :=
  ⟨h.1.mkf_far hf (fun b hb => .inl (by have := h0.1.blk_lt b hb; omega)), fun t ht => (h.2.1 t ht).mkf_far hf (fun b hb => .inl (by have := (h0.2.1 t ht).blk_lt b hb; omega)), h.2.2⟩
theorem OII.touch_below {w0 w w' : World} {l hh lo : Nat} {e2 e1 : TypeId} {A : Option Addr} {n c : Nat} {ts : List Sl} (h0 : OII w0 lo e2 e1 A n c ts) (hl : w0.heap.size ≤ l) (h : OII w lo e2 e1 A n c ts) (ht : Tch l hh w w') : OII w' lo e2 e1 A n c ts :=
  ⟨h.1.touch ht (fun b hb => .inl (by have := h0.1.blk_lt b hb; omega)), fun t htm => (h.2.1 t htm).touch ht (fun b hb => .inl (by have := (h0.2.1 t htm).blk_lt b hb; omega)), h.2.2⟩

def offs (us : List Sl) (k : Nat) : Nat := total (us.take k)
theorem offs_zero (us : List Sl) : offs us 0 = 0 := by simp [offs, total]
theorem offs_next {us : List Sl} {t : Sl} {k : Nat} (hT : us[k]? = some t) : offs us (k + 1) = offs us k + t.xs.length := total_take hT
theorem offs_le (us : List Sl) (k : Nat) : offs us k ≤ total us := total_take_le us k
theorem offs_end {us : List Sl} {k : Nat} (h : us.length ≤ k) : offs us k = total us := by unfold offs; rw [List.take_of_length_le h]
/-- The rows hold marks that run on from row to row. -/
def MarkedII (w : World) (A : Option Addr) (n : Nat) (us : List Sl) (p : Int) : Prop := Rd w 1 A n (us.map Sl.val) ∧ ∀ k t, us[k]? = some t → SI w t.A t.xs.length (marks (p + offs us k) t.xs.length)
theorem MarkedII.below {w w' : World} {A : Option Addr} {n : Nat} {us : List Sl} {p : Int} (h : MarkedII w A n us p) (z : Below w.heap.size w w') : MarkedII w' A n us p := ⟨h.1.below z, fun k t ht => (h.2 k t ht).below z⟩
def MarkII (w : World) (lo hi : Nat) (A : Option Addr) (n : Nat) (us : List Sl) (p : Int) (e : Ending) (w' : World) : Prop := e = .returned (.int .i64 (p + total us)) ∧ MarkedII w' A n us p ∧ Tch lo hi w w'
/-- What holds behind the first k rows. -/
def MarkTo (w : World) (lo hi : Nat) (A : Option Addr) (n c : Nat) (us : List Sl) (p : Int) (k : Nat) (wr : World) : Prop :=
  Own wr lo 25 1 A n c (us.map Sl.val) ∧ (∀ j t, us[j]? = some t → j < k → SI wr t.A t.xs.length (marks (p + offs us j) t.xs.length)) ∧ (∀ j t, us[j]? = some t → k ≤ j → Own wr lo 2 1 t.A t.xs.length t.c (ints t.xs)) ∧ Tch lo hi w wr
theorem apt_of {us : List Sl} (h : us.Pairwise Apt) {i j : Nat} {t u : Sl} (hi : us[i]? = some t) (hj : us[j]? = some u) (hne : i ≠ j) : ∀ b, blk t.A = some b → blk u.A ≠ some b := by
  obtain ⟨hi1, rfl⟩ := List.getElem?_eq_some_iff.1 hi
  obtain ⟨hj1, rfl⟩ := List.getElem?_eq_some_iff.1 hj
  rw [List.pairwise_iff_getElem] at h
  rcases Nat.lt_or_gt_of_ne hne with hlt | hlt
  · exact h i j hi1 hj1 hlt
  · intro b h1 h2
    exact h j i hj1 hi1 hlt b h2 h1
theorem MarkTo.step {w wr w' : World} {lo hi : Nat} {A : Option Addr} {n c : Nat} {us : List Sl} {p : Int} {k : Nat} {t : Sl} (h : MarkTo w lo hi A n c us p k wr) (hap : us.Pairwise Apt) (hT : us[k]? = some t) (hne : 2 ≠ 25) (ho : OwnE w' lo 2 t.A t.xs.length t.c (marks (p + offs us k) t.xs.length)) (ht : Tch lo hi wr w') (hs : ∀ b, blk t.A ≠ some b → w'.heap[b]? = wr.heap[b]?) : MarkTo w lo hi A n c us p (k + 1) w' := by
  obtain ⟨h1, h2, h3, h4⟩ := h
  have hrow := h3 k t hT (Nat.le_refl _)
  refine ⟨h1.kept fun b hb _ _ => hs b (fun e => hrow.blk_ne h1 hne b e hb), ?_, ?_, h4.trans ht⟩
  · intro j u hu hj
    by_cases e : j = k
    · subst e
      rw [hT] at hu
      cases hu
      exact ho.si
    · refine Rd.keep (h2 j u hu (by omega)) fun q hq hbq => ?_
      exact World.cell?_of_block (hs q.block (fun e2 => apt_of hap hT hu (Ne.symm e) q.block e2 hbq.symm))
  · intro j u hu hj
    exact (h3 j u hu (by omega)).kept fun b hb _ _ => hs b (fun e2 => apt_of hap hT hu (by omega) b e2 hb)

theorem total_of {us : List Sl} {M : List (List Int)} {b : Nat} (h : nums us = M) (hl : (M.map List.length).sum ≤ b) : total us ≤ b := by rw [total_of_nums, h]; exact hl
end Go.Proofs.Ytpleclmlcojkdaa

/-
  Slices of rows that grow.
-/
namespace Go.Proofs.Ytpleclmlcojkdaa
open Go.RowKit

theorem OII.snoc {wa w w2 : World} {lo n c c2 k : Nat} {e2 e1 : TypeId} {A A2 : Option Addr} {ts : List Sl} {u : Sl} (h : OII wa lo e2 e1 A n c ts) (hw : OII w lo e2 e1 A n c ts) (hs : Own w2 lo e2 1 A2 (n + 1) c2 (ts.map Sl.val ++ [u.val])) (hg : w.grownBy w2 (blk A))
    (hu : Own w k e1 1 u.A u.xs.length u.c (ints u.xs)) (hk : wa.heap.size ≤ k) (hlk : lo ≤ k) (hne : e1 ≠ e2) : OII w2 lo e2 e1 A2 (n + 1) c2 (ts ++ [u]) := by
  have far : ∀ {B : Option Addr} {m d lo' : Nat} {xs : List Value}, Own w lo' e1 1 B m d xs → Own w2 lo' e1 1 B m d xs := fun ho => ho.grown hg (fun g hgA hb => Own.blk_ne hw.1 ho (fun he => hne he.symm) g hgA hb)
  refine ⟨by simpa using hs, fun t ht => ?_, Apt.snoc h.2.2 (fun t ht b hb hb' => ?_)⟩
  · rcases List.mem_append.1 ht with h1 | h1
    · exact far (hw.2.1 t h1)
    · rw [List.mem_singleton.1 h1]; exact (far hu).mono hlk
  · have h1 := (h.2.1 t ht).blk_lt b hb
    have h2 := hu.blk_ge b hb'
    omega
theorem OII.len {w : World} {lo n c : Nat} {e2 e1 : TypeId} {A : Option Addr} {ts : List Sl} (h : OII w lo e2 e1 A n c ts) : ts.length = n := by have := h.1.1; simp at this; omega
/-- The blocks of a slice of rows. -/
def OIIB (A : Option Addr) (ts : List Sl) (b : Nat) : Prop := blk A = some b ∨ ∃ t ∈ ts, blk t.A = some b
theorem OII.keptB {w w' : World} {lo n c : Nat} {e2 e1 : TypeId} {A : Option Addr} {ts : List Sl} (h : OII w lo e2 e1 A n c ts) (hk : ∀ b, OIIB A ts b → w'.heap[b]? = w.heap[b]?) : OII w' lo e2 e1 A n c ts :=
  ⟨h.1.kept (fun b hb _ _ => hk b (.inl hb)), fun t ht => (h.2.1 t ht).kept (fun b hb _ _ => hk b (.inr ⟨t, ht, hb⟩)), h.2.2⟩
theorem OII.blkB {w : World} {lo n c : Nat} {e2 e1 : TypeId} {A : Option Addr} {ts : List Sl} (h : OII w lo e2 e1 A n c ts) : ∀ b, OIIB A ts b → lo ≤ b ∧ b < w.heap.size := by
  rintro b (hb | ⟨t, ht, hb⟩)
  · exact ⟨h.1.blk_ge b hb, h.1.blk_lt b hb⟩
  · exact ⟨(h.2.1 t ht).blk_ge b hb, (h.2.1 t ht).blk_lt b hb⟩
theorem Blk.aptt {w : World} {g : Nat} {t e : TypeId} {cur : Array Value} {lo n c s : Nat} {A : Option Addr} {cs : List Value} (h : Blk w g t cur) (h' : Own w lo e s A n c cs) (hne : t ≠ e) : blk A ≠ some g := by
  intro hb
  rcases h'.2 with ⟨rfl, _⟩ | ⟨b, off, cur2, rfl, _, hg, _⟩
  · simp [blk] at hb
  · simp [blk] at hb; subst hb
    unfold Blk at h
    rw [hg] at h
    simp at h
    exact hne h.2.symm
theorem Blk.growt {w w2 : World} {g : Nat} {t e : TypeId} {cur : Array Value} {lo n c s : Nat} {A : Option Addr} {cs : List Value} (h : Blk w g t cur) (h' : Own w lo e s A n c cs) (hg : w.grownBy w2 (blk A)) (hne : t ≠ e) : Blk w2 g t cur :=
  (hg.block g h.lt (fun e => h.aptt h' hne e.symm)).trans h
theorem OII.set_box {w : World} {lo n c g i : Nat} {t e2 e1 : TypeId} {cur : Array Value} {A : Option Addr} {ts : List Sl} (h : OII w lo e2 e1 A n c ts) (hb : Blk w g t cur) (h1 : t ≠ e2) (h2 : t ≠ e1) (u : Value) : OII (w.setCell ⟨g, i, none⟩ u) lo e2 e1 A n c ts :=
  ⟨h.1.far (p := ⟨g, i, none⟩) (hb.aptt h.1 h1) u, fun x hx => (h.2.1 x hx).far (p := ⟨g, i, none⟩) (hb.aptt (h.2.1 x hx) h2) u, h.2.2⟩
theorem OII.nil {w : World} {lo c : Nat} {e2 e1 : TypeId} {A : Option Addr} (h : Own w lo e2 1 A 0 c []) : OII w lo e2 e1 A 0 c [] := ⟨h, by simp, List.Pairwise.nil⟩
theorem OII.one {w : World} {lo c : Nat} {e2 e1 : TypeId} {A : Option Addr} {u : Sl} (h : Own w lo e2 1 A 1 c [u.val]) (hu : Own w lo e1 1 u.A u.xs.length u.c (ints u.xs)) : OII w lo e2 e1 A 1 c [u] := ⟨by simpa using h, by simpa using hu, List.pairwise_singleton _ _⟩
end Go.Proofs.Ytpleclmlcojkdaa
