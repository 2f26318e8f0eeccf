/-
  The reference's draws of naturals: l02Of, l02Trim, among, l02DrawOk, B10Naturals, B10Smalls.
-/
import Derived.Test.YtpleclmlcojkdaaPbNatE4
namespace Go.Proofs.Ytpleclmlcojkdaa
open Go.RowKit

set_option maxRecDepth 100000 in
set_option maxHeartbeats 2000000 in
theorem l02Of_any (x : Nat) (w : World) (h1 : x ≤ 1000000000000000000) : Calls Try.prog 100 #[.int .i64 (x : Int)] w (NewN w x) := by
  obtain ⟨W1, hW_⟩ : ∃ W_, W_ = w.alloc (.cells #[] 2) := ⟨_, rfl⟩
  have b1 : Blk W1 w.heap.size 2 #[] := by rw [hW_]; exact Blk.new w _ _
  have z1 : Below w.heap.size w W1 := by rw [hW_]; exact (Below.refl _ _).alloc (Nat.le_refl _) _
  have HW1 := Lib.hid hW_
  clear hW_
  have o1 : Own W1 w.heap.size 2 1 (some ⟨w.heap.size, 0, none⟩) 0 0 (ints []) := by rw [HW1.out]; exact Own.lit0 w _ 1
  have HO1 := Lib.hid o1
  clear b1 o1
  go_enter Try.func100, Try.ntmps100
  go_upto_region 2 with fail
  rw [← HW1.out]
  clear HW1
  go_loopw [0, 3] (fun s0 s3 wr => ∃ (q : Nat) (out : List Int) (D : Option Addr) (d : Nat), s0 = .int .i64 (q : Int) ∧ q ≤ x ∧ s3 = .slice D out.length d ∧ Hid (Own wr w.heap.size 2 1 D out.length d (ints out)) ∧ Below w.heap.size w wr ∧ Hid (natL x = out ++ natL q) ∧ out.length ≤ (natL x).length) (fun s0 _ _ => (intOf s0).toNat)
  case atStart => exact ⟨x, [], _, 0, rfl, Nat.le_refl _, rfl, HO1, z1, Lib.hid (by simp), Nat.zero_le _⟩
  case round =>
    obtain ⟨q, out, D, d, rfl, hq, rfl, HO, hz, HE, hol⟩ := hrel
    clear HO1 z1
    have hxl : (natL x).length ≤ 4 := natL_len_le (by show (x : Int) < 1000000 * (1000000 * (1000000 * (1000000 * 1))); omega)
    rcases Nat.eq_zero_or_pos q with h0 | h0
    · subst h0
      have HN : Hid (out = natL x) := Lib.hid (by rw [HE.out, natL_zero]; simp)
      have hoo := HO.out
      rw [HN.out] at hoo ⊢
      have i1 : ¬ (0 : Int) < ((0 : Nat) : Int) := by omega
      go_wp2_with fail
      go_ret
      exact ⟨D, d, rfl, hoo, hz⟩
    · have i1 : (0 : Int) < (q : Int) := by omega
      have q0 : (0 : Int) ≤ (q : Int) := by omega
      have HE2 : Hid (natL x = (out ++ ([((q % 1000000 : Nat) : Int)] : List Int)) ++ natL (q / 1000000)) := Lib.hid (by rw [HE.out, natL_pos h0]; simp)
      obtain ⟨m, hm⟩ : ∃ m, m = q % 1000000 := ⟨_, rfl⟩
      obtain ⟨u, hu⟩ : ∃ u, u = q / 1000000 := ⟨_, rfl⟩
      rw [← hm, ← hu] at HE2
      have wm : IntKind.i64.wrap (Int.tmod (q : Int) 1000000) = (m : Int) := by rw [Int.tmod_eq_emod_of_nonneg q0, show (q : Int) % 1000000 = (m : Int) by omega]; exact IntWalk.i64_in _ (by omega)
      have wd : IntKind.i64.wrap (Int.tdiv (q : Int) 1000000) = (u : Int) := by rw [Int.tdiv_eq_ediv_of_nonneg q0, show (q : Int) / 1000000 = (u : Int) by omega]; exact IntWalk.i64_in _ (by omega)
      have wm2 : (q : Int) % 1000000 = (m : Int) := by omega
      have wd2 : (q : Int) / 1000000 = (u : Int) := by omega
      have huq : u < q ∧ u ≤ x := by omega
      have hol2 : out.length + 1 ≤ (natL x).length := by have h := congrArg List.length HE2.out; simp at h; omega
      have ho := HO.out
      clear hm hu
      go_wp2_with (at_builtin; refine wpList_append_Own rfl (.tmp 7) (.tmp 10) rfl elI (lo := w.heap.size) rfl (ho.alloc _) rfl (Rd.new1 wr _ _) (ints_one [(m : Int)]) (by omega) (by simp only [maxLen]; omega) (by have := hz.size; simp; omega) ?_; intro A2 c2 w2 ho2 hg2 _)
      have hz2 := (ho.alloc (.cells #[.int .i64 (m : Int)] 2)).below_of (hz.alloc hz.size _) hg2 (by have := hz.size; simp; omega)
      have HO2 : Hid (Own w2 w.heap.size 2 1 A2 (out ++ ([(m : Int)] : List Int)).length c2 (ints (out ++ ([(m : Int)] : List Int)))) := Lib.hid (by
        rw [List.length_append]; simpa [ints] using ho2)
      have hl8 : out.length + 1 = (out ++ ([(m : Int)] : List Int)).length := by simp
      rw [hl8]
      clear ho2 hg2 ho
      go_wp2_with fail
      go_roundw
      case rel => exact ⟨u, out ++ ([(m : Int)] : List Int), A2, c2, by first | rfl | rw [wd], huq.2, rfl, HO2, hz2, HE2, by simp; omega⟩
      case measure => simp [intOf]; omega
set_option maxHeartbeats 2000000 in
theorem l02Trim_any (A : Option Addr) (n c lo : Nat) (xs : List Int) (w : World) (h : Own w lo 2 1 A n c (ints xs)) (hl : lims xs) (hn : n ≤ 1048576) :
    Calls Try.prog 176 #[.slice A n c] w fun e w' => e = .returned (.slice A (natL (val xs).toNat).length c) ∧ Own w lo 2 1 A (natL (val xs).toNat).length c (ints (natL (val xs).toNat)) ∧ w = w' := by
  have HO := Lib.hid h
  have HC : Hid (n ≤ c) := Lib.hid h.le
  have hlen : xs.length = n := (show SI w A n xs from h.rd).len
  have hx : SI w A n xs := h.rd
  clear h
  go_enter Try.func176, Try.ntmps176
  go_wp2_with fail
  go_loop [3] (fun s => ∃ k : Nat, k ≤ n ∧ s = .int .i64 (k : Int) ∧ Hid (∀ j, k ≤ j → (hj : j < xs.length) → xs[j] = 0)) (fun s => (intOf s).toNat)
  case atStart => exact ⟨n, Nat.le_refl _, rfl, Lib.hid (fun j h1 h2 => by rw [hlen] at h2; omega)⟩
  case round =>
    obtain ⟨k, hk, rfl, HZ⟩ := hrel
    have i4 : ¬ (c : Int) < (k : Int) := by have := HC.out; omega
    have i5 : ¬ (k : Int) < 0 := by omega
    rcases Nat.eq_zero_or_pos k with h0 | h0
    · subst h0
      have HE : Hid (natL (val xs).toNat = []) := Lib.hid (by
        have := nat_trim_take hl (k := 0) (Nat.zero_le _) HZ.out (fun hj => by omega)
        rw [← this]; rfl)
      have i6 : ¬ (c : Int) < (0 : Int) := by omega
      go_wp2_with fail
      go_ret
      rw [HE.out]
      exact ⟨rfl, by
        have := HO.out.cut (i := 0) (j := 0) (Nat.le_refl _) (Nat.zero_le _) (fun e => e) (fun b off e => .inl (by rw [e]; rfl))
        simpa [ints] using this, rfl⟩
    · obtain ⟨i, hi⟩ : ∃ i, i = k - 1 := ⟨_, rfl⟩
      have wi : IntKind.i64.wrap ((k : Int) - 1) = (i : Int) := by rw [show (k : Int) - 1 = (i : Int) by omega]; exact IntWalk.i64_in _ (by omega)
      obtain ⟨b, off, rfl, _, hc⟩ := hx.at_ (k := i) (by omega)
      obtain ⟨y, hy⟩ : ∃ y, xs[i]'(by omega) = y := ⟨_, rfl⟩
      rw [hy] at hc
      have i1 : (0 : Int) < (k : Int) := by omega
      have i2 : (0 : Int) ≤ (i : Int) := by omega
      have i3 : (i : Int) < (n : Int) := by omega
      by_cases hy0 : y = 0
      · have e0 : (y == 0) = true := by simpa using hy0
        have HZ2 : Hid (∀ j, i ≤ j → (hj : j < xs.length) → xs[j] = 0) := Lib.hid (fun j h1 h2 => by
          by_cases h3 : j = i
          · subst h3; rw [hy]; exact hy0
          · exact HZ.out j (by omega) h2)
        have hik : i ≤ n ∧ i < k := by omega
        clear hy hy0 hi
        go_wp2_with fail
        go_round
        case rel => exact ⟨i, by omega, rfl, HZ2⟩
        case measure => simp [intOf]; omega
      · have e0 : (y == 0) = false := by simpa using hy0
        have HE : Hid (natL (val xs).toNat = xs.take k) := Lib.hid (nat_trim_take hl (by omega) HZ.out (fun hj => by
          have e : xs[k - 1]'(by omega) = y := by rw [← hy]; congr 1; omega
          rw [e]; exact hy0)).symm
        have HLK : Hid ((xs.take k).length = k) := Lib.hid (by rw [List.length_take]; omega)
        clear hy hy0 hi
        go_wp2_with fail
        go_ret
        rw [HE.out, HLK.out]
        exact ⟨rfl, by
          have := HO.out.cut (i := 0) (j := k) (Nat.zero_le _) hk (fun e => e) (fun b off e => .inl (by rw [e]; rfl))
          simpa [ints_take] using this, rfl⟩
set_option maxHeartbeats 1000000 in
theorem among_any (b : Nat) (A : Option Addr) (n c T : Nat) (xs : List Int) (L : Option Addr) (m k : Nat) (ls : List Int) (w : World) (hx : SB w A n xs) (hA : ∀ k, blk A = some k → k ≠ b) (hs : Src b A n c T w) (hT : T ≤ 900000000) (hn : n ≤ 9223372036854775807)
    (hl : SI w L m ls) (hL : ∀ k, blk L = some k → k ≠ b) (hm0 : 1 ≤ m) (hm : m ≤ 60000) :
    Calls Try.prog 175 #[.pointer (some ⟨b, 0, none⟩), .slice L m k] w (fun e w' => ∃ y, e = .returned (.int .i64 y) ∧ y ∈ ls ∧ Src b A n c (T + 2) w' ∧ Kb b w w') := by
  have HLL := Lib.hid hl.len
  have HL := Lib.hid hl
  have HLB := Lib.hid hL
  have HP := Lib.hid (pick_any b A n c T xs (m : Int) w hx hA hs hT hn (by omega) (by omega))
  clear hx hA hs hl hL
  go_enter Try.func175, Try.ntmps175
  go_wp2_with fail
  refine HP.out.mono ?_
  rintro e1 w1 ⟨x, rfl, hx0, hx1, hs1, hk1⟩
  obtain ⟨i, rfl⟩ : ∃ i : Nat, x = (i : Int) := ⟨x.toNat, by omega⟩
  have hr1 : SI w1 L m ls := Rd.keep HL.out (fun p hp he => World.cell?_of_block (hk1.block p.block hp (HLB.out _ he.symm)))
  have him : i < m := by omega
  obtain ⟨bb, off, rfl, _, hc⟩ := hr1.at_ him
  have i2 : (i : Int) < (m : Int) := by omega
  go_wp2_with fail
  go_ret
  exact ⟨_, rfl, List.getElem_mem _, hs1, hk1⟩
/-- A natural was drawn. -/
def DrewN (b : Nat) (A : Option Addr) (n c T : Nat) (w : World) (e : Ending) (w' : World) : Prop :=
  ∃ D d v, e = .returned (.slice D (natL v).length d) ∧ Own w' w.heap.size 2 1 D (natL v).length d (ints (natL v)) ∧ (natL v).length ≤ 40 ∧ Src b A n c T w' ∧ Kb b w w'
theorem Rd.kbb {b s n : Nat} {w w' : World} {A : Option Addr} {cs : List Value} (h : Rd w s A n cs) (k : Kb b w w') (hA : ∀ x, blk A = some x → x ≠ b) : Rd w' s A n cs :=
  h.keep fun p hp he => World.cell?_of_block (k.block p.block hp (hA _ he.symm))
theorem big_len {x : Nat} (h : x ≤ 1000000000000000000) : (natL x).length ≤ 40 := Nat.le_trans (natL_len_le (k := 4) (by show (x : Int) < 1000000 * (1000000 * (1000000 * (1000000 * 1))); omega)) (by omega)
theorem lims_len {xs : List Int} (h : lims xs) (hl : xs.length ≤ 40) : (natL (val xs).toNat).length ≤ 40 := natL_len_le (by
  have h1 := val_range h
  have h2 := pw_mono hl
  omega)
def first18 : List Int := [0, 1, 2, 3, 6, 7, 9, 10, 24, 64, 97, 99, 100, 720, 999999, 1000000, 1000001, 30030]
theorem first18_range : ∀ y ∈ first18, 0 ≤ y ∧ y ≤ 1000000000000000000 := by decide
set_option maxRecDepth 100000 in
set_option maxHeartbeats 8000000 in
theorem l02DrawOk_any (b : Nat) (A : Option Addr) (n c T : Nat) (xs : List Int) (w : World) (hx : SB w A n xs) (hA : ∀ k, blk A = some k → k ≠ b) (hs : Src b A n c T w) (hb : b < w.heap.size) (hT : T ≤ 500000) (hn : n ≤ 9223372036854775807) :
    Calls Try.prog 94 #[.pointer (some ⟨b, 0, none⟩)] w (DrewN b A n c (T + 100) w) := by
  have HX := Lib.hid hx
  have HA := Lib.hid hA
  have HS := Lib.hid hs
  clear hx hA hs
  go_enter Try.func94, Try.ntmps94
  go_wp2_with fail
  refine (one_any b A n c T xs 2 _ HX.out HA.out HS.out (by omega) hn (by omega) (by omega)).mono ?_
  rintro e1 w1 ⟨y1, rfl, hs1, hk1⟩
  have HX1 := Lib.hid (HX.out.kb hk1 HA.out)
  have HLT1 : Hid (w.heap.size ≤ w1.heap.size) := Lib.hid hk1.size
  have HK1 := Lib.hid hk1
  have HS1 := Lib.hid hs1
  clear hs1 hk1
  cases y1
  · skip
    obtain ⟨W2, hW_⟩ : ∃ W_, W_ = w1.alloc (.cells #[] 2) := ⟨_, rfl⟩
    have b2 : Blk W2 w1.heap.size 2 #[] := by rw [hW_]; exact Blk.new w1 _ _
    have z2 : Below w1.heap.size w1 W2 := by rw [hW_]; exact (Below.refl _ _).alloc (Nat.le_refl _) _
    have HW2 := Lib.hid hW_
    clear hW_
    have HO2 : Hid (Own W2 w.heap.size 2 1 (some ⟨w1.heap.size, 0, none⟩) ([] : List Int).length 0 (ints [])) := Lib.hid (by rw [HW2.out]; exact Own.lit w1 #[] 2 0 1 w.heap.size (by simp) (by simp [maxLen]) HLT1.out)
    have HX2 := Lib.hid (HX1.out.below z2)
    have HS2 := Lib.hid (HS1.out.below z2)
    have HK2 := Lib.hid (HK1.out.trans (Kb.of_below z2))
    clear z2 b2 HX1 HS1 HK1
    go_upto_region 4 with fail
    rw [← HW2.out]
    clear HW2
    go_wp2_with fail
    refine (pick_any b A n c (T + 2) xs 5 W2 HX2.out HA.out HS2.out (by omega) hn (by omega) (by omega)).mono ?_
    rintro e3 w3 ⟨x, rfl, hx0, hx1, hs3, hk3⟩
    obtain ⟨Q, hQ⟩ : ∃ Q : Nat, 1 + x = (Q : Int) := ⟨(1 + x).toNat, by omega⟩
    have wQ : IntKind.i64.wrap (1 + x) = (Q : Int) := by rw [hQ]; exact IntWalk.i64_in _ (by omega)
    have hQ5 : Q ≤ 5 := by omega
    have HO3 := Lib.hid (hk3.own' HO2.out hb)
    have HK3 := Lib.hid (HK2.out.trans hk3)
    have HS3 := Lib.hid hs3
    clear hs3 hk3 hQ hx0 hx1 HO2 HS2 HK2 HX2
    go_upto_region 5 with fail
    clear wQ
    go_loopw [3, 4] (fun s3 s4 wr => ∃ (k : Nat) (out : List Int) (D : Option Addr) (d : Nat), s4 = .int .i64 (k : Int) ∧ s3 = .slice D out.length d ∧ out.length + k ≤ 5 ∧ Hid (Own wr w.heap.size 2 1 D out.length d (ints out)) ∧ Hid (lims out) ∧ Hid (Src b A n c (T + 4 + 6 * out.length) wr) ∧ Hid (Kb b w wr)) (fun _ s4 _ => (intOf s4).toNat)
    case atStart => exact ⟨Q, [], _, 0, rfl, rfl, by simp; omega, HO3, Lib.hid lims_nil, HS3, HK3⟩
    case round =>
      obtain ⟨k, out, D, d, rfl, rfl, hok, HO, HL, HSr, HK⟩ := hrel
      clear HO3 HS3 HK3
      have hbr : b < wr.heap.size := by have := HK.out.size; omega
      rcases Nat.eq_zero_or_pos k with h0 | h0
      rotate_left
      · have i1 : (0 : Int) < (k : Int) := by omega
        have HXr := Lib.hid (HX.out.kb HK.out HA.out)
        have wk : IntKind.i64.wrap ((k : Int) - 1) = ((k - 1 : Nat) : Int) := by rw [show (k : Int) - 1 = ((k - 1 : Nat) : Int) by omega]; exact IntWalk.i64_in _ (by omega)
        go_wp2_with fail
        refine (pick_any b A n c (T + 4 + 6 * out.length) xs 1000 wr HXr.out HA.out HSr.out (by omega) hn (by omega) (by omega)).mono ?_
        rintro e5 w5 ⟨x5, rfl, h50, h51, hs5, hk5⟩
        have HX5 := Lib.hid (HXr.out.kb hk5 HA.out)
        have HS5 := Lib.hid hs5
        have HK5 := Lib.hid hk5
        clear hs5 hk5 HSr
        go_wp2_with fail
        refine (pick_any b A n c (T + 4 + 6 * out.length + 2) xs 1000 w5 HX5.out HA.out HS5.out (by omega) hn (by omega) (by omega)).mono ?_
        rintro e6 w6 ⟨x6, rfl, h60, h61, hs6, hk6⟩
        have HX6 := Lib.hid (HX5.out.kb hk6 HA.out)
        have HS6 := Lib.hid hs6
        have HK6 := Lib.hid (HK5.out.trans hk6)
        obtain ⟨x7, hx7⟩ : ∃ x7, x6 * 1000 = x7 := ⟨_, rfl⟩
        have w7 : IntKind.i64.wrap (x6 * 1000) = x7 := by rw [hx7]; exact IntWalk.i64_in _ (by omega)
        have hr7 : ∀ y ∈ ([0, 1, 2, 999999, 500000, x5, x7] : List Int), 0 ≤ y ∧ y < 1000000 := fun y hy => by
          simp only [List.mem_cons, List.not_mem_nil, or_false] at hy
          omega
        have HR7 := Lib.hid hr7
        have HO6 := Lib.hid ((HK6.out.own' HO.out hb))
        have HKw := Lib.hid (HK.out.trans HK6.out)
        clear hs6 hk6 HK5 HS5 HX5 hx7 hr7 HO HK HK6 h50 h51 h60 h61
        obtain ⟨W7, hW_⟩ : ∃ W_, W_ = w6.alloc (.cells #[.int .i64 0, .int .i64 1, .int .i64 2, .int .i64 999999, .int .i64 500000, .int .i64 x5, .int .i64 x7] 2) := ⟨_, rfl⟩
        have b7 : Blk W7 w6.heap.size 2 #[.int .i64 0, .int .i64 1, .int .i64 2, .int .i64 999999, .int .i64 500000, .int .i64 x5, .int .i64 x7] := by rw [hW_]; exact Blk.new w6 _ _
        have z7 : Below w6.heap.size w6 W7 := by rw [hW_]; exact (Below.refl _ _).alloc (Nat.le_refl _) _
        have HW7 := Lib.hid hW_
        clear hW_
        have r7 : SI W7 (some ⟨w6.heap.size, 0, none⟩) 7 [0, 1, 2, 999999, 500000, x5, x7] := by
          rw [HW7.out]
          exact (Own.lit w6 #[.int .i64 0, .int .i64 1, .int .i64 2, .int .i64 999999, .int .i64 500000, .int .i64 x5, .int .i64 x7] 2 7 1 w6.heap.size rfl (by simp [maxLen]) (Nat.le_refl _)).rd
        have hb6 : b < w6.heap.size := by have := HKw.out.size; omega
        clear b7
        go_wp2_with fail
        rw [← HW7.out]
        refine (among_any b A n c (T + 4 + 6 * out.length + 2 + 2) xs _ 7 7 [0, 1, 2, 999999, 500000, x5, x7] W7 (HX6.out.below z7) HA.out (HS6.out.below z7) (by omega) hn r7 (fun k hk => by simp [blk] at hk; omega) (by omega) (by omega)).mono ?_
        rintro e8 w8 ⟨y, rfl, hy, hs8, hk8⟩
        have hyr := HR7.out y hy
        have HO8 := hk8.own' (HO6.out.below z7) hb
        have HK8 := Lib.hid ((HKw.out.trans (Kb.of_below z7)).trans hk8)
        have HS8 := Lib.hid hs8
        clear hy hs8 hk8 r7 z7 HR7 HO6 HKw HS6 HX6 HW7
        have hl8 : w.heap.size ≤ w8.heap.size := HK8.out.size
        go_wp2_with (at_builtin; refine wpList_append_Own rfl (.tmp 19) (.tmp 28) rfl elI (lo := w.heap.size) rfl (HO8.alloc _) rfl (Rd.new1 w8 _ _) (ints_one [y]) (by omega) (by simp only [maxLen]; omega) (by simp; omega) ?_; intro A9 c9 w9 ho9 hg9 _)
        have HK9 := Lib.hid ((HK8.out.alloc (.cells #[.int .i64 y] 2)).grown (HO8.alloc (.cells #[.int .i64 y] 2)) (Nat.le_refl _) hg9)
        have HO9 : Hid (Own w9 w.heap.size 2 1 A9 (out ++ ([y] : List Int)).length c9 (ints (out ++ ([y] : List Int)))) := Lib.hid (by rw [List.length_append]; simpa [ints] using ho9)
        have HS9 : Hid (Src b A n c (T + 4 + 6 * (out ++ ([y] : List Int)).length) w9) := Lib.hid (by
          have h1 := HS8.out.alloc (.cells #[.int .i64 y] 2)
          obtain ⟨a, s, h2, h3, h4, h5⟩ := h1
          refine ⟨a, s, by simp; omega, h3, h4, ?_⟩
          exact (hg9.block b h5.lt (fun e => by have := (HO8.alloc (.cells #[.int .i64 y] 2)).blk_ge b e.symm; omega)).trans h5)
        have hlen9 : out.length + 1 = (out ++ ([y] : List Int)).length := by simp
        have HL9 := Lib.hid (HL.out.snoc hyr)
        rw [hlen9]
        clear ho9 hg9 HO8 HK8 HS8
        go_wp2_with fail
        go_roundw
        case rel => exact ⟨k - 1, out ++ ([y] : List Int), A9, c9, rfl, rfl, by simp; omega, HO9, HL9, HS9, HK9⟩
        case measure => simp [intOf]; omega
      · subst h0
        have HXr := Lib.hid (HX.out.kb HK.out HA.out)
        have i1 : ¬ (0 : Int) < ((0 : Nat) : Int) := by omega
        have hol : out.length ≤ 5 := by omega
        go_wp2_with fail
        refine (one_any b A n c (T + 4 + 6 * out.length) xs 12 _ HXr.out HA.out HSr.out (by omega) hn (by omega) (by omega)).mono ?_
        rintro e5 w5 ⟨y5, rfl, hs5, hk5⟩
        have HO5 := Lib.hid (hk5.own' HO.out hb)
        have HK5 := Lib.hid (HK.out.trans hk5)
        have HS5 := Lib.hid (hs5.le (T' := T + 100) (by omega))
        clear hs5 hk5 HO HK HSr HXr
        cases y5
        · go_wp2_with fail
          refine (l02Trim_any D _ d w.heap.size out w5 HO5.out HL.out (by omega)).mono ?_
          rintro e w' ⟨rfl, ho5, rfl⟩
          go_wp2_with fail
          go_ret
          exact ⟨D, d, (val out).toNat, rfl, ho5, lims_len HL.out (by omega), HS5.out.le (by omega), HK5.out⟩
        · go_wp2_with fail
          go_loopw [3] (fun s3 wr => ∃ (ot : List Int) (D' : Option Addr) (d' : Nat), s3 = .slice D' ot.length d' ∧ ot.length ≤ 40 ∧ Hid (Own wr w.heap.size 2 1 D' ot.length d' (ints ot)) ∧ Hid (lims ot) ∧ Hid (Src b A n c (T + 100) wr) ∧ Hid (Kb b w wr)) (fun s3 _ => match s3 with | .slice _ n _ => 40 - n | _ => 0)
          case atStart => exact ⟨out, D, d, rfl, by omega, HO5, HL, HS5, HK5⟩
          case round =>
            obtain ⟨ot, D', d', rfl, hol4, HO6, HL6, HS6, HK6⟩ := hrel
            clear HO5 HL HS5 HK5
            have hl6 : w.heap.size ≤ wr.heap.size := HK6.out.size
            by_cases hlt : ot.length < 40
            · have i2 : (ot.length : Int) < 40 := by omega
              have ho6 := HO6.out
              go_wp2_with (at_builtin; refine wpList_append_Own rfl (.tmp 35) (.tmp 36) rfl elI (lo := w.heap.size) rfl (ho6.alloc _) rfl (Rd.new1 wr _ _) (ints_one [999999]) (by omega) (by simp only [maxLen]; omega) (by simp; omega) ?_; intro A9 c9 w9 ho9 hg9 _)
              have HK9 := Lib.hid ((HK6.out.alloc (.cells #[.int .i64 999999] 2)).grown (ho6.alloc (.cells #[.int .i64 999999] 2)) (Nat.le_refl _) hg9)
              have HO9 : Hid (Own w9 w.heap.size 2 1 A9 (ot ++ ([999999] : List Int)).length c9 (ints (ot ++ ([999999] : List Int)))) := Lib.hid (by rw [List.length_append]; simpa [ints] using ho9)
              have HS9 : Hid (Src b A n c (T + 100) w9) := Lib.hid (by
                have h1 := HS6.out.alloc (.cells #[.int .i64 999999] 2)
                obtain ⟨a, s, h2, h3, h4, h5⟩ := h1
                refine ⟨a, s, h2, h3, h4, ?_⟩
                exact (hg9.block b h5.lt (fun e => by have := (ho6.alloc (.cells #[.int .i64 999999] 2)).blk_ge b e.symm; omega)).trans h5)
              have hlen9 : ot.length + 1 = (ot ++ ([999999] : List Int)).length := by simp
              have HL9 := Lib.hid (HL6.out.snoc (y := 999999) (by omega))
              have HM : Hid (40 - (ot ++ ([999999] : List Int)).length < 40 - ot.length) := Lib.hid (by simp; omega)
              rw [hlen9]
              clear ho9 hg9 ho6 HO6 HK6 HS6
              go_wp2_with fail
              go_roundw
              case rel => exact ⟨ot ++ ([999999] : List Int), A9, c9, rfl, by simp; omega, HO9, HL9, HS9, HK9⟩
              case measure => exact HM.out
            · have i2 : ¬ (ot.length : Int) < 40 := by omega
              go_wp2_with fail
              refine (l02Trim_any D' _ d' w.heap.size ot wr HO6.out HL6.out (by omega)).mono ?_
              rintro e w' ⟨rfl, ho5, rfl⟩
              go_wp2_with fail
              go_ret
              exact ⟨D', d', (val ot).toNat, rfl, ho5, lims_len HL6.out (by omega), HS6.out.le (by omega), HK6.out⟩
  · -- one of the listed numbers
    obtain ⟨W2, hW2⟩ : ∃ W2, W2 = w1.alloc (.cells ((first18.map (Value.int .i64)).toArray) 2) := ⟨_, rfl⟩
    have z2 : Below w1.heap.size w1 W2 := by rw [hW2]; exact (Below.refl _ _).alloc (Nat.le_refl _) _
    have r2 : SI W2 (some ⟨w1.heap.size, 0, none⟩) 18 first18 := by
      rw [hW2]
      exact (Own.lit w1 (first18.map (Value.int .i64)).toArray 2 18 1 w1.heap.size rfl (by simp [maxLen]) (Nat.le_refl _)).rd
    have HW2 : Hid (W2 = w1.alloc (.cells #[.int .i64 0, .int .i64 1, .int .i64 2, .int .i64 3, .int .i64 6, .int .i64 7, .int .i64 9, .int .i64 10, .int .i64 24, .int .i64 64, .int .i64 97, .int .i64 99, .int .i64 100, .int .i64 720, .int .i64 999999, .int .i64 1000000, .int .i64 1000001, .int .i64 30030] 2)) := Lib.hid hW2
    clear hW2
    go_wp2_with fail
    rw [← HW2.out]
    refine (among_any b A n c (T + 2) xs _ 18 18 first18 W2 (HX1.out.below z2) HA.out (HS1.out.below z2) (by omega) hn r2 (fun k hk => by simp [blk] at hk; have := HLT1.out; omega) (by omega) (by omega)).mono ?_
    rintro e3 w3 ⟨y, rfl, hy, hs3, hk3⟩
    have hyr := first18_range y hy
    obtain ⟨v, rfl⟩ : ∃ v : Nat, y = (v : Int) := ⟨y.toNat, by omega⟩
    have hv : v ≤ 1000000000000000000 := by omega
    have K3 := Lib.hid ((HK1.out.trans (Kb.of_below z2)).trans hk3)
    have S3 := Lib.hid hs3
    clear hs3 hk3 hy r2 z2
    go_wp2_with fail
    refine (l02Of_any v w3 hv).mono ?_
    rintro e4 w4 ⟨D, d, rfl, o4, z4⟩
    go_wp2_with fail
    go_ret
    exact ⟨D, d, v, rfl, o4.mono K3.out.size, big_len hv, (S3.out.below z4).le (by omega), K3.out.trans (Kb.of_below z4)⟩
end Go.Proofs.Ytpleclmlcojkdaa

/-
  The reference's B10Naturals, B10Smalls.
-/
namespace Go.Proofs.Ytpleclmlcojkdaa
open Go.RowKit

/-- Two naturals of at most 40 limbs were drawn. -/
def DrewTwo (w : World) (e : Ending) (w' : World) : Prop :=
  ∃ D d v E f u, e = .returned (.tuple #[.slice D (natL v).length d, .slice E (natL u).length f]) ∧ Own w' w.heap.size 2 1 D (natL v).length d (ints (natL v)) ∧ Own w' w.heap.size 2 1 E (natL u).length f (ints (natL u)) ∧ (natL v).length ≤ 40 ∧ (natL u).length ≤ 40 ∧ Below w.heap.size w w'
set_option maxRecDepth 100000 in
set_option maxHeartbeats 400000 in
theorem b10Naturals_any (A : Option Addr) (n c : Nat) (xs : List Int) (w : World) (hx : SB w A n xs) (hA : ∀ k, blk A = some k → k < w.heap.size) (hn : n ≤ 9223372036854775807) :
    Calls Try.prog 23 #[.slice A n c] w (DrewTwo w) := by
  have HX := Lib.hid hx
  have HA : Hid (∀ k, blk A = some k → k ≠ w.heap.size) := Lib.hid (fun k hk => Nat.ne_of_lt (hA k hk))
  clear hx hA
  go_enter Try.func23, Try.ntmps23
  go_wp2_with fail
  refine (from_any A n c w).mono ?_
  rintro e w1 ⟨rfl, hs1, z1⟩
  have hb1 : w.heap.size < w1.heap.size := by obtain ⟨_, _, _, _, _, h⟩ := hs1; exact h.lt
  have HX1 := Lib.hid (HX.out.below z1)
  obtain ⟨b, hb⟩ : ∃ b, b = w.heap.size := ⟨_, rfl⟩
  have HZ1 : Hid (Below w.heap.size w w1) := Lib.hid z1
  rw [← hb] at hs1 hb1 HA ⊢
  have HBE := Lib.hid hb
  clear hb
  go_wp2_with fail
  refine (l02DrawOk_any b A n c 0 xs w1 HX1.out HA.out hs1 hb1 (by omega) hn).mono ?_
  rintro e w2 ⟨D, d, v, rfl, o2, hv, hs2, hk2⟩
  have HX2 := Lib.hid (HX1.out.kb hk2 HA.out)
  have HK2 := Lib.hid hk2
  have hb2 : b < w2.heap.size := by have := hk2.size; omega
  have HL2 : Hid (w1.heap.size ≤ w2.heap.size) := Lib.hid hk2.size
  have HO2 := Lib.hid o2
  clear hk2 o2
  go_wp2_with fail
  refine (l02DrawOk_any b A n c (0 + 100) xs w2 HX2.out HA.out hs2 hb2 (by omega) hn).mono ?_
  rintro e w3 ⟨E, f, u, rfl, o3, hu, hs3, hk3⟩
  have HO3 := Lib.hid (hk3.own' HO2.out hb1)
  have hz : Below w.heap.size w w3 := (HK2.out.trans hk3).below HZ1.out (by have := HBE.out; omega)
  go_wp2_with fail
  exact bodyPost_ret (v := .tuple #[.slice D (natL v).length d, .slice E (natL u).length f]) (by simp [results, Try.results23, go_sem]) rfl ⟨D, d, v, E, f, u, rfl, HO3.out.mono (by have := HBE.out; omega), o3.mono (by have := HL2.out; have := HBE.out; omega), hv, hu, hz⟩
theorem OW.kb {b lo n c : Nat} {w w' : World} {A : Option Addr} {ts : List Sl} (h : OW w lo A n c ts) (k : Kb b w w') (hb : b < lo) : OW w' lo A n c ts := ⟨k.own' h.1 hb, fun t ht => k.own' (h.2 t ht) hb⟩
/-- A few small naturals were drawn. -/
def DrewFew (w : World) (e : Ending) (w' : World) : Prop :=
  ∃ E ec ts vs, e = .returned (.slice E ts.length ec) ∧ OW w' w.heap.size E ts.length ec ts ∧ NatRows ts vs ∧ Few5 vs ∧ Below w.heap.size w w'
theorem nums_snoc2 {ts : List Sl} {vs : List Nat} {v : Nat} {u : Sl} (h : nums ts = vs.map natL) (hu : u.xs = natL v) : nums (ts ++ [u]) = (vs ++ [v]).map natL := by
  unfold nums at h ⊢
  rw [List.map_append, h, List.map_append]; simp [hu]
theorem OW.mono {w : World} {lo lo2 n c : Nat} {A : Option Addr} {ts : List Sl} (h : OW w lo A n c ts) (hl : lo2 ≤ lo) : OW w lo2 A n c ts := ⟨h.1.mono hl, fun t ht => (h.2 t ht).mono hl⟩
theorem Src.grown {b : Nat} {A : Option Addr} {n c T lo m d : Nat} {W W' : World} {E : Option Addr} {e : TypeId} {cs : List Value} (h : Src b A n c T W) (ho : Own W lo e 1 E m d cs) (hg : W.grownBy W' (blk E)) (hb : b < lo) : Src b A n c T W' := by
  obtain ⟨a, s, h2, h3, h4, h5⟩ := h
  exact ⟨a, s, h2, h3, h4, (hg.block b h5.lt (fun e => by have := ho.blk_ge b e.symm; omega)).trans h5⟩
set_option maxRecDepth 100000 in
set_option maxHeartbeats 1000000 in
theorem b10Smalls_any (A : Option Addr) (n c : Nat) (xs : List Int) (w : World) (hx : SB w A n xs) (hA : ∀ k, blk A = some k → k < w.heap.size) (hn : n ≤ 9223372036854775807) :
    Calls Try.prog 27 #[.slice A n c] w (DrewFew w) := by
  have HX := Lib.hid hx
  have HA : Hid (∀ k, blk A = some k → k ≠ w.heap.size) := Lib.hid (fun k hk => Nat.ne_of_lt (hA k hk))
  clear hx hA
  go_enter Try.func27, Try.ntmps27
  go_wp2_with fail
  refine (from_any A n c w).mono ?_
  rintro e w1 ⟨rfl, hs1, z1⟩
  have hb1 : w.heap.size < w1.heap.size := by obtain ⟨_, _, _, _, _, h⟩ := hs1; exact h.lt
  have HX1 := Lib.hid (HX.out.below z1)
  obtain ⟨b, hb⟩ : ∃ b, b = w.heap.size := ⟨_, rfl⟩
  have HZ1 : Hid (Below w.heap.size w w1) := Lib.hid z1
  rw [← hb] at hs1 hb1 HA ⊢
  obtain ⟨W2, hW_⟩ : ∃ W_, W_ = w1.alloc (.cells #[] 25) := ⟨_, rfl⟩
  have b2 : Blk W2 w1.heap.size 25 #[] := by rw [hW_]; exact Blk.new w1 _ _
  have z2 : Below w1.heap.size w1 W2 := by rw [hW_]; exact (Below.refl _ _).alloc (Nat.le_refl _) _
  have HW2 := Lib.hid hW_
  clear hW_
  obtain ⟨lo, hlo⟩ : ∃ lo, lo = w1.heap.size := ⟨_, rfl⟩
  have HO2 : Hid (OW W2 lo (some ⟨w1.heap.size, 0, none⟩) ([] : List Sl).length 0 []) := Lib.hid (by rw [HW2.out, hlo]; exact ⟨Own.lit0 w1 _ 1, fun t ht => by cases ht⟩)
  have HX2 := Lib.hid (HX1.out.below z2)
  have HS2 := Lib.hid (hs1.below z2)
  have HK2 := Lib.hid (Kb.of_below (b := b) z2)
  have HB : Hid (b < lo ∧ w.heap.size ≤ lo ∧ b = w.heap.size) := Lib.hid (by omega)
  have HLO := Lib.hid hlo
  clear b2 z2 hs1 hb hlo
  go_upto_region 3 with fail
  rw [← HW2.out]
  clear HW2
  go_wp2_with fail
  refine (pick_any b A n c 0 xs 5 W2 HX2.out HA.out HS2.out (by omega) hn (by omega) (by omega)).mono ?_
  rintro e w3 ⟨x, rfl, hx0, hx1, hs3, hk3⟩
  obtain ⟨q, rfl⟩ : ∃ q : Nat, x = (q : Int) := ⟨x.toNat, by omega⟩
  have HO3 := Lib.hid (HO2.out.kb hk3 HB.out.1)
  have HK3 := Lib.hid (HK2.out.trans hk3)
  have HS3 := Lib.hid hs3
  have HL3 : Hid (lo ≤ w3.heap.size) := Lib.hid (by have := HK3.out.size; have := HLO.out; omega)
  have HQ : Hid (q ≤ 4) := Lib.hid (by omega)
  clear hs3 hk3 HO2 HS2 HX2 HK2
  go_wp2_with fail
  go_loopw [4, 5] (fun s4 s5 wr => ∃ (j : Nat) (E : Option Addr) (ec : Nat) (ts : List Sl) (vs : List Nat), j ≤ 5 ∧ s5 = .int .i64 ((j : Int) - 1) ∧ s4 = .slice E ts.length ec ∧ Hid (OW wr lo E ts.length ec ts) ∧ Hid (nums ts = vs.map natL ∧ ∀ v ∈ vs, v ≤ 39) ∧ ts.length ≤ 5 ∧ Hid (ts.length + j = q + 1) ∧ Hid (Src b A n c (2 + 2 * ts.length) wr) ∧ Hid (Kb b w1 wr)) (fun _ s5 _ => (intOf s5 + 1).toNat)
  case atStart => exact ⟨q + 1, _, 0, [], [], by have := HQ.out; omega, by congr 1; omega, rfl, HO3, Lib.hid ⟨rfl, fun v hv => by cases hv⟩, by simp, Lib.hid (by simp), HS3, HK3⟩
  case round =>
    obtain ⟨j, E, ec, ts, vs, hj, rfl, rfl, HO, HN, htl, HTL, HSr, HK⟩ := hrel
    clear HO3 HS3 HK3
    have HXr := Lib.hid (HX1.out.kb HK.out HA.out)
    have HLr : Hid (lo ≤ wr.heap.size) := Lib.hid (by have := HK.out.size; have := HLO.out; omega)
    rcases Nat.eq_zero_or_pos j with h0 | h0
    · subst h0
      have i1 : ¬ (0 : Int) ≤ ((0 : Nat) : Int) - 1 := by omega
      have HR : Hid (NatRows ts vs ∧ Few5 vs) := Lib.hid (by
        have hvl : vs.length = ts.length := by have := congrArg List.length HN.out.1; simpa [nums] using this.symm
        have h := HTL.out
        have hq := HQ.out
        refine ⟨⟨HN.out.1, fun v hv => ?_⟩, by omega, by omega, HN.out.2⟩
        have := HN.out.2 v hv
        exact big_len (by omega))
      have HZ : Hid (Below w.heap.size w wr) := Lib.hid (HK.out.below HZ1.out (by have := HB.out; omega))
      go_wp2_with fail
      go_ret
      exact ⟨E, ec, ts, vs, rfl, HO.out.mono HB.out.2.1, HR.out.1, HR.out.2, HZ.out⟩
    · obtain ⟨i, rfl⟩ : ∃ i, j = i + 1 := ⟨j - 1, by omega⟩
      have ei : ((i + 1 : Nat) : Int) - 1 = (i : Int) := by omega
      rw [ei]
      have i1 : (0 : Int) ≤ (i : Int) := by omega
      have wi : IntKind.i64.wrap ((i : Int) - 1) = (i : Int) - 1 := IntWalk.i64_in _ (by omega)
      go_wp2_with fail
      refine (pick_any b A n c (2 + 2 * ts.length) xs 40 wr HXr.out HA.out HSr.out (by omega) hn (by omega) (by omega)).mono ?_
      rintro e w5 ⟨y, rfl, hy0, hy1, hs5, hk5⟩
      obtain ⟨v, rfl⟩ : ∃ v : Nat, y = (v : Int) := ⟨y.toNat, by omega⟩
      have hv39 : v ≤ 39 := by omega
      have HO5 := Lib.hid (HO.out.kb hk5 HB.out.1)
      have HK5 := Lib.hid (HK.out.trans hk5)
      have HS5 := Lib.hid hs5
      have HL5 : Hid (lo ≤ w5.heap.size) := Lib.hid (by have := hk5.size; have := HLr.out; omega)
      clear hs5 hk5 HO HK HXr HSr hy0 hy1
      go_wp2_with fail
      refine (l02Of_any v w5 (by omega)).mono ?_
      rintro e w6 ⟨F, fc, rfl, o6, z6⟩
      have HO6 := HO5.out.below z6
      have o6' := o6.mono HL5.out
      have HK6 := Lib.hid (HK5.out.trans (Kb.of_below z6))
      have HS6 := Lib.hid (HS5.out.below z6)
      have hl6 : lo ≤ w6.heap.size := by have := HL5.out; have := z6.size; omega
      clear o6 z6 HO5 HK5 HS5
      go_wp2_with (at_builtin; refine wpList_append_Own rfl (.tmp 15) (.tmp 19) rfl elII (lo := lo) rfl (HO6.alloc _).1 rfl (Rd.new1 w6 (.slice F (natL v).length fc) _) (by simp [Value.oneCell']) (by omega) (by simp only [maxLen]; omega) (by simp; omega) ?_; intro A8 c8 w8 ho8 hg8 hw8)
      have HO8 : Hid (OW w8 lo A8 (ts ++ ([⟨F, fc, natL v⟩] : List Sl)).length c8 (ts ++ ([⟨F, fc, natL v⟩] : List Sl))) := Lib.hid (by
        rw [List.length_append]
        exact OW.snoc (HO6.alloc _) ho8 hg8 (o6'.alloc _))
      have HN8 : Hid (nums (ts ++ ([⟨F, fc, natL v⟩] : List Sl)) = (vs ++ [v]).map natL ∧ ∀ x ∈ vs ++ [v], x ≤ 39) := Lib.hid ⟨nums_snoc2 HN.out.1 rfl, fun x hx => by
        rcases List.mem_append.1 hx with h | h
        · exact HN.out.2 x h
        · rw [List.mem_singleton.1 h]; exact hv39⟩
      have HS8 := Lib.hid ((HS6.out.alloc (.cells #[.slice F (natL v).length fc] 25)).grown (HO6.alloc (.cells #[.slice F (natL v).length fc] 25)).1 hg8 HB.out.1)
      have HK8 : Hid (Kb b w1 w8) := Lib.hid ((HK6.out.alloc (.cells #[.slice F (natL v).length fc] 25)).grown (HO6.alloc (.cells #[.slice F (natL v).length fc] 25)).1 (by rw [HLO.out]; exact Nat.le_refl _) hg8)
      have hl8 : ts.length + 1 = (ts ++ ([⟨F, fc, natL v⟩] : List Sl)).length := by simp
      have HT8 : Hid ((ts ++ ([⟨F, fc, natL v⟩] : List Sl)).length ≤ 5 ∧ (ts ++ ([⟨F, fc, natL v⟩] : List Sl)).length + i = q + 1 ∧ 2 + 2 * ts.length + 2 ≤ 2 + 2 * (ts ++ ([⟨F, fc, natL v⟩] : List Sl)).length) := Lib.hid (by have := HTL.out; have := HQ.out; simp; omega)
      rw [hl8]
      clear ho8 hg8 hw8 HO6 o6' HS6 HK6
      go_wp2_with fail
      go_roundw
      case rel => exact ⟨i, A8, c8, _, vs ++ [v], by omega, by go_num, rfl, HO8, HN8, HT8.out.1, Lib.hid HT8.out.2.1, Lib.hid (HS8.out.le HT8.out.2.2), HK8⟩
      case measure => (simp [intOf] <;> omega)
end Go.Proofs.Ytpleclmlcojkdaa
