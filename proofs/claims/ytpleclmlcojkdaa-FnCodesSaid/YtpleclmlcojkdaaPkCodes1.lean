/-
  Contracts of impl's lettersOk, WordNumber, WordOf, RankWord, SmallOf.
-/
import Derived.Test.YtpleclmlcojkdaaPkCodes0
namespace Go.Proofs.Ytpleclmlcojkdaa
open Go.RowKit

/-- A short word over L letters. -/
structure ShortW (L : Nat) (ws : List Int) : Prop where
  one : 1 ≤ L
  four : L ≤ 4
  len : ws.length ≤ 9
  mem : ∀ x ∈ ws, 0 ≤ x ∧ x < L
theorem ShortW.lt {L : Nat} {ws : List Int} (h : ShortW L ws) (j : Nat) : wordN L 0 (ws.take j) ≤ 5000000 := by
  have h1 := wordN_lt h.one h.four (ws.take j) 0 9 (fun x hx => h.mem x (List.mem_of_mem_take hx)) (by have := h.len; rw [List.length_take]; omega) (by simp) (by omega)
  have h2 : (5 : Nat) ^ 9 = 1953125 := by decide
  omega
theorem ShortW.all {L : Nat} {ws : List Int} (h : ShortW L ws) : allIn ws 0 ((L : Int) - 1) = true := by
  unfold allIn
  rw [List.all_eq_true]
  intro y hy
  have := h.mem y hy
  exact (inB_iff _ _ _).2 (by omega)
theorem ShortW.all9 {L : Nat} {ws : List Int} (h : ShortW L ws) : allIn ws 0 9 = true := by
  unfold allIn
  rw [List.all_eq_true]
  intro y hy
  have := h.mem y hy
  have := h.four
  exact (inB_iff _ _ _).2 (by omega)
theorem small2 {x : Nat} (h : x ≤ 1000000000000) : (natL x).length ≤ 3 := natL_len_le (by show (x : Int) < 1000000 * (1000000 * (1000000 * 1)); omega)
theorem wordN_take {L : Nat} {ws : List Int} {j : Nat} (h : j < ws.length) (n : Nat) : wordN L n (ws.take (j + 1)) = wordN L n (ws.take j) * L + (ws[j]).toNat + 1 := by
  rw [List.take_succ_eq_append_getElem h, wordN_snoc]
theorem lettersOk_any (L : Nat) (w : World) (h1 : 1 ≤ L) (h4 : L ≤ 4) :
    Calls Try.prog 112 #[.int .i64 (L : Int)] w fun e w' => e = .returned (.bool true) ∧ w = w' := by
  have hin : inB (L : Int) 1 10 = true := (inB_iff _ _ _).2 (by omega)
  have HIN := Lib.hid hin
  clear hin
  go_enter Try.func112, Try.ntmps112
  go_wp2_with fail
  refine (within_is HIN.out _).mono ?_
  rintro e w' ⟨rfl, rfl⟩
  go_wp2_with fail
  go_ret
  exact ⟨rfl, rfl⟩
theorem isWordS_any {L : Nat} {ws : List Int} (h : ShortW L ws) (A : Option Addr) (n c : Nat) (w : World) (hx : SI w A n ws) :
    Calls Try.prog 119 #[.slice A n c] w fun e w' => e = .returned (.bool true) ∧ w = w' := by
  have hn : (n : Int) ≤ 400 := by have := hx.len; have := h.len; omega
  have HA : Hid (Calls Try.prog 186 #[.slice A n c] w fun e w' => e = .returned (.bool true) ∧ w = w') := Lib.hid (by
    have HW := Lib.hid (allWithin_ok h.all9 A n c w hx (by omega))
    clear h hx hn
    go_enter Try.func186, Try.ntmps186
    go_wp2_with fail
    refine HW.out.mono ?_
    rintro e w' ⟨rfl, rfl⟩
    go_wp2_with fail
    go_ret
    exact ⟨rfl, rfl⟩)
  clear h hx
  go_enter Try.func119, Try.ntmps119
  go_wp2_with (go_at_call 186; refine HA.out.mono ?_; rintro e w' ⟨rfl, rfl⟩)
  go_ret
  exact ⟨rfl, rfl⟩
set_option maxRecDepth 100000 in
set_option maxHeartbeats 4000000 in
theorem WordNumber_any {L : Nat} {ws : List Int} (h : ShortW L ws) (A : Option Addr) (n c : Nat) (w : World) (hx : SI w A n ws) :
    Calls Try.prog 36 #[.slice A n c, .int .i64 (L : Int)] w (NewN2 w (wordN L 0 ws) 0) := by
  have hn9 : n ≤ 9 := by have := hx.len; have := h.len; omega
  have HH := Lib.hid h
  have HX := Lib.hid hx
  have HXL := Lib.hid hx.len
  have HLO := Lib.hid (lettersOk_any L w h.one h.four)
  have HAW := Lib.hid (allWithin_ok h.all A n c w hx (by omega))
  have h1 := h.one
  have h4 := h.four
  have wl : IntKind.i64.wrap ((L : Int) - 1) = (L : Int) - 1 := IntWalk.i64_in _ (by omega)
  have i400 : ¬ (400 : Int) < (n : Int) := by omega
  clear h hx
  go_enter Try.func36, Try.ntmps36
  go_wp2_with (first
    | (go_at_call 112; refine HLO.out.mono ?_; rintro e w' ⟨rfl, rfl⟩)
    | (go_at_call 113; refine HAW.out.mono ?_; rintro e w' ⟨rfl, rfl⟩))
  obtain ⟨W1, hW_⟩ : ∃ W_, W_ = w.alloc (.cells #[] 2) := ⟨_, rfl⟩
  have b1 : Blk W1 w.heap.size 2 #[] := by rw [hW_]; exact Blk.new w _ _
  have z1 : Below w.heap.size w W1 := by rw [hW_]; exact (Below.refl _ _).alloc (Nat.le_refl _) _
  have HW1 := Lib.hid hW_
  clear hW_
  have HO1 : Hid (Own W1 w.heap.size 2 1 (some ⟨w.heap.size, 0, none⟩) (natL (wordN L 0 (ws.take 0))).length 0 (ints (natL (wordN L 0 (ws.take 0))))) := Lib.hid (by
    rw [List.take_zero, wordN, natL_zero, HW1.out]; exact Own.lit0 w _ 1)
  have HE0 : Hid (0 = (natL (wordN L 0 (ws.take 0))).length) := Lib.hid (by rw [List.take_zero, wordN, natL_zero]; rfl)
  clear b1
  go_upto_region 5 with fail
  rw [← HW1.out]
  clear HW1
  go_loopw [6, 27] (fun s6 s27 wr => ∃ (j : Nat) (E : Option Addr) (ec : Nat), j ≤ n ∧ s27 = .int .i64 (j : Int) ∧ s6 = .slice E (natL (wordN L 0 (ws.take j))).length ec ∧ Hid (Own wr w.heap.size 2 1 E (natL (wordN L 0 (ws.take j))).length ec (ints (natL (wordN L 0 (ws.take j))))) ∧ Below w.heap.size w wr) (fun _ s27 _ => n - (intOf s27).toNat)
  case atStart => exact ⟨0, _, 0, Nat.zero_le _, rfl, by rw [← HE0.out], HO1, z1⟩
  case round =>
    obtain ⟨j, E, ec, hj, rfl, rfl, HO, hz⟩ := hrel
    clear HO1 z1
    by_cases hlt : j < n
    · have i1 : (j : Int) < (n : Int) := by omega
      have i2 : (0 : Int) ≤ (j : Int) := by omega
      obtain ⟨g, o, hAE, hgl, hc⟩ := (HX.out.below hz).at_ hlt
      have hdr := HH.out.mem _ (List.getElem_mem (show j < ws.length by rw [HXL.out]; exact hlt))
      obtain ⟨N, hN⟩ : ∃ N, wordN L 0 (ws.take j) = N := ⟨_, rfl⟩
      have HNS := Lib.hid (wordN_take (L := L) (show j < ws.length by rw [HXL.out]; exact hlt) 0)
      have hN5 := HH.out.lt j
      have hN6 := HH.out.lt (j + 1)
      obtain ⟨d, hd⟩ : ∃ d, ws[j]'(by rw [HXL.out]; exact hlt) = d := ⟨_, rfl⟩
      rw [hd] at HNS hdr hc
      rw [hN] at HNS HO hN5 ⊢
      obtain ⟨q, rfl⟩ : ∃ q : Nat, d = (q : Int) := ⟨d.toNat, by omega⟩
      have HNE : Hid (wordN L 0 (ws.take (j + 1)) = N * L + (q + 1)) := Lib.hid (by rw [HNS.out, Int.toNat_natCast]; omega)
      rw [HNE.out] at hN6
      have HLN := Lib.hid (small2 (x := N) (by omega))
      have hq10 : q ≤ 10 := by omega
      have wq : IntKind.i64.wrap ((q : Int) + 1) = ((q + 1 : Nat) : Int) := IntWalk.i64_in _ (by omega)
      have HLL := Lib.hid (lit_nat wr (v := L) (by omega) (by omega))
      have HLB : Hid ((natL L).length ≤ 3) := Lib.hid (small2 (by omega))
      have hm5 : N * L ≤ 5000000 := by omega
      have HLM := Lib.hid (small2 (x := N * L) (by omega))
      have HLR : Hid ((natL (N * L + (q + 1))).length ≤ 3) := Lib.hid (small2 (by omega))
      have y0 : Below wr.heap.size wr (wr.alloc (.cells #[.int .i64 (L : Int)] 2)) := (Below.refl _ _).alloc (Nat.le_refl _) _
      have HOr : Hid (SI (wr.alloc (.cells #[.int .i64 (L : Int)] 2)) E (natL N).length (natL N)) := Lib.hid (HO.out.rd.below y0)
      clear hd hN HNS hdr hN5 hm5
      subst hAE
      go_upto_region 7 with fail
      go_wp2_with fail
      refine (multiply_any E _ ec N _ 1 1 L _ HOr.out HLL.out (by have := HLN.out; omega) (by omega)).mono ?_
      rintro e v2 ⟨A2, c2, rfl, o2, z2⟩
      have y2 : Below wr.heap.size wr v2 := y0.trans (z2.mono y0.size)
      go_wp2_with fail
      refine (naturalOf_any ((q + 1 : Nat) : Int) v2 (by omega) (by omega)).mono ?_
      rw [Int.toNat_natCast]
      rintro e v3 ⟨A3, c3, rfl, o3, z3⟩
      have y3 : Below wr.heap.size wr v3 := y2.trans (z3.mono y2.size)
      go_wp2_with fail
      refine (add_any A2 _ c2 (N * L) A3 _ c3 (q + 1) v3 (o2.below z3).rd o3.rd (by have := HLM.out; omega) (by have := small2 (x := q + 1) (by omega); omega)).mono ?_
      rintro e v4 ⟨A4, c4, rfl, o4, z4⟩
      have y4 : Below wr.heap.size wr v4 := y3.trans (z4.mono y3.size)
      have yw : Below w.heap.size w v4 := hz.trans (y4.mono hz.size)
      have hl3 : w.heap.size ≤ v3.heap.size := by have := y3.size; have := hz.size; omega
      have HO4 : Hid (Own v4 w.heap.size 2 1 A4 (natL (N * L + (q + 1))).length c4 (ints (natL (N * L + (q + 1))))) := Lib.hid (o4.mono hl3)
      have i40 : ¬ (40 : Int) < ((natL (N * L + (q + 1))).length : Int) := by have := HLR.out; omega
      clear o4 z4 y4 z3 y3 o3 z2 y2 o2
      go_wp2_with fail
      go_roundw
      case rel => exact ⟨j + 1, A4, c4, by omega, by go_num, by rw [HNE.out], Lib.hid (by rw [HNE.out]; exact HO4.out), yw⟩
      case measure => (simp [intOf] <;> omega)
    · obtain rfl : j = n := by omega
      have i1 : ¬ (j : Int) < (j : Int) := by omega
      have HEN : Hid (ws.take j = ws) := Lib.hid (List.take_of_length_le (by rw [HXL.out]; exact Nat.le_refl _))
      have ho := HO.out
      rw [HEN.out] at ho ⊢
      go_wp2_with fail
      exact bodyPost_ret (v := .tuple #[.slice E (natL (wordN L 0 ws)).length ec, .int .i64 0]) (by simp [results, Try.results36, go_sem]) rfl ⟨E, ec, rfl, ho, hz⟩
end Go.Proofs.Ytpleclmlcojkdaa

/-
  Contracts of impl's WordOf, RankWord, SmallOf.
-/
namespace Go.Proofs.Ytpleclmlcojkdaa
open Go.RowKit

set_option maxRecDepth 100000 in
set_option maxHeartbeats 4000000 in
theorem WordOf_any {L : Nat} {ws : List Int} (h : ShortW L ws) (A : Option Addr) (n c : Nat) (w : World) (hx : SI w A n (natL (wordN L 0 ws))) :
    Calls Try.prog 37 #[.slice A n c, .int .i64 (L : Int)] w (NewIOk w ws) := by
  have hlw : (natL (wordN L 0 ws)).length ≤ 3 := small2 (by have := h.lt ws.length; rw [List.take_length] at this; omega)
  have hn3 : n ≤ 3 := by have := hx.len; omega
  have HI := Lib.hid (isNatural_any A n c _ w hx (by omega))
  rw [show decide (n ≤ 40) = true from decide_eq_true (by omega)] at HI
  have HH := Lib.hid h
  have HX := Lib.hid hx
  have HXL := Lib.hid hx.len
  have HLO := Lib.hid (lettersOk_any L w h.one h.four)
  have h1 := h.one
  have h4 := h.four
  obtain ⟨m, hm⟩ : ∃ m, m = ws.length := ⟨_, rfl⟩
  have hm9 : m ≤ 9 := by have := h.len; omega
  have HM := Lib.hid hm
  clear h hx hm hlw
  go_enter Try.func37, Try.ntmps37
  go_wp2_with fail
  refine HI.out.mono ?_
  rintro e w' ⟨rfl, rfl⟩
  go_wp2_with fail
  refine HLO.out.mono ?_
  rintro e w' ⟨rfl, rfl⟩
  obtain ⟨W1, hW_⟩ : ∃ W_, W_ = w.alloc (.cells #[] 2) := ⟨_, rfl⟩
  have b1 : Blk W1 w.heap.size 2 #[] := by rw [hW_]; exact Blk.new w _ _
  have z1 : Below w.heap.size w W1 := by rw [hW_]; exact (Below.refl _ _).alloc (Nat.le_refl _) _
  have HW1 := Lib.hid hW_
  clear hW_
  have HO1 : Hid (Own W1 w.heap.size 2 1 (some ⟨w.heap.size, 0, none⟩) (ws.drop m).reverse.length 0 (ints (ws.drop m).reverse)) := Lib.hid (by
    rw [List.drop_eq_nil_of_le (by rw [HM.out]; exact Nat.le_refl _), HW1.out]; exact Own.lit0 w _ 1)
  have HE0 : Hid (0 = (ws.drop m).reverse.length) := Lib.hid (by rw [List.drop_eq_nil_of_le (by rw [HM.out]; exact Nat.le_refl _)]; rfl)
  have HT0 : Hid (wordN L 0 ws = wordN L 0 (ws.take m)) := Lib.hid (by rw [HM.out, List.take_length])
  clear b1
  go_upto_region 6 with fail
  rw [← HW1.out]
  clear HW1
  go_loopw [0, 6] (fun s0 s6 wr => ∃ (j : Nat) (E : Option Addr) (ec : Nat) (R : Option Addr) (rn rc : Nat), j ≤ m ∧ s0 = .slice R rn rc ∧ s6 = .slice E (ws.drop j).reverse.length ec ∧ Hid (Own wr w.heap.size 2 1 E (ws.drop j).reverse.length ec (ints (ws.drop j).reverse)) ∧ Hid ((R = A ∧ rn = n ∧ j = m) ∨ Own wr w.heap.size 2 1 R rn rc (ints (natL (wordN L 0 (ws.take j))))) ∧ Hid (rn = (natL (wordN L 0 (ws.take j))).length) ∧ Below w.heap.size w wr) (fun s0 s6 _ => match s6 with | .slice _ k _ => 10 - k | _ => 0)
  case atStart => exact ⟨m, _, 0, A, n, c, Nat.le_refl _, rfl, by rw [← HE0.out], HO1, Lib.hid (.inl ⟨rfl, rfl, rfl⟩), Lib.hid (by rw [← HT0.out]; exact HXL.out.symm), z1⟩
  case round =>
    obtain ⟨j, E, ec, R, rn, rc, hj, rfl, rfl, HO, HR, HRN, hz⟩ := hrel
    clear HO1 z1
    have HRS : Hid (SI wr R rn (natL (wordN L 0 (ws.take j)))) := Lib.hid (by
      rcases HR.out with ⟨rfl, rfl, rfl⟩ | h
      · rw [← HT0.out]; exact HX.out.below hz
      · exact h.rd)
    rcases Nat.eq_zero_or_pos j with h0 | h0
    · subst h0
      have hrn : rn = 0 := by rw [HRN.out, List.take_zero, wordN, natL_zero]; rfl
      have ho := HO.out
      rw [List.drop_zero] at ho ⊢
      subst hrn
      have i1 : ¬ (0 : Int) < ((0 : Nat) : Int) := by omega
      have HSR : Hid (SI wr E ws.length ws.reverse) := Lib.hid (by have h := ho.rd; rw [List.length_reverse] at h; exact h)
      have hrl : ws.length ≤ 1048576 := by rw [← HM.out]; omega
      clear ho
      go_wp2_with fail
      refine (reversed_any E ws.length ec ws.reverse wr HSR.out hrl).mono ?_
      rw [List.reverse_reverse]
      rintro e W9 ⟨A9, c9, rfl, o9, z9⟩
      have y9 := hz.trans (z9.mono hz.size)
      have o9' := o9.mono (lo' := w.heap.size) hz.size
      go_wp2_with fail
      exact bodyPost_ret (v := .tuple #[.slice A9 ws.length c9, .int .i64 0]) (by simp [results, Try.results37, go_sem]) rfl ⟨A9, c9, rfl, o9', y9⟩
    · obtain ⟨i, rfl⟩ : ∃ i, j = i + 1 := ⟨j - 1, by omega⟩
      have hi : i < ws.length := by rw [← HM.out]; omega
      have HNS := Lib.hid (wordN_take (L := L) hi 0)
      have hdr := HH.out.mem _ (List.getElem_mem hi)
      have HDR : Hid ((ws.drop i).reverse = (ws.drop (i + 1)).reverse ++ [ws[i]]) := Lib.hid (by rw [List.drop_eq_getElem_cons hi, List.reverse_cons])
      obtain ⟨d, hd⟩ : ∃ d, ws[i] = d := ⟨_, rfl⟩
      rw [hd] at HNS hdr HDR
      obtain ⟨q, rfl⟩ : ∃ q : Nat, d = (q : Int) := ⟨d.toNat, by omega⟩
      have hN5 := HH.out.lt (i + 1)
      obtain ⟨N, hN⟩ : ∃ N, wordN L 0 (ws.take i) = N := ⟨_, rfl⟩
      have HNI := Lib.hid hN
      rw [hN, Int.toNat_natCast] at HNS
      rw [HNS.out] at HRS HRN hN5
      have HLN := Lib.hid (small2 (x := N * L + q + 1) (by omega))
      have hrn : 0 < rn := by
        rw [HRN.out]
        rcases Nat.eq_zero_or_pos (natL (N * L + q + 1)).length with h | h
        · exact absurd ((natL_nil_iff _).1 (List.length_eq_zero_iff.1 h)) (by omega)
        · exact h
      have hrn2 : rn ≤ 3 := by rw [HRN.out]; exact HLN.out
      have i1 : (0 : Int) < (rn : Int) := by omega
      have HDL : Hid ((ws.drop (i + 1)).reverse.length ≤ 8) := Lib.hid (by rw [List.length_reverse, List.length_drop]; have := HM.out; omega)
      have i400 : ((((ws.drop (i + 1)).reverse.length : Nat) : Int) == 400) = false := by have := HDL.out; simp at this ⊢; omega
      have hqL : q < L := by omega
      have HQ1 : Hid ((N * L + q + 1 - 1) / L = N) := Lib.hid (by
        rw [Nat.add_sub_cancel, Nat.mul_comm, Nat.mul_add_div (by omega), Nat.div_eq_of_lt hqL, Nat.add_zero])
      have HQ2 : Hid ((N * L + q + 1 - 1) % L = q) := Lib.hid (by
        rw [Nat.add_sub_cancel, Nat.mul_comm, Nat.mul_add_mod, Nat.mod_eq_of_lt hqL])
      have HL1 : Hid ((natL 1).length = 1) := Lib.hid (by rw [natL_one]; rfl)
      have HSB : Hid ((natL (N * L + q + 1 - 1)).length ≤ 3) := Lib.hid (small2 (by omega))
      obtain ⟨D, hD⟩ : ∃ D, (ws.drop (i + 1)).reverse = D := ⟨_, rfl⟩
      rw [hD] at HO HDR HDL i400 ⊢
      have ho := HO.out
      have hdl := HDL.out
      clear HR hD hd hdr hN
      go_wp2_with fail
      refine (one_nat wr).mono ?_
      rintro e V1 ⟨B1, d1, rfl, p1, x1⟩
      go_wp2_with fail
      refine (subtract_any R rn rc (N * L + q + 1) B1 _ d1 1 V1 (HRS.out.below x1) p1.rd (by omega) (by have := HL1.out; omega) (by omega)).mono ?_
      rintro e V2 ⟨B2, d2, rfl, p2, x2⟩
      have x12 := x1.trans (x2.mono x1.size)
      go_wp2_with fail
      refine (divideSmall_any B2 _ d2 (N * L + q + 1 - 1) L V2 p2.rd (by have := HSB.out; omega) (by omega) (by omega)).mono ?_
      rw [HQ1.out, HQ2.out]
      rintro e W2 ⟨A2, c2, rfl, o2, x3⟩
      have z2 := x12.trans (x3.mono x12.size)
      have hz2 := hz.trans (z2.mono hz.size)
      have ho2 := ho.below z2
      have hv2 : wr.heap.size ≤ V2.heap.size := x12.size
      have o2' := o2.mono (lo' := w.heap.size) (by have := hz.size; omega)
      have HAPT : Hid (∀ g, blk E = some g → blk A2 ≠ some g) := Lib.hid (fun g h1 h2 => by have := ho.blk_lt g h1; have := o2.blk_ge g h2; omega)
      clear o2 ho x3 x12 x2 p2 x1 p1
      go_wp2_with (at_builtin; refine wpList_append_Own rfl (.tmp 30) (.tmp 32) rfl elI (lo := w.heap.size) rfl (ho2.alloc _) rfl (Rd.new1 W2 _ _) (ints_one [(q : Int)]) (by omega) (by simp only [maxLen]; omega) (by have := hz2.size; simp; omega) ?_; intro A3 c3 w3 ho3 hg3 hk3)
      have hz3 := (ho2.alloc (.cells #[.int .i64 (q : Int)] 2)).below_of (hz2.alloc hz2.size _) hg3 (by have := hz2.size; simp; omega)
      have HO3 : Hid (Own w3 w.heap.size 2 1 A3 (ws.drop i).reverse.length c3 (ints (ws.drop i).reverse)) := Lib.hid (by
        rw [HDR.out, List.length_append]; simpa [ints] using ho3)
      have HR3 : Hid (Own w3 w.heap.size 2 1 A2 (natL N).length c2 (ints (natL N))) := Lib.hid ((o2'.alloc _).grown hg3 HAPT.out)
      have HL8 : Hid (D.length + 1 = (ws.drop i).reverse.length) := Lib.hid (by rw [HDR.out]; simp)
      have HM3 : Hid (10 - (ws.drop i).reverse.length < 10 - D.length) := Lib.hid (by rw [← HL8.out]; omega)
      rw [HL8.out]
      clear ho3 hg3 hk3 ho2 o2'
      go_wp2_with fail
      go_roundw
      case rel => exact ⟨i, A3, c3, A2, _, c2, by omega, rfl, rfl, HO3, Lib.hid (.inr (by rw [HNI.out]; exact HR3.out)), Lib.hid (by rw [HNI.out]), hz3⟩
      case measure => exact HM3.out
set_option maxRecDepth 100000 in
set_option maxHeartbeats 4000000 in
theorem RankWord_any {L : Nat} {ws : List Int} (h : ShortW L ws) (A : Option Addr) (n c : Nat) (w : World) (hx : SI w A n ws) :
    Calls Try.prog 38 #[.slice A n c, .int .i64 (L : Int)] w fun e w' => e = .returned (.tuple #[.int .i64 ((wordN L 0 ws : Nat) : Int), .int .i64 0]) ∧ w = w' := by
  have hn9 : n ≤ 9 := by have := hx.len; have := h.len; omega
  have HIW := Lib.hid (isWordS_any h A n c w hx)
  have HAW := Lib.hid (allWithin_ok h.all A n c w hx (by omega))
  have HH := Lib.hid h
  have HXL := Lib.hid hx.len
  have h1 := h.one
  have h4 := h.four
  have hin : inB (L : Int) 1 10 = true := (inB_iff _ _ _).2 (by omega)
  have HIN := Lib.hid hin
  have wl : IntKind.i64.wrap ((L : Int) - 1) = (L : Int) - 1 := IntWalk.i64_in _ (by omega)
  clear h hin
  go_enter Try.func38, Try.ntmps38
  go_wp2_with fail
  refine HIW.out.mono ?_
  rintro e w' ⟨rfl, rfl⟩
  go_wp2_with (first
    | (go_at_call 92; refine (within_is HIN.out _).mono ?_; rintro e w' ⟨rfl, rfl⟩)
    | (go_at_call 113; refine HAW.out.mono ?_; rintro e w' ⟨rfl, rfl⟩))
  go_loop [6, 24] (fun s6 s24 => ∃ j : Nat, j ≤ n ∧ s24 = .int .i64 (j : Int) ∧ s6 = .int .i64 ((wordN L 0 (ws.take j) : Nat) : Int)) (fun _ s24 => n - (intOf s24).toNat)
  case atStart => exact ⟨0, Nat.zero_le _, rfl, rfl⟩
  case round =>
    obtain ⟨j, hj, rfl, rfl⟩ := hrel
    by_cases hlt : j < n
    · have i1 : (j : Int) < (n : Int) := by omega
      have i2 : (0 : Int) ≤ (j : Int) := by omega
      obtain ⟨g, o, hAE, hgl, hc⟩ := hx.at_ hlt
      have hdr := HH.out.mem _ (List.getElem_mem (show j < ws.length by rw [HXL.out]; exact hlt))
      obtain ⟨N, hN⟩ : ∃ N, wordN L 0 (ws.take j) = N := ⟨_, rfl⟩
      have HNS := Lib.hid (wordN_take (L := L) (show j < ws.length by rw [HXL.out]; exact hlt) 0)
      have hN5 := HH.out.lt j
      have hN6 := HH.out.lt (j + 1)
      obtain ⟨d, hd⟩ : ∃ d, ws[j]'(by rw [HXL.out]; exact hlt) = d := ⟨_, rfl⟩
      rw [hd] at HNS hdr hc
      rw [hN] at HNS hN5 ⊢
      obtain ⟨q, rfl⟩ : ∃ q : Nat, d = (q : Int) := ⟨d.toNat, by omega⟩
      rw [Int.toNat_natCast] at HNS
      rw [HNS.out] at hN6
      have hm5 : N * L ≤ 5000000 := by omega
      have w1 : IntKind.i64.wrap ((N : Int) * (L : Int)) = ((N * L : Nat) : Int) := by rw [← Int.natCast_mul]; exact IntWalk.i64_in _ (by omega)
      have w2 : IntKind.i64.wrap (((N * L : Nat) : Int) + (q : Int)) = ((N * L + q : Nat) : Int) := by rw [← Int.natCast_add]; exact IntWalk.i64_in _ (by omega)
      have w3 : IntKind.i64.wrap (((N * L + q : Nat) : Int) + 1) = ((N * L + q + 1 : Nat) : Int) := by rw [show ((N * L + q : Nat) : Int) + 1 = ((N * L + q + 1 : Nat) : Int) by omega]; exact IntWalk.i64_in _ (by omega)
      obtain ⟨P, hP⟩ : ∃ P, N * L = P := ⟨_, rfl⟩
      obtain ⟨P2, hP2⟩ : ∃ P2, P + q = P2 := ⟨_, rfl⟩
      obtain ⟨P3, hP3⟩ : ∃ P3, P2 + 1 = P3 := ⟨_, rfl⟩
      rw [hP, hP2, hP3] at HNS hN6 w3
      rw [hP, hP2] at w2
      rw [hP] at w1
      have i5 : ¬ (1000000000000 : Int) < (P3 : Int) := by omega
      clear hd hN hdr hP hP2 hP3 hm5 hN5 hN6
      subst hAE
      go_wp2_with fail
      go_round
      case rel => exact ⟨j + 1, by omega, by go_num, by rw [HNS.out]⟩
      case measure => (simp [intOf] <;> omega)
    · obtain rfl : j = n := by omega
      have i1 : ¬ (j : Int) < (j : Int) := by omega
      have HEN : Hid (ws.take j = ws) := Lib.hid (List.take_of_length_le (by rw [HXL.out]; exact Nat.le_refl _))
      rw [HEN.out]
      go_wp2_with fail
      exact bodyPost_ret (v := .tuple #[.int .i64 ((wordN L 0 ws : Nat) : Int), .int .i64 0]) (by simp [results, Try.results38, go_sem]) rfl ⟨rfl, rfl⟩
set_option maxRecDepth 100000 in
set_option maxHeartbeats 4000000 in
theorem SmallOf_any (A : Option Addr) (n c x : Nat) (w : World) (hx : SI w A n (natL x)) (h : x ≤ 1000000000000) :
    Calls Try.prog 39 #[.slice A n c] w fun e w' => e = .returned (.tuple #[.int .i64 (x : Int), .int .i64 0]) ∧ Below w.heap.size w w' := by
  have hn3 : n ≤ 3 := by have := hx.len; have := small2 h; omega
  have HI := Lib.hid (isNatural_any A n c _ w hx (by omega))
  rw [show decide (n ≤ 40) = true from decide_eq_true (by omega)] at HI
  have HX := Lib.hid hx
  have HXL := Lib.hid hx.len
  have HL := Lib.hid (lims_natL x)
  have HB : Hid (∀ j, 0 ≤ val ((natL x).drop j) ∧ val ((natL x).drop j) ≤ 1000000000000) := Lib.hid (fun j => by
    have h1 := val_range ((lims_natL x).drop j)
    have h2 := val_natL x
    have h3 : val (natL x) = val ((natL x).take j) + pw ((natL x).take j).length * val ((natL x).drop j) := by rw [← val_append, List.take_append_drop]
    have h4 := val_range ((lims_natL x).take j)
    have h5 := pw_pos ((natL x).take j).length
    refine ⟨h1.1, ?_⟩
    have h6 : 1 * val ((natL x).drop j) ≤ pw ((natL x).take j).length * val ((natL x).drop j) := Int.mul_le_mul_of_nonneg_right (by omega) h1.1
    omega)
  have HC0 : Hid ((cmpF x 1000000000000) ≤ 0) := Lib.hid (by unfold cmpF; split <;> (try split) <;> omega)
  have wn : IntKind.i64.wrap ((n : Int) - 1) = (n : Int) - 1 := IntWalk.i64_in _ (by omega)
  have HL12 : Hid ((natL 1000000000000).length ≤ 3) := Lib.hid (small2 (by omega))
  clear hx
  go_enter Try.func39, Try.ntmps39
  go_wp2_with fail
  refine HI.out.mono ?_
  rintro e w' ⟨rfl, rfl⟩
  go_wp2_with fail
  refine (naturalOf_any 1000000000000 w (by omega) (by omega)).mono ?_
  rw [show Int.toNat 1000000000000 = 1000000000000 from rfl]
  rintro e W1 ⟨B, d, rfl, o1, z1⟩
  go_wp2_with fail
  refine (compare_any A n c x B _ d 1000000000000 W1 (HX.out.below z1) o1.rd (by omega) (by have := HL12.out; omega)).mono ?_
  rintro e w' ⟨rfl, k1, rfl⟩
  have z2 : Below w.heap.size w (W1.drewN k1) := below_drewN z1 k1
  have HX2 := Lib.hid (show SI (W1.drewN k1) A n (natL x) from HX.out.below z2)
  generalize W1.drewN k1 = W2 at *
  have ic : ¬ (0 : Int) < cmpF x 1000000000000 := by have := HC0.out; omega
  clear o1 z1
  go_wp2_with fail
  go_loop [4, 5] (fun s4 s5 => ∃ j : Nat, j ≤ n ∧ s5 = .int .i64 ((j : Int) - 1) ∧ s4 = .int .i64 (val ((natL x).drop j))) (fun _ s5 => (intOf s5 + 1).toNat)
  case atStart => exact ⟨n, Nat.le_refl _, rfl, by rw [List.drop_eq_nil_of_le (by rw [HXL.out]; exact Nat.le_refl _)]; rfl⟩
  case round =>
    obtain ⟨j, hj, rfl, rfl⟩ := hrel
    rcases Nat.eq_zero_or_pos j with h0 | h0
    · subst h0
      have i1 : ¬ (0 : Int) ≤ ((0 : Nat) : Int) - 1 := by omega
      rw [List.drop_zero, val_natL]
      go_wp2_with fail
      exact bodyPost_ret (v := .tuple #[.int .i64 (x : Int), .int .i64 0]) (by simp [results, Try.results39, go_sem]) rfl ⟨rfl, z2⟩
    · obtain ⟨i, rfl⟩ : ∃ i, j = i + 1 := ⟨j - 1, by omega⟩
      have hi : i < (natL x).length := by rw [HXL.out]; omega
      have ei : ((i + 1 : Nat) : Int) - 1 = (i : Int) := by omega
      rw [ei]
      have i1 : (0 : Int) ≤ (i : Int) := by omega
      have i2 : (i : Int) < (n : Int) := by omega
      have wi : IntKind.i64.wrap ((i : Int) - 1) = (i : Int) - 1 := IntWalk.i64_in _ (by omega)
      obtain ⟨g, o, hAE, hgl, hc⟩ := HX2.out.at_ (k := i) (by omega)
      have HV := Lib.hid (val_drop hi)
      have hb := HB.out i
      have hb1 := HB.out (i + 1)
      obtain ⟨d, hd⟩ : ∃ d, (natL x)[i] = d := ⟨_, rfl⟩
      rw [hd] at HV hc
      rw [HV.out] at hb
      obtain ⟨V, hV⟩ : ∃ V, val ((natL x).drop (i + 1)) = V := ⟨_, rfl⟩
      rw [hV] at HV hb hb1 ⊢
      have hdr : 0 ≤ d ∧ d < 1000000 := by rw [← hd]; exact HL.out.at_ hi
      have w1 : IntKind.i64.wrap (V * 1000000) = V * 1000000 := IntWalk.i64_in _ (by omega)
      have w2 : IntKind.i64.wrap (V * 1000000 + d) = d + 1000000 * V := by rw [show V * 1000000 + d = d + 1000000 * V by omega]; exact IntWalk.i64_in _ (by omega)
      clear hd hV hdr hb hb1
      subst hAE
      go_wp2_with fail
      go_round
      case rel => exact ⟨i, by omega, by go_num, by rw [HV.out]⟩
      case measure => (simp [intOf] <;> omega)
end Go.Proofs.Ytpleclmlcojkdaa

/-
  Contract of impl's WeaveNaturals.
-/
namespace Go.Proofs.Ytpleclmlcojkdaa
open Go.RowKit

theorem weaveD_get (xs ys : List Int) : ∀ (n k : Nat), (weaveD xs ys n)[k]? = if k < 2 * n then some (if k % 2 = 0 then xs.getD (k / 2) 0 else ys.getD (k / 2) 0) else none
  | 0, k => by rw [if_neg (by omega)]; rfl
  | n + 1, k => by
    rw [weaveD, List.getElem?_append, weaveD_len]
    by_cases h : k < 2 * n
    · rw [if_pos h, weaveD_get xs ys n k, if_pos h, if_pos (show k < 2 * (n + 1) by omega)]
    · rw [if_neg h]
      by_cases h1 : k = 2 * n
      · rw [if_pos (show k < 2 * (n + 1) by omega), if_pos (show k % 2 = 0 by omega), show k - 2 * n = 0 by omega, show k / 2 = n by omega]; rfl
      · by_cases h2 : k = 2 * n + 1
        · rw [if_pos (show k < 2 * (n + 1) by omega), if_neg (show ¬ k % 2 = 0 by omega), show k - 2 * n = 1 by omega, show k / 2 = n by omega]; rfl
        · rw [if_neg (by omega), List.getElem?_eq_none (by simp; omega)]
theorem getD_take (xs : List Int) (i k : Nat) : (xs.take i).getD k 0 = if k < i then xs.getD k 0 else 0 := by
  rw [List.getD_eq_getElem?_getD, List.getD_eq_getElem?_getD, List.getElem?_take]
  split <;> rfl
theorem weaveD_even {xs ys : List Int} {n i : Nat} (h : i < n) (hi : i < xs.length) : (weaveD (xs.take i) ys n).set (2 * i) xs[i] = weaveD (xs.take (i + 1)) ys n := by
  apply List.ext_getElem?
  intro k
  rw [List.getElem?_set, weaveD_get, weaveD_get, weaveD_len]
  by_cases hk : 2 * i = k
  · subst hk
    rw [if_pos rfl, if_pos (by omega), if_pos (by omega), if_pos (by omega), getD_take, show 2 * i / 2 = i by omega, if_pos (by omega), List.getD_eq_getElem?_getD, List.getElem?_eq_getElem hi]; rfl
  · rw [if_neg hk]
    by_cases h1 : k < 2 * n
    · rw [if_pos h1, if_pos h1]
      by_cases h2 : k % 2 = 0
      · rw [if_pos h2, if_pos h2, getD_take, getD_take]
        by_cases h3 : k / 2 < i
        · rw [if_pos h3, if_pos (by omega)]
        · rw [if_neg h3, if_neg (by omega)]
      · rw [if_neg h2, if_neg h2]
    · rw [if_neg h1, if_neg h1]
theorem weaveD_odd {xs ys : List Int} {n i : Nat} (h : i < n) (hi : i < ys.length) : (weaveD xs (ys.take i) n).set (2 * i + 1) ys[i] = weaveD xs (ys.take (i + 1)) n := by
  apply List.ext_getElem?
  intro k
  rw [List.getElem?_set, weaveD_get, weaveD_get, weaveD_len]
  by_cases hk : 2 * i + 1 = k
  · subst hk
    rw [if_pos rfl, if_pos (by omega), if_pos (by omega), if_neg (by omega), getD_take, show (2 * i + 1) / 2 = i by omega, if_pos (by omega), List.getD_eq_getElem?_getD, List.getElem?_eq_getElem hi]; rfl
  · rw [if_neg hk]
    by_cases h1 : k < 2 * n
    · rw [if_pos h1, if_pos h1]
      by_cases h2 : k % 2 = 0
      · rw [if_pos h2, if_pos h2]
      · rw [if_neg h2, if_neg h2, getD_take, getD_take]
        by_cases h3 : k / 2 < i
        · rw [if_pos h3, if_pos (by omega)]
        · rw [if_neg h3, if_neg (by omega)]
    · rw [if_neg h1, if_neg h1]
theorem weaveD_nil (n : Nat) : weaveD [] [] n = List.replicate (2 * n) 0 := by
  apply List.ext_getElem?
  intro k
  rw [weaveD_get, List.getElem?_replicate]
  by_cases h : k < 2 * n
  · rw [if_pos h, if_pos h]; split <;> rfl
  · rw [if_neg h, if_neg h]
theorem deci_len {x : Nat} (h : (natL x).length ≤ 40) : (digB 8 x).length ≤ 240 := digB_len (by
  have h1 := natL_lt x
  have h2 := pw_mono h
  rw [pw_eq 40] at h2
  have h3 : (1000000 : Nat) ^ 40 = (8 + 2) ^ 240 := by decide +kernel
  have h4 : x < 1000000 ^ 40 := by have : (x : Int) < ((1000000 ^ 40 : Nat) : Int) := by omega
                                   exact_mod_cast this
  exact h3 ▸ h4)
/-- The woven natural. -/
def wovenN (x y : Nat) : Nat := ofD 10 (weaveD (digB 8 x) (digB 8 y) (max (digB 8 x).length (digB 8 y).length))
set_option maxHeartbeats 1000000 in
theorem limitedBig_any (A : Option Addr) (n c : Nat) (w : World) (hn : 40 < n) :
    Calls Try.prog 98 #[.slice A n c] w fun e w' => e = .returned (.tuple #[.slice none 0 0, .int .i64 5]) ∧ w = w' := by
  have i1 : (40 : Int) < (n : Int) := by omega
  go_enter Try.func98, Try.ntmps98
  go_wp2_with fail
  exact bodyPost_ret (v := .tuple #[.slice none 0 0, .int .i64 5]) (by simp [results, Try.results98, go_sem]) rfl ⟨rfl, rfl⟩
/-- The result: a natural and OK, or nothing and ErrFull. -/
def NewWv (w : World) (V : Nat) (e : Ending) (w' : World) : Prop :=
  ((natL V).length ≤ 40 ∧ NewN2 w V 0 e w') ∨ (40 < (natL V).length ∧ e = .returned (.tuple #[.slice none 0 0, .int .i64 5]) ∧ Below w.heap.size w w')
set_option maxRecDepth 100000 in
set_option maxHeartbeats 4000000 in
theorem WeaveI_any (A : Option Addr) (c x : Nat) (B : Option Addr) (d y : Nat) (w : World) (hx : SI w A (natL x).length (natL x)) (hy : SI w B (natL y).length (natL y)) (hn : (natL x).length ≤ 40) (hm : (natL y).length ≤ 40) :
    Calls Try.prog 46 #[.slice A (natL x).length c, .slice B (natL y).length d] w (NewWv w (wovenN x y)) := by
  obtain ⟨W1, hW_⟩ : ∃ W_, W_ = w.alloc (.cells #[.slice A (natL x).length c, .slice B (natL y).length d] 25) := ⟨_, rfl⟩
  have b1 : Blk W1 w.heap.size 25 #[.slice A (natL x).length c, .slice B (natL y).length d] := by rw [hW_]; exact Blk.new w _ _
  have z1 : Below w.heap.size w W1 := by rw [hW_]; exact (Below.refl _ _).alloc (Nat.le_refl _) _
  have HW1 := Lib.hid hW_
  clear hW_
  have hr : SII W1 (some ⟨w.heap.size, 0, none⟩) 2 [⟨A, c, natL x⟩, ⟨B, d, natL y⟩] := ⟨⟨rfl, fun _ => ⟨_, 0, rfl, fun k hk => by
      rw [show W1.cell? ⟨w.heap.size, 0 + k, none⟩ = _ from b1.cell (0 + k)]
      match k, hk with
      | 0, _ => rfl
      | 1, _ => rfl⟩⟩, fun t ht => by
      rcases List.mem_cons.1 ht with rfl | h
      · exact hx.below z1
      · rw [List.mem_singleton.1 h]; exact hy.below z1⟩
  have HN := Lib.hid (naturals_any _ 2 2 _ [x, y] W1 hr (by omega) ⟨rfl, fun v hv => by
    rcases List.mem_cons.1 hv with rfl | h
    · exact hn
    · rw [List.mem_singleton.1 h]; exact hm⟩)
  have hdx := deci_len hn
  have hdy := deci_len hm
  have HD1 : Hid (Calls Try.prog 124 #[.slice A (natL x).length c, .int .i64 10] W1 (NewIOk W1 (digB 8 x))) := Lib.hid (digitsOf_any A _ c x 8 W1 (hx.below z1) hn (by omega) (by omega))
  have HY1 := Lib.hid (hy.below z1)
  obtain ⟨xs, hxs⟩ : ∃ xs, digB 8 x = xs := ⟨_, rfl⟩
  obtain ⟨ys, hys⟩ : ∃ ys, digB 8 y = ys := ⟨_, rfl⟩
  have HWN : Hid (wovenN x y = ofD 10 (weaveD xs ys (max xs.length ys.length))) := Lib.hid (by unfold wovenN; rw [hxs, hys])
  have HYS := Lib.hid hys
  have HRX : Hid (∀ d ∈ xs, 0 ≤ d ∧ d < (10 : Nat)) := Lib.hid (by rw [← hxs]; exact digB_range 8 x)
  have HRY : Hid (∀ d ∈ ys, 0 ≤ d ∧ d < (10 : Nat)) := Lib.hid (by rw [← hys]; exact digB_range 8 y)
  rw [hxs] at HD1 hdx
  rw [hys] at hdy
  have HM := Lib.hid hm
  clear hr hx hy b1 hxs hys hn
  go_enter Try.func46, Try.ntmps46
  go_wp2_with fail
  rw [← HW1.out]
  refine HN.out.mono ?_
  rintro e w' ⟨rfl, rfl⟩
  go_wp2_with fail
  refine HD1.out.mono ?_
  rintro e W2 ⟨X, xc, rfl, o2, z2⟩
  have y2 := z1.trans (z2.mono z1.size)
  have HD2 : Hid (Calls Try.prog 124 #[.slice B (natL y).length d, .int .i64 10] W2 (NewIOk W2 ys)) := Lib.hid (by
    have h := digitsOf_any B _ d y 8 W2 (HY1.out.below z2) HM.out (by omega) (by rw [HYS.out]; omega)
    rw [HYS.out] at h; exact h)
  go_wp2_with fail
  refine HD2.out.mono ?_
  rintro e W3 ⟨Y, yc, rfl, o3, z3⟩
  have y3 := y2.trans (z3.mono y2.size)
  have HX3 : Hid (SI W3 X xs.length xs) := Lib.hid (o2.below z3).rd
  have HY3 : Hid (SI W3 Y ys.length ys) := Lib.hid o3.rd
  obtain ⟨p, hp⟩ : ∃ p, xs.length = p := ⟨_, rfl⟩
  obtain ⟨q, hq⟩ : ∃ q, ys.length = q := ⟨_, rfl⟩
  obtain ⟨N, hN⟩ : ∃ N, N = max p q := ⟨_, rfl⟩
  rw [hp] at hdx HX3 HWN ⊢
  rw [hq] at hdy HY3 HWN ⊢
  rw [← hN] at HWN
  have hpN : p ≤ N := by omega
  have hqN : q ≤ N := by omega
  have hN2 : N ≤ 240 := by omega
  have hmax : (max (p : Int) (q : Int)) = (N : Int) := by omega
  have HP := Lib.hid hp
  have HQ := Lib.hid hq
  obtain ⟨M, hM⟩ : ∃ M, M = 2 * N := ⟨_, rfl⟩
  have HME := Lib.hid hM
  have hM2 : M ≤ 480 := by omega
  have wN : IntKind.i64.wrap (2 * (N : Int)) = (M : Int) := by rw [show 2 * (N : Int) = (M : Int) by omega]; exact IntWalk.i64_in _ (by omega)
  clear hp hq hN o2 o3 z2 z3 hM
  go_upto_region 6 with (at_make; refine wpList_make_Own rfl (.tmp 35) (.tmp 35) rfl elI (n := M) (lo := W3.heap.size) rfl rfl (by omega) (by unfold maxLen; omega) (Nat.le_refl _) ?_; intro W4 ho4 hb4 hs4)
  rw [made_zeros] at ho4
  generalize hD : (some ⟨W3.heap.size, 0, none⟩ : Option Addr) = D at *
  have HO4 : Hid (Own W4 W3.heap.size 2 1 D M M (ints (weaveD (xs.take 0) (ys.take 0) N))) := Lib.hid (by rw [List.take_zero, List.take_zero, weaveD_nil, ← HME.out]; exact ho4)
  have HBX : Hid (∀ g, blk X = some g → 0 < p → g < W3.heap.size) := Lib.hid (fun g hg h0 => by
    obtain ⟨b, o, rfl, hb, _⟩ := HX3.out.at_ h0
    have : b = g := by simpa [blk] using hg
    omega)
  have HLD : Hid (∀ a b, (weaveD a b N).length = M) := Lib.hid (fun a b => by rw [weaveD_len, HME.out])
  have HPN := Lib.hid hpN
  have HQN := Lib.hid hqN
  clear hD hs4 ho4 hmax wN
  go_upto_region 7 with fail
  go_loopw [39] (fun s39 wr => ∃ (j : Nat), j ≤ p ∧ s39 = .int .i64 (j : Int) ∧ Hid (Own wr W3.heap.size 2 1 D M M (ints (weaveD (xs.take j) (ys.take 0) N))) ∧ Below W3.heap.size W3 wr) (fun s39 _ => p - (intOf s39).toNat)
  case atStart => exact ⟨0, Nat.zero_le _, rfl, HO4, hb4⟩
  case round =>
    obtain ⟨j, hj, rfl, HO, hz⟩ := hrel
    clear HO4 hb4
    by_cases hlt : j < p
    · have i1 : (j : Int) < (p : Int) := by omega
      have i2 : (0 : Int) ≤ (j : Int) := by omega
      obtain ⟨g, o, hXE, _, hc⟩ := (HX3.out.below hz).at_ hlt
      have HWE := Lib.hid (weaveD_even (ys := ys.take 0) (n := N) (show j < N by omega) (show j < xs.length by rw [HP.out]; exact hlt))
      obtain ⟨v, hv⟩ : ∃ v, xs[j]'(by rw [HP.out]; exact hlt) = v := ⟨_, rfl⟩
      rw [hv] at hc HWE
      obtain ⟨J, hJ⟩ : ∃ J, J = 2 * j := ⟨_, rfl⟩
      rw [← hJ] at HWE
      have hJM : J < M := by have := HME.out; omega
      obtain ⟨b, ob, hDE, hbl, _, hcb, hfb⟩ := HO.out.at_ (k := J) (by rw [length_ints, HLD.out]; exact hJM)
      have wj : IntKind.i64.wrap (2 * (j : Int)) = (J : Int) := by rw [show 2 * (j : Int) = (J : Int) by omega]; exact IntWalk.i64_in _ (by omega)
      have i3 : (0 : Int) ≤ (J : Int) := by omega
      have i4 : (J : Int) < (M : Int) := by omega
      subst hDE
      have HO3 : Hid (Own (wr.setCell ⟨b, ob + J, none⟩ (.int .i64 v)) W3.heap.size 2 1 (some ⟨b, ob, none⟩) M M (ints (weaveD (xs.take (j + 1)) (ys.take 0) N))) := Lib.hid (by
        have h := HO.out.set_ (k := J) (by rw [length_ints, HLD.out]; exact hJM) (.int .i64 v)
        rw [ints_set, HWE.out] at h
        exact h)
      have hz3 := hz.setCell (p := ⟨b, ob + J, none⟩) hbl (.int .i64 v)
      clear hv hJ
      subst hXE
      go_wp2_with fail
      go_roundw
      case rel => exact ⟨j + 1, hlt, by go_num, HO3, hz3⟩
      case measure => simp [intOf]; omega
    · obtain rfl : j = p := by omega
      have i1 : ¬ (j : Int) < (j : Int) := by omega
      have HEN : Hid (xs.take j = xs) := Lib.hid (List.take_of_length_le (by rw [HP.out]; exact Nat.le_refl _))
      have HO5 : Hid (Own wr W3.heap.size 2 1 D M M (ints (weaveD xs (ys.take 0) N))) := Lib.hid (by have h := HO.out; rw [HEN.out] at h; exact h)
      clear HO
      go_upto_region 12 with fail
      go_loopw [52] (fun s52 wr => ∃ (j : Nat), j ≤ q ∧ s52 = .int .i64 (j : Int) ∧ Hid (Own wr W3.heap.size 2 1 D M M (ints (weaveD xs (ys.take j) N))) ∧ Below W3.heap.size W3 wr) (fun s52 _ => q - (intOf s52).toNat)
      case atStart => exact ⟨0, Nat.zero_le _, rfl, HO5, hz⟩
      case round =>
        obtain ⟨k, hk, rfl, HO, hz⟩ := hrel
        clear HO5
        by_cases hlt : k < q
        · have i1 : (k : Int) < (q : Int) := by omega
          have i2 : (0 : Int) ≤ (k : Int) := by omega
          obtain ⟨g, o, hYE, _, hc⟩ := (HY3.out.below hz).at_ hlt
          have HWE := Lib.hid (weaveD_odd (xs := xs) (n := N) (show k < N by omega) (show k < ys.length by rw [HQ.out]; exact hlt))
          obtain ⟨v, hv⟩ : ∃ v, ys[k]'(by rw [HQ.out]; exact hlt) = v := ⟨_, rfl⟩
          rw [hv] at hc HWE
          obtain ⟨J0, hJ0⟩ : ∃ J0, J0 = 2 * k := ⟨_, rfl⟩
          obtain ⟨J, hJ⟩ : ∃ J, J = 2 * k + 1 := ⟨_, rfl⟩
          rw [← hJ] at HWE
          have hJM : J < M := by have := HME.out; omega
          obtain ⟨b, ob, hDE, hbl, _, hcb, hfb⟩ := HO.out.at_ (k := J) (by rw [length_ints, HLD.out]; exact hJM)
          have wj : IntKind.i64.wrap (2 * (k : Int)) = (J0 : Int) := by rw [show 2 * (k : Int) = (J0 : Int) by omega]; exact IntWalk.i64_in _ (by omega)
          have wj1 : IntKind.i64.wrap ((J0 : Int) + 1) = (J : Int) := by rw [show (J0 : Int) + 1 = (J : Int) by omega]; exact IntWalk.i64_in _ (by omega)
          have i3 : (0 : Int) ≤ (J : Int) := by omega
          have i4 : (J : Int) < (M : Int) := by omega
          subst hDE
          have HO3 : Hid (Own (wr.setCell ⟨b, ob + J, none⟩ (.int .i64 v)) W3.heap.size 2 1 (some ⟨b, ob, none⟩) M M (ints (weaveD xs (ys.take (k + 1)) N))) := Lib.hid (by
            have h := HO.out.set_ (k := J) (by rw [length_ints, HLD.out]; exact hJM) (.int .i64 v)
            rw [ints_set, HWE.out] at h
            exact h)
          have hz3 := hz.setCell (p := ⟨b, ob + J, none⟩) hbl (.int .i64 v)
          clear hv hJ hJ0
          subst hYE
          go_wp2_with fail
          go_roundw
          case rel => exact ⟨k + 1, hlt, by go_num, HO3, hz3⟩
          case measure => simp [intOf]; omega
        · obtain rfl : k = q := by omega
          have i1 : ¬ (k : Int) < (k : Int) := by omega
          have HEN2 : Hid (ys.take k = ys) := Lib.hid (List.take_of_length_le (by rw [HQ.out]; exact Nat.le_refl _))
          have HO4 : Hid (SI wr D M (weaveD xs ys N)) := Lib.hid (by have h := HO.out.rd; rw [HEN2.out] at h; exact h)
          have HFR : Hid (Calls Try.prog 126 #[.slice D M M, .int .i64 10] wr (NewN wr (wovenN x y))) := Lib.hid (by
            have h := fromDigits_any D M M (weaveD xs ys N) 10 wr HO4.out (by omega) (by omega) (by omega) (weaveD_range (b := 10) (by omega) HRX.out HRY.out N)
            rw [HWN.out]
            exact h)
          have yr : Below w.heap.size w wr := y3.trans (hz.mono y3.size)
          clear HO hz
          go_wp2_with fail
          refine HFR.out.mono ?_
          rintro e W5 ⟨A5, c5, rfl, o5, z5⟩
          have y5 : Below w.heap.size w W5 := yr.trans (z5.mono yr.size)
          have o5' := o5.mono (lo' := w.heap.size) yr.size
          clear o5 z5
          by_cases h40 : (natL (wovenN x y)).length ≤ 40
          · go_wp2_with fail
            refine (limited_any A5 _ c5 W5 h40).mono ?_
            rintro e w' ⟨rfl, rfl⟩
            go_wp2_with fail
            exact bodyPost_ret (v := .tuple #[.slice A5 (natL (wovenN x y)).length c5, .int .i64 0]) (by simp [results, Try.results46, go_sem]) rfl (.inl ⟨h40, A5, c5, rfl, o5', y5⟩)
          · go_wp2_with fail
            refine (limitedBig_any A5 _ c5 W5 (by omega)).mono ?_
            rintro e w' ⟨rfl, rfl⟩
            go_wp2_with fail
            exact bodyPost_ret (v := .tuple #[.slice none 0 0, .int .i64 5]) (by simp [results, Try.results46, go_sem]) rfl (.inr ⟨by omega, rfl, y5⟩)
end Go.Proofs.Ytpleclmlcojkdaa

/-
  Contract of impl's UnweaveNatural.
-/
namespace Go.Proofs.Ytpleclmlcojkdaa
open Go.RowKit

theorem parts_len : ∀ l : List Int, (evens l).length ≤ l.length ∧ (odds l).length ≤ l.length
  | [] => ⟨Nat.le_refl _, Nat.le_refl _⟩
  | [_] => ⟨Nat.le_refl _, Nat.zero_le _⟩
  | x :: y :: t => by
    have h := parts_len t
    show (x :: evens t).length ≤ _ ∧ (y :: odds t).length ≤ _
    simp only [List.length_cons]; omega
theorem evens_mem : ∀ (l : List Int) (d : Int), d ∈ evens l → d ∈ l
  | [], _, h => by cases h
  | [_], _, h => h
  | x :: y :: t, d, h => by
    rcases List.mem_cons.1 (show d ∈ x :: evens t from h) with h1 | h1
    · rw [h1]; exact List.mem_cons_self
    · exact List.mem_cons_of_mem _ (List.mem_cons_of_mem _ (evens_mem t d h1))
theorem odds_mem : ∀ (l : List Int) (d : Int), d ∈ odds l → d ∈ l
  | [], _, h => by cases h
  | [_], _, h => by cases h
  | x :: y :: t, d, h => by
    rcases List.mem_cons.1 (show d ∈ y :: odds t from h) with h1 | h1
    · rw [h1]; exact List.mem_cons_of_mem _ List.mem_cons_self
    · exact List.mem_cons_of_mem _ (List.mem_cons_of_mem _ (odds_mem t d h1))
set_option maxRecDepth 100000 in
set_option maxHeartbeats 4000000 in
theorem UnweaveI_any (A : Option Addr) (c x : Nat) (w : World) (hx : SI w A (natL x).length (natL x)) (hn : (natL x).length ≤ 40) :
    Calls Try.prog 48 #[.slice A (natL x).length c] w fun e w' => ∃ A1 c1 A2 c2, e = .returned (.tuple #[.slice A1 (natL (ofD 10 (evens (digB 8 x)))).length c1, .slice A2 (natL (ofD 10 (odds (digB 8 x)))).length c2, .int .i64 0]) ∧
      Own w' w.heap.size 2 1 A1 (natL (ofD 10 (evens (digB 8 x)))).length c1 (ints (natL (ofD 10 (evens (digB 8 x))))) ∧ Own w' w.heap.size 2 1 A2 (natL (ofD 10 (odds (digB 8 x)))).length c2 (ints (natL (ofD 10 (odds (digB 8 x))))) ∧ Below w.heap.size w w' := by
  have hdx := deci_len hn
  have HD1 : Hid (Calls Try.prog 124 #[.slice A (natL x).length c, .int .i64 10] w (NewIOk w (digB 8 x))) := Lib.hid (digitsOf_any A _ c x 8 w hx hn (by omega) (by omega))
  obtain ⟨xs, hxs⟩ : ∃ xs, digB 8 x = xs := ⟨_, rfl⟩
  have HRX : Hid (∀ d ∈ xs, 0 ≤ d ∧ d < (10 : Nat)) := Lib.hid (by rw [← hxs]; exact digB_range 8 x)
  rw [hxs] at HD1 hdx ⊢
  clear hx hn hxs
  go_enter Try.func48, Try.ntmps48
  go_wp2_with fail
  refine HD1.out.mono ?_
  rintro e W1 ⟨X, xc, rfl, o1, z1⟩
  obtain ⟨p, hp⟩ : ∃ p, xs.length = p := ⟨_, rfl⟩
  have HX := Lib.hid (show SI W1 X p xs by rw [← hp]; exact o1.rd)
  have HP := Lib.hid hp
  rw [hp] at hdx ⊢
  go_upto_region 5 with fail
  have hsz : (W1.alloc (.cells #[.slice none 0 0, .slice none 0 0] 131)).heap.size = W1.heap.size + 1 := by simp
  have hz0 : Below W1.heap.size W1 (W1.alloc (.cells #[.slice none 0 0, .slice none 0 0] 131)) := (Below.refl _ _).alloc (Nat.le_refl _) _
  have HB0 : Hid (Own (W1.alloc (.cells #[.slice none 0 0, .slice none 0 0] 131)) W1.heap.size 131 1 (some ⟨W1.heap.size, 0, none⟩) 2 2 [.slice none (evens (xs.take 0)).length 0, .slice none (odds (xs.take 0)).length 0]) := Lib.hid (Own.lit W1 #[.slice none 0 0, .slice none 0 0] _ 2 1 W1.heap.size rfl (by simp [maxLen]) (Nat.le_refl _))
  have HX2 := Lib.hid (HX.out)
  have HW1s : w.heap.size ≤ W1.heap.size := z1.size
  have HLE : Hid (∀ j, (evens (xs.take j)).length ≤ 240 ∧ (odds (xs.take j)).length ≤ 240) := Lib.hid (fun j => by
    have h1 := parts_len (xs.take j)
    have h2 := HP.out
    rw [List.length_take] at h1; omega)
  generalize hV : W1.alloc (.cells #[.slice none 0 0, .slice none 0 0] 131) = V1 at *
  obtain ⟨g, hg⟩ : ∃ g, g = W1.heap.size := ⟨_, rfl⟩
  have HG := Lib.hid hg
  rw [← hg] at hz0 HB0 HW1s hsz ⊢
  have hgv : g ≤ V1.heap.size := by omega
  clear o1 hV hsz hg
  go_wp2_with fail
  go_loopw [21] (fun s21 wr => ∃ (j : Nat) (E : Option Addr) (ec : Nat) (F : Option Addr) (fc : Nat), j ≤ p ∧ s21 = .int .i64 (j : Int) ∧ Hid (Own wr g 131 1 (some ⟨g, 0, none⟩) 2 2 [.slice E (evens (xs.take j)).length ec, .slice F (odds (xs.take j)).length fc]) ∧ Hid (Own wr g 2 1 E (evens (xs.take j)).length ec (ints (evens (xs.take j)))) ∧ Hid (Own wr g 2 1 F (odds (xs.take j)).length fc (ints (odds (xs.take j)))) ∧ Hid (∀ b, blk E = some b → blk F ≠ some b) ∧ Below g W1 wr ∧ g ≤ wr.heap.size) (fun s21 _ => p - (intOf s21).toNat)
  case atStart => exact ⟨0, none, 0, none, 0, Nat.zero_le _, rfl, HB0, Lib.hid Own.nil, Lib.hid Own.nil, Lib.hid (fun b h _ => by cases h), hz0, hgv⟩
  case round =>
    obtain ⟨j, E, ec, F, fc, hj, rfl, HB, HO, HQ, HAP, hz, hgw⟩ := hrel
    have hb0 : wr.cell? ⟨g, 0, none⟩ = some (.slice E (evens (xs.take j)).length ec) := by obtain ⟨b', o', hA, _, _, hcc, _⟩ := HB.out.at_ (k := 0) (by simp); cases hA; simpa using hcc
    have hb1 : wr.cell? ⟨g, 1, none⟩ = some (.slice F (odds (xs.take j)).length fc) := by obtain ⟨b', o', hA, _, _, hcc, _⟩ := HB.out.at_ (k := 1) (by simp); cases hA; simpa using hcc
    clear HB0 hz0 hgv
    by_cases hlt : j < p
    · have i1 : (j : Int) < (p : Int) := by omega
      have i2 : (0 : Int) ≤ (j : Int) := by omega
      obtain ⟨gx, ox, hXE, _, hc⟩ := (HX.out.below (HG.out ▸ hz)).at_ hlt
      obtain ⟨v, hv⟩ : ∃ v, xs[j]'(by rw [HP.out]; exact hlt) = v := ⟨_, rfl⟩
      have HTK : Hid (xs.take (j + 1) = xs.take j ++ [v]) := Lib.hid (by rw [List.take_succ_eq_append_getElem (by rw [HP.out]; exact hlt), hv])
      have HTL : Hid ((xs.take j).length = j) := Lib.hid (by rw [List.length_take, HP.out]; omega)
      rw [hv] at hc
      clear hv
      subst hXE
      by_cases hpar : j % 2 = 0
      · have HS1 : Hid (evens (xs.take (j + 1)) = evens (xs.take j) ++ [v]) := Lib.hid (by rw [HTK.out, (evens_snoc _ _).1, HTL.out, if_pos hpar])
        have HS2 : Hid (odds (xs.take (j + 1)) = odds (xs.take j)) := Lib.hid (by rw [HTK.out, (evens_snoc _ _).2, HTL.out, if_pos hpar])
        have hr1 : Int.tmod (j : Int) 2 = 0 := by rw [Int.tmod_eq_emod_of_nonneg (by omega)]; omega
        have hr2 : (j : Int) % 2 = 0 := by omega
        have ho := HO.out
        have hle := HLE.out j
        have HNB : Hid (∀ b, blk E = some b → blk (some (⟨g, 0, none⟩ : Addr)) ≠ some b) := Lib.hid (Own.blk_ne ho HB.out (by decide))
        have HAPM : Hid (∀ b, blk E = some b → blk F ≠ some b) := Lib.hid (HAP.out)
        clear hpar
        go_wp2_with (at_builtin; refine wpList_append_Own rfl (.tmp 31) (.tmp 33) rfl elI (lo := g) rfl (ho.alloc _) rfl (Rd.new1 wr _ _) (ints_one [v]) (by omega) (by simp only [maxLen]; omega) (by have := hgw; simp; omega) ?_; intro A3 c3 w3 ho3 hg3 hk3; have HB3 : Hid (Own w3 g 131 1 (some ⟨g, 0, none⟩) 2 2 [.slice E (evens (xs.take j)).length ec, .slice F (odds (xs.take j)).length fc]) := Lib.hid ((HB.out.alloc _).grown hg3 HNB.out); have hfz : w3.frozen? ⟨g, 0, none⟩ = false := (by obtain ⟨b', o', hA, _, _, _, hf⟩ := HB3.out.at_ (k := 0) (by simp); cases hA; simpa using hf); have hcl : w3.cell? ⟨g, 0, none⟩ = some (.slice E (evens (xs.take j)).length ec) := (by obtain ⟨b', o', hA, _, _, hcc, _⟩ := HB3.out.at_ (k := 0) (by simp); cases hA; simpa using hcc))
        have HF3 : Hid (Own w3 g 2 1 F (odds (xs.take j)).length fc (ints (odds (xs.take j)))) := Lib.hid ((HQ.out.alloc _).grown hg3 HAPM.out)
        have hz3 : Below g W1 w3 := (hz.alloc hgw _).grown hg3 (by have := hgw; simp; omega) (fun b hb => ho.blk_ge b hb)
        have hgw3 : g ≤ w3.heap.size := by have := hg3.size; simp at this; omega
        have HNB3 : Hid (∀ b, blk A3 = some b → blk (some (⟨g, 0, none⟩ : Addr)) ≠ some b) := Lib.hid (Own.blk_ne ho3 HB3.out (by decide))
        have HFB3 : Hid (∀ b, blk F = some b → blk (some (⟨g, 0, none⟩ : Addr)) ≠ some b) := Lib.hid (Own.blk_ne HF3.out HB3.out (by decide))
        have HAP3 : Hid (∀ b, blk A3 = some b → blk F ≠ some b) := Lib.hid (fun b h1 h2 => by
          rcases hk3.1 with h | h
          · exact HAPM.out b (h.symm.trans h1) h2
          · have h3 := (HQ.out.blk_lt b h2)
            rw [h1] at h
            have h4 := Option.some.inj h
            simp at h4; omega)
        have HB4 : Hid (Own (w3.setCell ⟨g, 0, none⟩ (.slice A3 ((evens (xs.take j)).length + 1) c3)) g 131 1 (some ⟨g, 0, none⟩) 2 2 ([.slice A3 ((evens (xs.take j)).length + 1) c3, .slice F (odds (xs.take j)).length fc])) := Lib.hid (by
          have h := HB3.out.set_ (k := 0) (by simp) (.slice A3 ((evens (xs.take j)).length + 1) c3)
          simpa using h)
        have HO4 : Hid (Own (w3.setCell ⟨g, 0, none⟩ (.slice A3 ((evens (xs.take j)).length + 1) c3)) g 2 1 A3 ((evens (xs.take j)).length + 1) c3 (ints (evens (xs.take j) ++ [v]))) := Lib.hid (by
          have h := ho3.far (p := ⟨g, 0, none⟩) (fun h1 => HNB3.out g h1 rfl) (.slice A3 ((evens (xs.take j)).length + 1) c3)
          simpa [ints] using h)
        have HF4 : Hid (Own (w3.setCell ⟨g, 0, none⟩ (.slice A3 ((evens (xs.take j)).length + 1) c3)) g 2 1 F (odds (xs.take j)).length fc (ints (odds (xs.take j)))) := Lib.hid (HF3.out.far (p := ⟨g, 0, none⟩) (fun h1 => HFB3.out g h1 rfl) _)
        have hz4 : Below g W1 (w3.setCell ⟨g, 0, none⟩ (.slice A3 ((evens (xs.take j)).length + 1) c3)) := hz3.setCell (p := ⟨g, 0, none⟩) (Nat.le_refl _) _
        have hgw4 : g ≤ (w3.setCell ⟨g, 0, none⟩ (.slice A3 ((evens (xs.take j)).length + 1) c3)).heap.size := by simpa using hgw3
        have HLE1 : Hid ((evens (xs.take j)).length + 1 = (evens (xs.take (j + 1))).length) := Lib.hid (by rw [HS1.out]; simp)
        clear ho3 hg3 hk3 ho
        go_wp2_with fail
        go_roundw
        case rel => exact ⟨j + 1, A3, c3, F, fc, by omega, by go_num, Lib.hid (by rw [← HLE1.out, HS2.out]; exact HB4.out), Lib.hid (by rw [HS1.out]; simpa using HO4.out), Lib.hid (by rw [HS2.out]; exact HF4.out), Lib.hid HAP3.out, hz4, hgw4⟩
        case measure => (simp [intOf] <;> omega)
      · have HS1 : Hid (odds (xs.take (j + 1)) = odds (xs.take j) ++ [v]) := Lib.hid (by rw [HTK.out, (evens_snoc _ _).2, HTL.out, if_neg hpar])
        have HS2 : Hid (evens (xs.take (j + 1)) = evens (xs.take j)) := Lib.hid (by rw [HTK.out, (evens_snoc _ _).1, HTL.out, if_neg hpar])
        have hr1 : Int.tmod (j : Int) 2 = 1 := by rw [Int.tmod_eq_emod_of_nonneg (by omega)]; omega
        have hr2 : (j : Int) % 2 = 1 := by omega
        have ho := HQ.out
        have hle := HLE.out j
        have HNB : Hid (∀ b, blk F = some b → blk (some (⟨g, 0, none⟩ : Addr)) ≠ some b) := Lib.hid (Own.blk_ne ho HB.out (by decide))
        have HAPM : Hid (∀ b, blk F = some b → blk E ≠ some b) := Lib.hid (fun b h1 h2 => HAP.out b h2 h1)
        clear hpar
        go_wp2_with (at_builtin; refine wpList_append_Own rfl (.tmp 31) (.tmp 33) rfl elI (lo := g) rfl (ho.alloc _) rfl (Rd.new1 wr _ _) (ints_one [v]) (by omega) (by simp only [maxLen]; omega) (by have := hgw; simp; omega) ?_; intro A3 c3 w3 ho3 hg3 hk3; have HB3 : Hid (Own w3 g 131 1 (some ⟨g, 0, none⟩) 2 2 [.slice E (evens (xs.take j)).length ec, .slice F (odds (xs.take j)).length fc]) := Lib.hid ((HB.out.alloc _).grown hg3 HNB.out); have hfz : w3.frozen? ⟨g, 1, none⟩ = false := (by obtain ⟨b', o', hA, _, _, _, hf⟩ := HB3.out.at_ (k := 1) (by simp); cases hA; simpa using hf); have hcl : w3.cell? ⟨g, 1, none⟩ = some (.slice F (odds (xs.take j)).length fc) := (by obtain ⟨b', o', hA, _, _, hcc, _⟩ := HB3.out.at_ (k := 1) (by simp); cases hA; simpa using hcc))
        have HF3 : Hid (Own w3 g 2 1 E (evens (xs.take j)).length ec (ints (evens (xs.take j)))) := Lib.hid ((HO.out.alloc _).grown hg3 HAPM.out)
        have hz3 : Below g W1 w3 := (hz.alloc hgw _).grown hg3 (by have := hgw; simp; omega) (fun b hb => ho.blk_ge b hb)
        have hgw3 : g ≤ w3.heap.size := by have := hg3.size; simp at this; omega
        have HNB3 : Hid (∀ b, blk A3 = some b → blk (some (⟨g, 0, none⟩ : Addr)) ≠ some b) := Lib.hid (Own.blk_ne ho3 HB3.out (by decide))
        have HFB3 : Hid (∀ b, blk E = some b → blk (some (⟨g, 0, none⟩ : Addr)) ≠ some b) := Lib.hid (Own.blk_ne HF3.out HB3.out (by decide))
        have HAP3 : Hid (∀ b, blk A3 = some b → blk E ≠ some b) := Lib.hid (fun b h1 h2 => by
          rcases hk3.1 with h | h
          · exact HAPM.out b (h.symm.trans h1) h2
          · have h3 := (HO.out.blk_lt b h2)
            rw [h1] at h
            have h4 := Option.some.inj h
            simp at h4; omega)
        have HB4 : Hid (Own (w3.setCell ⟨g, 1, none⟩ (.slice A3 ((odds (xs.take j)).length + 1) c3)) g 131 1 (some ⟨g, 0, none⟩) 2 2 ([.slice E (evens (xs.take j)).length ec, .slice A3 ((odds (xs.take j)).length + 1) c3])) := Lib.hid (by
          have h := HB3.out.set_ (k := 1) (by simp) (.slice A3 ((odds (xs.take j)).length + 1) c3)
          simpa using h)
        have HO4 : Hid (Own (w3.setCell ⟨g, 1, none⟩ (.slice A3 ((odds (xs.take j)).length + 1) c3)) g 2 1 A3 ((odds (xs.take j)).length + 1) c3 (ints (odds (xs.take j) ++ [v]))) := Lib.hid (by
          have h := ho3.far (p := ⟨g, 1, none⟩) (fun h1 => HNB3.out g h1 rfl) (.slice A3 ((odds (xs.take j)).length + 1) c3)
          simpa [ints] using h)
        have HF4 : Hid (Own (w3.setCell ⟨g, 1, none⟩ (.slice A3 ((odds (xs.take j)).length + 1) c3)) g 2 1 E (evens (xs.take j)).length ec (ints (evens (xs.take j)))) := Lib.hid (HF3.out.far (p := ⟨g, 1, none⟩) (fun h1 => HFB3.out g h1 rfl) _)
        have hz4 : Below g W1 (w3.setCell ⟨g, 1, none⟩ (.slice A3 ((odds (xs.take j)).length + 1) c3)) := hz3.setCell (p := ⟨g, 1, none⟩) (Nat.le_refl _) _
        have hgw4 : g ≤ (w3.setCell ⟨g, 1, none⟩ (.slice A3 ((odds (xs.take j)).length + 1) c3)).heap.size := by simpa using hgw3
        have HLE1 : Hid ((odds (xs.take j)).length + 1 = (odds (xs.take (j + 1))).length) := Lib.hid (by rw [HS1.out]; simp)
        clear ho3 hg3 hk3 ho
        go_wp2_with fail
        go_roundw
        case rel => exact ⟨j + 1, E, ec, A3, c3, by omega, by go_num, Lib.hid (by rw [← HLE1.out, HS2.out]; exact HB4.out), Lib.hid (by rw [HS2.out]; exact HF4.out), Lib.hid (by rw [HS1.out]; simpa using HO4.out), Lib.hid (fun b h1 h2 => HAP3.out b h2 h1), hz4, hgw4⟩
        case measure => (simp [intOf] <;> omega)
    · obtain rfl : j = p := by omega
      have i1 : ¬ (j : Int) < (j : Int) := by omega
      have HEN : Hid (xs.take j = xs) := Lib.hid (List.take_of_length_le (by rw [HP.out]; exact Nat.le_refl _))
      have HRO := HO.out
      have HRQ := HQ.out
      have hle := HLE.out j
      rw [HEN.out] at hb0 hb1 HRO HRQ hle
      have HF0 : Hid (∀ w', Below wr.heap.size wr w' → Calls Try.prog 126 #[.slice E (evens xs).length ec, .int .i64 10] w' (NewN w' (ofD 10 (evens xs)))) := Lib.hid (fun w' z => fromDigits_any E _ ec (evens xs) 10 w' (HRO.below z).rd (by omega) (by omega) (by omega) (fun d hd => HRX.out d (evens_mem _ _ hd)))
      have HF1 : Hid (∀ w', Below wr.heap.size wr w' → Calls Try.prog 126 #[.slice F (odds xs).length fc, .int .i64 10] w' (NewN w' (ofD 10 (odds xs)))) := Lib.hid (fun w' z => fromDigits_any F _ fc (odds xs) 10 w' (HRQ.below z).rd (by omega) (by omega) (by omega) (fun d hd => HRX.out d (odds_mem _ _ hd)))
      have HC := Lib.hid (fun w' (z : Below wr.heap.size wr w') => And.intro ((z.cell (p := ⟨g, 0, none⟩) (HB.out.blk_lt g rfl)).trans hb0) ((z.cell (p := ⟨g, 1, none⟩) (HB.out.blk_lt g rfl)).trans hb1))
      have yr : Below w.heap.size w wr := z1.trans ((HG.out ▸ hz).mono (HG.out ▸ HW1s))
      have hwr : w.heap.size ≤ wr.heap.size := yr.size
      have y0 : Below wr.heap.size wr wr.drew := (Below.refl _ _).drew
      obtain ⟨V0, hV0⟩ : ∃ V0, ofD 10 (evens xs) = V0 := ⟨_, rfl⟩
      obtain ⟨V1, hV1⟩ : ∃ V1, ofD 10 (odds xs) = V1 := ⟨_, rfl⟩
      obtain ⟨n0, hn0⟩ : ∃ n0, (evens xs).length = n0 := ⟨_, rfl⟩
      obtain ⟨n1, hn1⟩ : ∃ n1, (odds xs).length = n1 := ⟨_, rfl⟩
      rw [hV0, hn0] at HF0
      rw [hV1, hn1] at HF1
      rw [hn0, hn1] at HC
      rw [hn0] at hb0
      rw [hn1] at hb1
      have HV0 := Lib.hid hV0
      have HV1 := Lib.hid hV1
      clear HRO HRQ HB HO HQ hV0 hV1 hn0 hn1 hle
      go_upto_region 10 with fail
      go_region_held3 (fun w' => w'.cell? ⟨g, 0, none⟩ = some (.slice E n0 ec) ∧ w'.cell? ⟨g, 1, none⟩ = some (.slice F n1 fc))
        (first
          | (go_keep; done)
          | (exact HC.out _ y2)
          | (exact HC.out _ y1)
          | (exact HC.out _ y0))
        (first
          | (go_at_call 126; (with_reducible refine (HF0.out _ y1).mono ?_); rintro e v2 ⟨A1, c1, rfl, o1, z2⟩; have y2 : Below wr.heap.size wr v2 := y1.trans (z2.mono y1.size))
          | (go_at_call 126; (with_reducible refine (HF1.out _ y1).mono ?_); rintro e v2 ⟨A2, c2, rfl, o2, z2⟩; have y2 : Below wr.heap.size wr v2 := y1.trans (z2.mono y1.size))
          | (go_at_call 126; (with_reducible refine (HF0.out _ y0).mono ?_); rintro e v1 ⟨A1, c1, rfl, o1, z1'⟩; have y1 : Below wr.heap.size wr v1 := y0.trans (z1'.mono y0.size))
          | (go_at_call 126; (with_reducible refine (HF1.out _ y0).mono ?_); rintro e v1 ⟨A2, c2, rfl, o2, z1'⟩; have y1 : Below wr.heap.size wr v1 := y0.trans (z1'.mono y0.size)))
      have yw : Below w.heap.size w v2 := yr.trans (y2.mono hwr)
      have O1 : Own v2 w.heap.size 2 1 A1 (natL (ofD 10 (evens xs))).length c1 (ints (natL (ofD 10 (evens xs)))) := by rw [HV0.out]; exact (o1.below z2).mono hwr
      have O2 : Own v2 w.heap.size 2 1 A2 (natL (ofD 10 (odds xs))).length c2 (ints (natL (ofD 10 (odds xs)))) := by rw [HV1.out]; exact o2.mono (by have := y1.size; omega)
      rw [← HV0.out, ← HV1.out]
      have HR := Lib.hid (show ∃ B1 d1 B2 d2, Ending.returned (.tuple #[.slice A1 (natL (ofD 10 (evens xs))).length c1, .slice A2 (natL (ofD 10 (odds xs))).length c2, .int .i64 0]) = Ending.returned (.tuple #[.slice B1 (natL (ofD 10 (evens xs))).length d1, .slice B2 (natL (ofD 10 (odds xs))).length d2, .int .i64 0]) ∧
        Own v2 w.heap.size 2 1 B1 (natL (ofD 10 (evens xs))).length d1 (ints (natL (ofD 10 (evens xs)))) ∧ Own v2 w.heap.size 2 1 B2 (natL (ofD 10 (odds xs))).length d2 (ints (natL (ofD 10 (odds xs)))) ∧ Below w.heap.size w v2 from ⟨A1, c1, A2, c2, rfl, O1, O2, yw⟩)
      clear O1 O2 yw o1 o2
      go_wp2_with fail
      exact bodyPost_ret (v := .tuple #[.slice A1 (natL (ofD 10 (evens xs))).length c1, .slice A2 (natL (ofD 10 (odds xs))).length c2, .int .i64 0]) (by simp [results, Try.results48, go_sem]) rfl HR.out
end Go.Proofs.Ytpleclmlcojkdaa
