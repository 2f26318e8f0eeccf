/-
  Whether two lists are equal (b10Nums).
-/
import Derived.Test.YtpleclmlcojkdaaPbNatE0
import Derived.Test.YtpleclmlcojkdaaPbNatE4
import Derived.Test.YtpleclmlcojkdaaPbNatE5
import Derived.Test.YtpleclmlcojkdaaPkCodes0
import Derived.Test.YtpleclmlcojkdaaPkCodes1
import Derived.Test.YtpleclmlcojkdaaPkCodes2
import Derived.Test.YtpleclmlcojkdaaPkCodes3
import Derived.Test.YtpleclmlcojkdaaRows
namespace Go.Proofs.Ytpleclmlcojkdaa
open Go.RowKit

set_option maxHeartbeats 400000 in
theorem b10Nums_any (A B : Option Addr) (n m c d : Nat) (xs ys : List Int) (w : World) (hx : SI w A n xs) (hy : SI w B m ys) (hn : n ≤ 9223372036854775807) :
    Calls Try.prog 26 #[.slice A n c, .slice B m d] w fun e w' => e = .returned (.bool (sameI xs ys)) ∧ ∃ q, w' = w.drewN q := by
  by_cases hnm : n = m
  · subst hnm
    go_enter Try.func26, Try.ntmps26
    go_wp2
    go_loopw [5] (fun i wr => ∃ k q : Nat, k ≤ n ∧ i = .int .i64 k ∧ Hid (xs.take k = ys.take k) ∧ wr = w.drewN q) (fun i _ => n - (intOf i).toNat)
    case atStart => exact ⟨0, 0, by omega, rfl, rfl, rfl⟩
    case round =>
      obtain ⟨k, q, hk, rfl, he, rfl⟩ := hrel
      by_cases hlt : k < n
      · obtain ⟨b, off, rfl, _, hc⟩ := hx.at_ hlt
        obtain ⟨b', off', rfl, _, hc'⟩ := hy.at_ hlt
        go_wp2
        go_quiet (fail)
        go_wp2
        · go_ret
          exact ⟨ret_bool (sameI_ne hlt hx.len hy.len (by assumption)), _, World.drewN_drewN _ _ _⟩
        · exact ⟨⟨k + 1, _, by omega, by go_num, take_next hlt hx.len hy.len he.out (by assumption), rfl⟩, by simp [intOf]; omega⟩
      · go_wp2
        go_ret
        exact ⟨ret_bool (sameI_eq (by omega) hx.len hy.len he.out), _, rfl⟩
  · have hne : ((n : Int) != (m : Int)) = true := by simp; omega
    go_enter Try.func26, Try.ntmps26
    go_wp2
    go_ret
    exact ⟨ret_bool (sameI_len hnm hx.len hy.len), 0, rfl⟩
theorem b10Nums_yes (A B : Option Addr) (n c d : Nat) (xs : List Int) (w : World) (hx : SI w A n xs) (hy : SI w B n xs) (hn : n ≤ 9223372036854775807) :
    Calls Try.prog 26 #[.slice A n c, .slice B n d] w fun e w' => e = .returned (.bool true) ∧ ∃ q, w' = w.drewN q :=
  (b10Nums_any A B n n c d xs xs w hx hy hn).mono fun _ _ ⟨h1, h2⟩ => ⟨by rw [h1]; simp [sameI], h2⟩
theorem b10Long_yes (A : Option Addr) (n c : Nat) (w : World) (h : 1048576 < n) : Calls Try.prog 22 #[.slice A n c] w fun e w' => e = .returned (.bool true) ∧ w = w' := by
  have i1 : (1048576 : Int) < (n : Int) := by omega
  go_enter Try.func22, Try.ntmps22
  go_wp2_with fail
  go_ret
  exact ⟨ret_bool (by simp), rfl⟩
theorem b10Long_no (A : Option Addr) (n c : Nat) (w : World) (h : ¬ 1048576 < n) : Calls Try.prog 22 #[.slice A n c] w fun e w' => e = .returned (.bool false) ∧ w = w' := by
  have i1 : ¬ (1048576 : Int) < (n : Int) := by omega
  go_enter Try.func22, Try.ntmps22
  go_wp2_with fail
  go_ret
  exact ⟨ret_bool (by simp), rfl⟩
end Go.Proofs.Ytpleclmlcojkdaa

/-
  The walk of the law FnCodes: it returns true, and nothing that was there before has turned.
-/
namespace Go.Proofs.Ytpleclmlcojkdaa
open Go.RowKit

theorem signed_back (x : Nat) : (x + 1) / 2 + (x + 1) / 2 - (if decide ((x + 1) % 2 = 0) = true then 1 else 0) = x := by
  by_cases h : (x + 1) % 2 = 0
  · rw [if_pos (decide_eq_true h)]; omega
  · rw [if_neg (by simp [h])]; omega
set_option maxRecDepth 100000 in
set_option maxHeartbeats 4000000 in
theorem lawCodes (A : Option Addr) (n c : Nat) (xs : List Int) (B : Option Addr) (m d : Nat) (ys : List Int) (w : World) (hx : SB w A n xs) (hA : ∀ k, blk A = some k → k < w.heap.size) (hy : SB w B m ys) (hB : ∀ k, blk B = some k → k < w.heap.size) (hn : n ≤ 9223372036854775807) (hm : m ≤ 9223372036854775807) :
    Calls Try.prog 5 #[.slice A n c, .slice B m d] w fun e w' => e = .returned (.bool true) ∧ Below w.heap.size w w' := by
  by_cases hlong : 1048576 < n
  · go_enter Try.func5, Try.ntmps5
    go_wp2_with (go_at_call 22; refine (b10Long_yes _ _ _ _ hlong).mono ?_; rintro e w' ⟨rfl, rfl⟩)
    go_ret
    exact ⟨rfl, Below.refl _ _⟩
  by_cases hlong2 : 1048576 < m
  · go_enter Try.func5, Try.ntmps5
    go_wp2_with (first | (go_at_call 22; (with_reducible refine (b10Long_no A n c w hlong).mono ?_); rintro e w' ⟨rfl, rfl⟩) | (go_at_call 22; (with_reducible refine (b10Long_yes B m d w hlong2).mono ?_); rintro e w' ⟨rfl, rfl⟩))
    go_ret
    exact ⟨rfl, Below.refl _ _⟩
  have HY := Lib.hid hy
  have HB := Lib.hid hB
  have HS := Lib.hid (b10Word_any A n c xs w hx hA hn)
  clear hx hA hy hB
  go_enter Try.func5, Try.ntmps5
  go_wp2_with (first | (go_at_call 22; (with_reducible refine (b10Long_no A n c w hlong).mono ?_); rintro e w' ⟨rfl, rfl⟩) | (go_at_call 22; (with_reducible refine (b10Long_no B m d w hlong2).mono ?_); rintro e w' ⟨rfl, rfl⟩))
  refine HS.out.mono ?_
  rintro e w1 ⟨D, dc, ws, L, rfl, o1, hsw, z1⟩
  have HSW := Lib.hid hsw
  have HO1 := Lib.hid o1
  have hwl : ws.length ≤ 9 := hsw.len
  have HV : Hid (wordN L 0 ws ≤ 5000000) := Lib.hid (by have h := hsw.lt ws.length; rw [List.take_length] at h; exact h)
  have HPP : Hid (0 < prodP 0 ws) := Lib.hid (prodP_pos ws 0 (by omega))
  have HR1 : Hid (∀ W, Below w1.heap.size w1 W → SI W D ws.length ws) := Lib.hid (fun W z => (HO1.out.below z).rd)
  obtain ⟨K, hK⟩ : ∃ K, ws.length = K := ⟨_, rfl⟩
  have HK := Lib.hid hK
  rw [hK] at HR1 hwl ⊢
  obtain ⟨V, hV⟩ : ∃ V, wordN L 0 ws = V := ⟨_, rfl⟩
  have HVE := Lib.hid hV
  clear HS hlong hlong2 hsw o1 hV hK
  go_wp2_with fail
  refine (WordNumber_any HSW.out D K dc w1 (HR1.out _ (Below.refl _ _))).mono ?_
  rw [HVE.out]
  rintro e w2 ⟨A2, c2, rfl, o2, z2⟩
  have HR2 : Hid (∀ W, Below w2.heap.size w2 W → SI W A2 (natL V).length (natL V)) := Lib.hid (fun W z => (o2.below z).rd)
  have HWO : Hid (Calls Try.prog 37 #[.slice A2 (natL V).length c2, .int .i64 (L : Int)] w2 (NewIOk w2 ws)) := Lib.hid (WordOf_any HSW.out A2 _ c2 w2 (by rw [HVE.out]; exact HR2.out _ (Below.refl _ _)))
  go_wp2_with fail
  refine HWO.out.mono ?_
  rintro e w3 ⟨A3, c3, rfl, o3, z3⟩
  rw [HK.out] at o3 ⊢
  have z13 := z2.trans (z3.mono z2.size)
  have HRW : Hid (Calls Try.prog 38 #[.slice D K dc, .int .i64 (L : Int)] w3 fun e w' => e = .returned (.tuple #[.int .i64 (V : Int), .int .i64 0]) ∧ w3 = w') := Lib.hid (by
    have h := RankWord_any HSW.out D K dc w3 (HR1.out _ z13)
    rw [HVE.out] at h; exact h)
  go_wp2_with fail
  refine HRW.out.mono ?_
  rintro e w' ⟨rfl, rfl⟩
  go_wp2_with fail
  refine (SmallOf_any A2 _ c2 V w3 (HR2.out _ z3) (by have := HV.out; have := HVE.out; omega)).mono ?_
  rintro e w4 ⟨rfl, z4⟩
  have z14 := z13.trans (z4.mono z13.size)
  have HN1 := Lib.hid (b10Nums_yes A3 D K c3 dc ws w4 (o3.below z4).rd (HR1.out _ z14) (by omega))
  clear o2 o3 z2 z3 z4 z13 HWO HRW HR2
  go_wp2_with fail
  refine HN1.out.mono ?_
  rintro e w' ⟨rfl, q5, rfl⟩
  have z15 := below_drewN z14 q5
  generalize w4.drewN q5 = w5 at *
  clear HN1 z14
  go_wp2_with fail
  refine (PrimeNumber_any HSW.out D K dc w5 (HR1.out _ z15)).mono ?_
  rintro e w6 ⟨A6, c6, rfl, o6, z6⟩
  have z16 := z15.trans (z6.mono z15.size)
  have HPL : Hid ((((natL (prodP 0 ws)).length : Int) == 0) = false) := Lib.hid (by
    have h := HPP.out
    rcases Nat.eq_zero_or_pos (natL (prodP 0 ws)).length with h1 | h1
    · exact absurd ((natL_nil_iff _).1 (List.length_eq_zero_iff.1 h1)) (by omega)
    · simp only [beq_eq_false_iff_ne, ne_eq]; omega)
  have HPLi : Hid (Calls Try.prog 41 #[.slice A6 (natL (prodP 0 ws)).length c6] w6 (NewIOk w6 ws)) := Lib.hid (PrimeList_any HSW.out A6 _ c6 w6 o6.rd)
  obtain ⟨PL, hPL⟩ : ∃ PL, (natL (prodP 0 ws)).length = PL := ⟨_, rfl⟩
  rw [hPL] at HPL HPLi ⊢
  have hpl0 := HPL.out
  clear hPL o6
  go_wp2_with fail
  refine HPLi.out.mono ?_
  rintro e w7 ⟨A7, c7, rfl, o7, z7⟩
  rw [HK.out] at o7 ⊢
  have z17 := z16.trans (z7.mono z16.size)
  have HN2 := Lib.hid (b10Nums_yes A7 D K c7 dc ws w7 o7.rd (HR1.out _ z17) (by omega))
  clear o7 z7 z16 z15 z6 HPLi
  go_wp2_with fail
  refine HN2.out.mono ?_
  rintro e w' ⟨rfl, q8, rfl⟩
  have z18 := below_drewN z17 q8
  generalize w7.drewN q8 = w8 at *
  have y8 := z1.trans (z18.mono z1.size)
  clear HN2 z17 z18 HR1 HO1 z1
  -- the naturals
  go_wp2_with fail
  refine (b10Naturals_any B m d ys w8 (HY.out.below y8) (fun k hk => Nat.lt_of_lt_of_le (HB.out k hk) y8.size) hm).mono ?_
  rintro e w9 ⟨E, ec, a, F, fc, b, rfl, oa, ob, ha, hb, z9⟩
  have y9 := y8.trans (z9.mono y8.size)
  have HRA : Hid (∀ W, Below w9.heap.size w9 W → SI W E (natL a).length (natL a)) := Lib.hid (fun W z => (oa.below z).rd)
  have HRB : Hid (∀ W, Below w9.heap.size w9 W → SI W F (natL b).length (natL b)) := Lib.hid (fun W z => (ob.below z).rd)
  have HLA := Lib.hid ha
  have HLB := Lib.hid hb
  clear oa ob ha hb z9 y8
  go_wp2_with fail
  refine (SetOfI_any E _ ec a w9 (HRA.out _ (Below.refl _ _)) HLA.out).mono ?_
  rintro e w10 ⟨A10, c10, rfl, o10, z10⟩
  go_wp2_with fail
  refine (SetNumberI_any A10 _ c10 a w10 o10.rd HLA.out).mono ?_
  rintro e w11 ⟨A11, c11, rfl, o11, z11⟩
  have z911 := z10.trans (z11.mono z10.size)
  clear o10 z10
  go_wp2_with fail
  refine (SignedOfI_any F _ fc b w11 (HRB.out _ z911) HLB.out).mono ?_
  rintro e w12 ⟨A12, c12, rfl, o12, z12⟩
  have z912 := z911.trans (z12.mono z911.size)
  have HRa11 : Hid (∀ W, Below w11.heap.size w11 W → SI W A11 (natL a).length (natL a)) := Lib.hid (fun W z => (o11.below z).rd)
  have HSN : Hid (Calls Try.prog 45 #[.bool (decide ((b + 1) % 2 = 0)), .slice A12 (natL ((b + 1) / 2)).length c12] w12 fun e w' => ∃ A1 c1, e = .returned (.tuple #[.slice A1 (natL b).length c1, .int .i64 0]) ∧ Own w' w12.heap.size 2 1 A1 (natL b).length c1 (ints (natL b)) ∧ Below w12.heap.size w12 w') := Lib.hid (by
    have h := SignedNumberI_any (decide ((b + 1) % 2 = 0)) A12 _ c12 ((b + 1) / 2) w12 o12.rd (Nat.le_trans (natL_len_mono (by omega)) HLB.out) (fun h => by have := of_decide_eq_true h; omega) (by rw [signed_back]; exact HLB.out)
    rw [signed_back] at h
    exact h)
  obtain ⟨sg, hsg⟩ : ∃ sg, decide ((b + 1) % 2 = 0) = sg := ⟨_, rfl⟩
  obtain ⟨sl, hsl⟩ : ∃ sl, (natL ((b + 1) / 2)).length = sl := ⟨_, rfl⟩
  rw [hsg, hsl] at HSN ⊢
  clear o11 o12 hsg hsl z911
  go_wp2_with fail
  refine HSN.out.mono ?_
  rintro e w13 ⟨A13, c13, rfl, o13, z13⟩
  have z913 := z912.trans (z13.mono z912.size)
  have z1113 := z12.trans (z13.mono z12.size)
  have HN3 := Lib.hid (b10Nums_yes A11 E (natL a).length c11 ec (natL a) w13 (HRa11.out _ z1113) (HRA.out _ z913) (by have := HLA.out; omega))
  have HN4 := Lib.hid (fun q => b10Nums_yes A13 F (natL b).length c13 fc (natL b) (w13.drewN q) (o13.rd.drewN q) ((HRB.out _ z913).drewN q) (by have := HLB.out; omega))
  clear o13 z13 z12 z912 z1113 HSN
  go_wp2_with fail
  refine HN3.out.mono ?_
  rintro e w' ⟨rfl, q14, rfl⟩
  go_wp2_with fail
  refine (HN4.out q14).mono ?_
  rintro e w' ⟨rfl, q15, rfl⟩
  have z915 := below_drewN (below_drewN z913 q14) q15
  generalize (w13.drewN q14).drewN q15 = w15 at *
  clear HN3 HN4 z913 HRa11 z11
  have y15 := y9.trans (z915.mono y9.size)
  go_wp2_with fail
  refine (WeaveI_any E ec a F fc b w15 (HRA.out _ z915) (HRB.out _ z915) HLA.out HLB.out).mono ?_
  rintro e w16 (⟨h40, A16, c16, rfl, o16, z16⟩ | ⟨h40, rfl, z16⟩)
  · have y16 := y15.trans (z16.mono y15.size)
    have z916 := z915.trans (z16.mono z915.size)
    have HUW : Hid (Calls Try.prog 48 #[.slice A16 (natL (wovenN a b)).length c16] w16 fun e w' => ∃ A1 c1 A2 c2, e = .returned (.tuple #[.slice A1 (natL a).length c1, .slice A2 (natL b).length c2, .int .i64 0]) ∧
      Own w' w16.heap.size 2 1 A1 (natL a).length c1 (ints (natL a)) ∧ Own w' w16.heap.size 2 1 A2 (natL b).length c2 (ints (natL b)) ∧ Below w16.heap.size w16 w') := Lib.hid (by
      have h := UnweaveI_any A16 c16 (wovenN a b) w16 o16.rd h40
      have hu := unweave (a := a) (c := b) (n := max (digB 8 a).length (digB 8 b).length) (Nat.le_max_left _ _) (Nat.le_max_right _ _)
      have e1 : ofD 10 (evens (digB 8 (wovenN a b))) = a := hu.1
      have e2 : ofD 10 (odds (digB 8 (wovenN a b))) = b := hu.2
      rw [e1, e2] at h
      exact h)
    obtain ⟨Lw, hLw⟩ : ∃ Lw, (natL (wovenN a b)).length = Lw := ⟨_, rfl⟩
    rw [hLw] at HUW ⊢
    clear o16 h40 hLw z16
    go_wp2_with fail
    refine HUW.out.mono ?_
    rintro e w17 ⟨A17, c17, B17, d17, rfl, oA, oB, z17⟩
    have y17 := y16.trans (z17.mono y16.size)
    have z917 := z916.trans (z17.mono z916.size)
    have HN5 := Lib.hid (b10Nums_yes A17 E (natL a).length c17 ec (natL a) w17 oA.rd (HRA.out _ z917) (by have := HLA.out; omega))
    have HN6 := Lib.hid (fun q => b10Nums_yes B17 F (natL b).length d17 fc (natL b) (w17.drewN q) (oB.rd.drewN q) ((HRB.out _ z917).drewN q) (by have := HLB.out; omega))
    clear oA oB z17
    go_wp2_with fail
    refine HN5.out.mono ?_
    rintro e w' ⟨rfl, q18, rfl⟩
    go_wp2_with fail
    refine (HN6.out q18).mono ?_
    rintro e w' ⟨rfl, q19, rfl⟩
    have y19 := below_drewN y17 (q18 + q19)
    go_wp2_with fail
    go_ret
    exact ⟨rfl, y19⟩
  · have y16 := y15.trans (z16.mono y15.size)
    have z916 := z915.trans (z16.mono z915.size)
    have HWF := Lib.hid (weaveS_full E ec a F fc b w16 (HRA.out _ z916) (HRB.out _ z916) HLA.out HLB.out h40)
    clear h40 z16
    go_wp2_with fail
    refine HWF.out.mono ?_
    rintro e w17 ⟨rfl, z17⟩
    have y17 := y16.trans (z17.mono y16.size)
    go_wp2_with fail
    go_ret
    exact ⟨rfl, y17⟩
end Go.Proofs.Ytpleclmlcojkdaa

/-
  For every input, FnCodes returns true, and each argument reads afterwards as it read before. No conditions.
-/
namespace Go.Proofs.Ytpleclmlcojkdaa.lawCodesRow
open Go.ChangeShapes Go.WideShapes Go.ChangeAt Go.RowKit Go.Joins Go.Proofs.Ytpleclmlcojkdaa

theorem own : ownKnob Try.prog.godebug = none := by kernel_rfl
theorem laidOut : laidOutB Try.prog = true := by kernel_rfl
theorem readable : ∀ t ∈ Try.f5.params.toList, Try.prog.readableRec t = true ∧ t < Try.prog.types.size := by
  have h : (Try.f5.params.toList.all fun t => Try.prog.readableRec t && decide (t < Try.prog.types.size)) = true := by kernel_rfl
  intro t ht
  have := List.all_eq_true.1 h t ht
  simpa using this

set_option maxRecDepth 100000 in
theorem lifted (os : Os) (started : os.Started) (H : Type) (enc : TypeId × Value → H) :
    ReturnsInHanded {} Try.checked os 5 .any (Rows.fnCodesSpec.pre6 enc Try.prog Try.f5 Rows.fnCodesRow.domain false) (Rows.fnCodesSpec.post enc Try.prog Try.f5 false true false false) := by
  refine returnsInHanded_of_change (C := Try.checked) own started (by kernel_rfl) Try.func5
    (ChangeSpec.witness6 (enc := enc) (C := Try.checked) false ⟨#[], #[.slice none 0 0, .slice none 0 0], []⟩ 8 (by kernel_rfl) (by kernel_rfl) (by kernel_rfl) (by kernel_rfl)) ?_
  intro W base args ds gs before hval0 hW hcnd _
  have hval : ∀ (j : Nat) t v, Try.f5.params[j]? = some t → args[j]? = some v → Value.okWide Try.prog W .any base t v := hval0
  have hW' := hW
  obtain ⟨p, q, hA0, hV, hbef, hfz, hnd⟩ := hW
  have hA : DataW.TrodAll enc Try.prog W 0 (fun _ => true) true Try.f5.params.toList args.toList ds p := hA0
  rw [Try.params5] at hA hval
  obtain ⟨v0, vs0, d0, ds0, p0, q0, hargs, rfl, rfl, h0, r0⟩ := trodAll_cons hA
  obtain ⟨v1, vs1, d1, ds1, p1, q1, rfl, rfl, rfl, h1, r1⟩ := trodAll_cons r0
  obtain ⟨rfl, rfl, rfl⟩ := trodAll_nil r1
  obtain rfl : args = #[v0, v1] := by cases args; simp_all
  obtain ⟨rfl, rfl⟩ := trodVars_none hV
  obtain ⟨Aa0, na0, ka0, rfl⟩ := okWide_slice Try.underlying22 (hval 0 22 v0 rfl rfl)
  have hB0 := okWide_blk Try.underlying22 (hval 0 22 _ rfl rfl)
  obtain ⟨fuel0, hf0⟩ := h0
  obtain ⟨Aa0', na0', ka0', xa0, ee0, Sa0, la0, ma0⟩ := sb_of_trod (v := .slice Aa0 na0 ka0) Try.underlying22 Try.underlying5 (by kernel_rfl) (by simpa [Value.cells] using hf0)
  simp only [Value.slice.injEq] at ee0
  obtain ⟨rfl, rfl, rfl⟩ := ee0
  obtain ⟨Aa1, na1, ka1, rfl⟩ := okWide_slice Try.underlying22 (hval 1 22 v1 rfl rfl)
  have hB1 := okWide_blk Try.underlying22 (hval 1 22 _ rfl rfl)
  obtain ⟨fuel1, hf1⟩ := h1
  obtain ⟨Aa1', na1', ka1', xa1, ee1, Sa1, la1, ma1⟩ := sb_of_trod (v := .slice Aa1 na1 ka1) Try.underlying22 Try.underlying5 (by kernel_rfl) (by simpa [Value.cells] using hf1)
  simp only [Value.slice.injEq] at ee1
  obtain ⟨rfl, rfl, rfl⟩ := ee1
  refine (lawCodes Aa0 na0 ka0 xa0 Aa1 na1 ka1 xa1 W Sa0 hB0 Sa1 hB1 (by omega) (by omega)).mono fun e W' ⟨he, hb⟩ => ?_
  subst he
  exact ⟨_, rfl, law_post laidOut readable rfl (by kernel_rfl) Try.underlying4 rfl rfl rfl hW' hb⟩

set_option maxHeartbeats 8000000 in
theorem closed : joinedFacts Try.pinned.checked.prog 5 Try.f5 Rows.fnCodesSpec Rows.fnCodesRow = true := by
  unfold joinedFacts
  simp only [Bool.and_eq_true]
  repeat' (refine And.intro ?_ ?_)
  all_goals (as_aux_lemma => kernel_rfl)
theorem named : Try.pinned.checked.prog.funcNamed Rows.fnCodesRow.func = some 5 := by kernel_rfl
theorem instance_ : decide (Func.isInstance Try.pinned.checked.prog Try.f5 Rows.fnCodesRow.origin Rows.fnCodesRow.targs) = true := by kernel_rfl
set_option maxHeartbeats 8000000 in
theorem proved : Rows.FnCodesSaid :=
  OpenClaim.holds_of_wide 5 Try.f5 rfl rfl rfl rfl rfl rfl rfl ⟨rfl, rfl, rfl, rfl, rfl⟩ rfl rfl rfl rfl rfl named Try.func5 closed
    (of_decide_eq_true instance_) (by unfold Func.isWrapper; first | (rw [if_pos (by decide +kernel)]; kernel_rfl) | (rw [if_neg (by decide +kernel)]; exact ⟨rfl, rfl⟩))
    (fun os started H enc _ => lifted os started H enc)
end Go.Proofs.Ytpleclmlcojkdaa.lawCodesRow
