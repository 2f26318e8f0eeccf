/-
  Whether two lists are equal (r8Same).
-/
import Derived.Test.YtpleclmlcojkdaaPbNatE0
import Derived.Test.YtpleclmlcojkdaaPbNatE4
import Derived.Test.YtpleclmlcojkdaaPbNatE5
import Derived.Test.YtpleclmlcojkdaaRows
namespace Go.Proofs.Ytpleclmlcojkdaa
open Go.RowKit

/-- A slice that came in lies in a block that is there. -/
theorem okWide_blk {P : Program} {w : World} {r : Reach} {base : Nat} {t e : TypeId} {A : Option Addr} {n c : Nat} (ht : P.underlying t = some (.slice e)) (h : Value.okWide P w r base t (.slice A n c)) : ∀ k, blk A = some k → k < w.heap.size := by
  intro k hk
  cases A with
  | none => cases hk
  | some a =>
    simp only [Value.okWide, ht, Cell.okWide, Cell.ok] at h
    obtain ⟨_, _, _, _, row, cells, hs, _⟩ := h
    have hk' : a.block = k := by simpa [blk] using hk
    subst hk'
    refine Nat.lt_of_not_le fun hle => ?_
    unfold World.shape? at hs
    rw [Array.getElem?_eq_none hle] at hs
    cases hs
end Go.Proofs.Ytpleclmlcojkdaa

/-
  Whether two lists are equal (b10Nums).
-/
namespace Go.Proofs.Ytpleclmlcojkdaa
open Go.RowKit

set_option maxHeartbeats 400000 in
theorem b10Nums_any (A B : Option Addr) (n m c d : Nat) (xs ys : List Int) (w : World) (hx : SI w A n xs) (hy : SI w B m ys) (hn : n ≤ 9223372036854775807) :
    Calls Try.prog 26 #[.slice A n c, .slice B m d] w fun e w' => e = .returned (.bool (sameI xs ys)) ∧ ∃ q, w' = w.drewN q := by
  by_cases hnm : n = m
  · subst hnm
    go_enter Try.func26, Try.ntmps26
    go_wp2
    go_loopw [5] (fun i wr => ∃ k q : Nat, k ≤ n ∧ i = .int .i64 k ∧ Hid (xs.take k = ys.take k) ∧ wr = w.drewN q) (fun i _ => n - (intOf i).toNat)
    case atStart => exact ⟨0, 0, by omega, rfl, rfl, rfl⟩
    case round =>
      obtain ⟨k, q, hk, rfl, he, rfl⟩ := hrel
      by_cases hlt : k < n
      · obtain ⟨b, off, rfl, _, hc⟩ := hx.at_ hlt
        obtain ⟨b', off', rfl, _, hc'⟩ := hy.at_ hlt
        go_wp2
        go_quiet (fail)
        go_wp2
        · go_ret
          exact ⟨ret_bool (sameI_ne hlt hx.len hy.len (by assumption)), _, World.drewN_drewN _ _ _⟩
        · exact ⟨⟨k + 1, _, by omega, by go_num, take_next hlt hx.len hy.len he.out (by assumption), rfl⟩, by simp [intOf]; omega⟩
      · go_wp2
        go_ret
        exact ⟨ret_bool (sameI_eq (by omega) hx.len hy.len he.out), _, rfl⟩
  · have hne : ((n : Int) != (m : Int)) = true := by simp; omega
    go_enter Try.func26, Try.ntmps26
    go_wp2
    go_ret
    exact ⟨ret_bool (sameI_len hnm hx.len hy.len), 0, rfl⟩
theorem b10Nums_yes (A B : Option Addr) (n c d : Nat) (xs : List Int) (w : World) (hx : SI w A n xs) (hy : SI w B n xs) (hn : n ≤ 9223372036854775807) :
    Calls Try.prog 26 #[.slice A n c, .slice B n d] w fun e w' => e = .returned (.bool true) ∧ ∃ q, w' = w.drewN q :=
  (b10Nums_any A B n n c d xs xs w hx hy hn).mono fun _ _ ⟨h1, h2⟩ => ⟨by rw [h1]; simp [sameI], h2⟩
theorem b10Long_yes (A : Option Addr) (n c : Nat) (w : World) (h : 1048576 < n) : Calls Try.prog 22 #[.slice A n c] w fun e w' => e = .returned (.bool true) ∧ w = w' := by
  have i1 : (1048576 : Int) < (n : Int) := by omega
  go_enter Try.func22, Try.ntmps22
  go_wp2_with fail
  go_ret
  exact ⟨ret_bool (by simp), rfl⟩
theorem b10Long_no (A : Option Addr) (n c : Nat) (w : World) (h : ¬ 1048576 < n) : Calls Try.prog 22 #[.slice A n c] w fun e w' => e = .returned (.bool false) ∧ w = w' := by
  have i1 : ¬ (1048576 : Int) < (n : Int) := by omega
  go_enter Try.func22, Try.ntmps22
  go_wp2_with fail
  go_ret
  exact ⟨ret_bool (by simp), rfl⟩
end Go.Proofs.Ytpleclmlcojkdaa

/-
  The walk of the law FnPairs: it returns true, and nothing that was there before has turned.
-/
namespace Go.Proofs.Ytpleclmlcojkdaa
open Go.RowKit

set_option maxRecDepth 100000 in
set_option maxHeartbeats 2000000 in
theorem b10Rows_yes (A : Option Addr) (n c : Nat) (ts : List Sl) (B : Option Addr) (m d : Nat) (us : List Sl) (w : World) (hx : SII w A n ts) (hy : SII w B m us) (hn : n ≤ 1048576) (he : nums ts = nums us) (hl : ∀ t ∈ ts, t.xs.length ≤ 1048576) :
    Calls Try.prog 34 #[.slice A n c, .slice B m d] w fun e w' => e = .returned (.bool true) ∧ ∃ q, w' = w.drewN q := by
  obtain rfl : n = m := by
    have := congrArg List.length he
    simp only [nums, List.length_map] at this
    rw [hx.len, hy.len] at this; exact this
  have i0 : ((n : Int) != (n : Int)) = false := by simp
  go_enter Try.func34, Try.ntmps34
  go_wp2_with fail
  go_loopw [5] (fun i wr => ∃ k q : Nat, k ≤ n ∧ i = .int .i64 k ∧ wr = w.drewN q) (fun i _ => n - (intOf i).toNat)
  case atStart => exact ⟨0, 0, by omega, rfl, rfl⟩
  case round =>
    obtain ⟨k, q, hk, rfl, rfl⟩ := hrel
    by_cases hlt : k < n
    · obtain ⟨t, b, off, HT, htm, rfl, _, hc, hr⟩ := hx.pick hlt
      obtain ⟨u, b', off', HU, hum, rfl, _, hc', hr'⟩ := hy.pick hlt
      have e1 : t.xs = u.xs := by
        have h1 : (nums ts)[k]? = some t.xs := by unfold nums; rw [List.getElem?_map, HT.out]; rfl
        have h2 : (nums us)[k]? = some u.xs := by unfold nums; rw [List.getElem?_map, HU.out]; rfl
        rw [he, h2] at h1
        exact (Option.some.inj h1).symm
      have HTL := Lib.hid (hl t htm)
      have HR := Lib.hid hr
      have HR' : Hid (SI w u.A t.xs.length t.xs) := Lib.hid (by rw [e1]; exact hr')
      have HE : Hid (u.xs.length = t.xs.length) := Lib.hid (by rw [e1])
      rw [HE.out] at hc'
      have i1 : (0 : Int) ≤ (k : Int) := by omega
      have i2 : (k : Int) < (n : Int) := by omega
      have HC := Lib.hid (fun q1 => b10Nums_yes t.A u.A t.xs.length t.c u.c t.xs (w.drewN (q + q1)) HR.out HR'.out (by have := HTL.out; omega))
      clear hr hr' e1 hum htm HE
      go_upto_region 6 with fail
      go_quiet ((first | (go_at_call 26; exact quiet_add (HC.out _))))
      go_wp2_with fail
      go_roundw
      case rel => exact ⟨k + 1, _, by omega, by go_num, rfl⟩
      case measure => simp [intOf]; omega
    · go_wp2_with fail
      go_ret
      exact ⟨rfl, q, rfl⟩
theorem pairN_ge (x y : Nat) : x ≤ pairN x y := by
  have h1 := tri_mono (Nat.le_add_right x y)
  have h2 : x ≤ tri x := by
    cases x with
    | zero => exact Nat.zero_le _
    | succ k => show k + 1 ≤ tri k + (k + 1); omega
  unfold pairN
  omega
set_option maxRecDepth 100000 in
set_option maxHeartbeats 4000000 in
theorem lawPairs (A : Option Addr) (n c : Nat) (xs : List Int) (w : World) (hx : SB w A n xs) (hA : ∀ k, blk A = some k → k < w.heap.size) (hn : n ≤ 9223372036854775807) :
    Calls Try.prog 4 #[.slice A n c] w fun e w' => e = .returned (.bool true) ∧ Below w.heap.size w w' := by
  by_cases hlong : 1048576 < n
  · go_enter Try.func4, Try.ntmps4
    go_wp2_with (go_at_call 22; refine (b10Long_yes _ _ _ _ hlong).mono ?_; rintro e w' ⟨rfl, rfl⟩)
    go_ret
    exact ⟨rfl, Below.refl _ _⟩
  have HX := Lib.hid hx
  have HA := Lib.hid hA
  have HS := Lib.hid (b10Naturals_any A n c xs w hx hA hn)
  clear hx hA
  go_enter Try.func4, Try.ntmps4
  go_wp2_with (go_at_call 22; refine (b10Long_no _ _ _ _ hlong).mono ?_; rintro e w' ⟨rfl, rfl⟩)
  refine HS.out.mono ?_
  rintro e w1 ⟨D, d, v, E, f, u, rfl, o1, _, hv, _, z1⟩
  clear HS
  -- the pair of a natural
  obtain ⟨s, hs⟩ := isRoot_ex (8 * v + 1)
  obtain ⟨x, y, hxy, _, _⟩ := unpair_of hs
  clear hs
  obtain ⟨L, hL⟩ : ∃ L, (natL v).length = L := ⟨_, rfl⟩
  have HP : Hid (pairN x y = v) := Lib.hid hxy.symm
  have hr1 : SI w1 D L (natL (pairN x y)) := by rw [HP.out, ← hL]; exact o1.rd
  have HR1 := Lib.hid hr1
  have hL40 : L ≤ 40 := by omega
  have hlx : (natL x).length ≤ 40 := sub_len (x := v) (by omega) (by rw [hxy]; exact pairN_ge x y)
  have hly : (natL y).length ≤ 40 := sub_len (x := v) (by omega) (by rw [hxy]; unfold pairN; omega)
  have HLX := Lib.hid hlx
  have HLY := Lib.hid hly
  have HLV : Hid ((natL (pairN x y)).length = L) := Lib.hid (by rw [HP.out]; exact hL)
  rw [hL]
  clear hxy hlx hly hv o1 hL hr1 HP
  go_wp2_with fail
  refine (UnpairOfI_any D L d x y w1 HR1.out hL40).mono ?_
  rintro e w2 ⟨A2, c2, B2, d2, rfl, o2, p2, z2⟩
  have y2 := z1.trans (z2.mono z1.size)
  go_wp2_with fail
  refine (PairOfI_any A2 c2 x B2 d2 y w2 o2.rd p2.rd HLX.out HLY.out (by rw [HLV.out]; exact hL40)).mono ?_
  rintro e w3 ⟨A3, c3, rfl, o3, z3⟩
  have y3 := y2.trans (z3.mono y2.size)
  rw [HLV.out] at o3 ⊢
  have hn1 := b10Nums_yes A3 D L c3 d (natL (pairN x y)) w3 o3.rd ((HR1.out.below z2).below z3) (by omega)
  have HN1 := Lib.hid hn1
  clear hn1 o2 p2 o3 z3 z2 z1
  go_wp2_with fail
  refine HN1.out.mono ?_
  rintro e w' ⟨rfl, q4, rfl⟩
  have y4 := below_drewN y3 q4
  generalize w3.drewN q4 = w4 at *
  clear y3 y2 HN1 HR1
  go_wp2_with fail
  refine (b10Smalls_any A n c xs w4 (HX.out.below y4) (fun k hk => Nat.lt_of_lt_of_le (HA.out k hk) y4.size) hn).mono ?_
  rintro e w5 ⟨F, fc, ts, vs, rfl, hO, hR, h5, z5⟩
  have y5 := y4.trans (z5.mono y4.size)
  have HO := Lib.hid hO.sii
  have HR := Lib.hid hR
  have H5 := Lib.hid h5
  have HTL : Hid (ts.length = vs.length) := Lib.hid hR.len
  have HC : Hid (ts.length ≤ fc) := Lib.hid hO.1.le
  have h56 := h5.2.1
  have hb5 : ts.length ≤ 5 := by rw [HTL.out]; exact h56
  have HNR : Hid (∀ t ∈ ts, t.xs.length ≤ 1048576) := Lib.hid (fun t ht => by obtain ⟨_, _, h⟩ := hR.row ht; omega)
  clear hO hR h5 h56
  go_wp2_with fail
  refine (TupleNumberI_any F ts.length fc ts vs w5 HO.out HR.out H5.out HC.out).mono ?_
  rintro e w6 ⟨A6, c6, rfl, o6, z6⟩
  have y6 := y5.trans (z6.mono y5.size)
  have HT : Hid (∀ W, Below w5.heap.size w5 W → SII W F ts.length ts) := Lib.hid (fun W z => HO.out.below z)
  have HTP : Hid (Calls Try.prog 30 #[.slice A6 (natL (tupN vs)).length c6, .int .i64 (ts.length : Int)] w6 (NewRows w6 vs)) := Lib.hid (by rw [HTL.out]; exact TupleOfI_any A6 c6 vs w6 o6.rd H5.out)
  go_wp2_with fail
  refine HTP.out.mono ?_
  rintro e w7 ⟨A7, c7, us, rfl, hO7, hN7, z7⟩
  have y7 := y6.trans (z7.mono y6.size)
  have z57 := z6.trans (z7.mono z6.size)
  go_wp2_with fail
  refine (SequenceNumberI_any F ts.length fc ts vs w7 (HT.out _ z57) HR.out H5.out).mono ?_
  rintro e w8 ⟨A8, c8, rfl, o8, z8⟩
  have y8 := y7.trans (z8.mono y7.size)
  have z58 := z57.trans (z8.mono z57.size)
  go_wp2_with fail
  refine (SequenceOfI_any A8 c8 vs w8 o8.rd H5.out).mono ?_
  rintro e w9 ⟨A9, c9, qs, rfl, hO9, hN9, z9⟩
  have y9 := y8.trans (z9.mono y8.size)
  have z59 := z58.trans (z9.mono z58.size)
  have hb1 := b10Rows_yes A7 us.length c7 us F ts.length fc ts w9 ((hO7.sii.below z8).below z9) (HT.out _ z59) (by have := congrArg List.length hN7; simp only [nums, List.length_map] at this; have := HTL.out; omega) (by rw [hN7, HR.out.1]) (fun t ht => by
    have h1 : t.xs ∈ nums us := List.mem_map.2 ⟨t, ht, rfl⟩
    rw [hN7] at h1
    obtain ⟨v', hv', e'⟩ := List.mem_map.1 h1
    rw [← e']; have := HR.out.2 v' hv'; omega)
  have HB1 := Lib.hid hb1
  have HB2 : Hid (∀ q, Calls Try.prog 34 #[.slice A9 qs.length c9, .slice F ts.length fc] (w9.drewN q) fun e w' => e = .returned (.bool true) ∧ ∃ k, w' = (w9.drewN q).drewN k) := Lib.hid (fun q => b10Rows_yes A9 qs.length c9 qs F ts.length fc ts (w9.drewN q) (hO9.sii.drewN q) ((HT.out _ z59).drewN q) (by have := congrArg List.length hN9; simp only [nums, List.length_map] at this; have := HTL.out; omega) (by rw [hN9, HR.out.1]) (fun t ht => by
    have h1 : t.xs ∈ nums qs := List.mem_map.2 ⟨t, ht, rfl⟩
    rw [hN9] at h1
    obtain ⟨v', hv', e'⟩ := List.mem_map.1 h1
    rw [← e']; have := HR.out.2 v' hv'; omega))
  clear hb1 hO9 hO7 o6 o8 z5 z6 z7 z8 z9 z57 z58 z59 HT hN7 hN9
  go_wp2_with fail
  refine HB1.out.mono ?_
  rintro e w' ⟨rfl, qa, rfl⟩
  go_wp2_with fail
  refine (HB2.out qa).mono ?_
  rintro e w' ⟨rfl, qb, rfl⟩
  go_wp2_with fail
  go_ret
  exact ⟨rfl, below_drewN y9 (qa + qb)⟩
end Go.Proofs.Ytpleclmlcojkdaa

/-
  For every input, FnPairs returns true, and each argument reads afterwards as it read before. No conditions.
-/
namespace Go.Proofs.Ytpleclmlcojkdaa.lawPairsRow
open Go.ChangeShapes Go.WideShapes Go.ChangeAt Go.RowKit Go.Joins Go.Proofs.Ytpleclmlcojkdaa

theorem own : ownKnob Try.prog.godebug = none := by kernel_rfl
theorem laidOut : laidOutB Try.prog = true := by kernel_rfl
theorem readable : ∀ t ∈ Try.f4.params.toList, Try.prog.readableRec t = true ∧ t < Try.prog.types.size := by
  have h : (Try.f4.params.toList.all fun t => Try.prog.readableRec t && decide (t < Try.prog.types.size)) = true := by kernel_rfl
  intro t ht
  have := List.all_eq_true.1 h t ht
  simpa using this

set_option maxRecDepth 100000 in
theorem lifted (os : Os) (started : os.Started) (H : Type) (enc : TypeId × Value → H) :
    ReturnsInHanded {} Try.checked os 4 .any (Rows.fnPairsSpec.pre6 enc Try.prog Try.f4 Rows.fnPairsRow.domain false) (Rows.fnPairsSpec.post enc Try.prog Try.f4 false true false false) := by
  refine returnsInHanded_of_change (C := Try.checked) own started (by kernel_rfl) Try.func4
    (ChangeSpec.witness6 (enc := enc) (C := Try.checked) false ⟨#[], #[.slice none 0 0], []⟩ 8 (by kernel_rfl) (by kernel_rfl) (by kernel_rfl) (by kernel_rfl)) ?_
  intro W base args ds gs before hval0 hW hcnd _
  have hval : ∀ (j : Nat) t v, Try.f4.params[j]? = some t → args[j]? = some v → Value.okWide Try.prog W .any base t v := hval0
  have hW' := hW
  obtain ⟨p, q, hA0, hV, hbef, hfz, hnd⟩ := hW
  have hA : DataW.TrodAll enc Try.prog W 0 (fun _ => true) true Try.f4.params.toList args.toList ds p := hA0
  rw [Try.params4] at hA hval
  obtain ⟨v0, vs0, d0, ds0, p0, q0, hargs, rfl, rfl, h0, r0⟩ := trodAll_cons hA
  obtain ⟨rfl, rfl, rfl⟩ := trodAll_nil r0
  obtain rfl : args = #[v0] := by cases args; simp_all
  obtain ⟨rfl, rfl⟩ := trodVars_none hV
  obtain ⟨Aa0, na0, ka0, rfl⟩ := okWide_slice Try.underlying22 (hval 0 22 v0 rfl rfl)
  have hB0 := okWide_blk Try.underlying22 (hval 0 22 _ rfl rfl)
  obtain ⟨fuel0, hf0⟩ := h0
  obtain ⟨Aa0', na0', ka0', xa0, ee0, Sa0, la0, ma0⟩ := sb_of_trod (v := .slice Aa0 na0 ka0) Try.underlying22 Try.underlying5 (by kernel_rfl) (by simpa [Value.cells] using hf0)
  simp only [Value.slice.injEq] at ee0
  obtain ⟨rfl, rfl, rfl⟩ := ee0
  refine (lawPairs Aa0 na0 ka0 xa0 W Sa0 hB0 (by omega)).mono fun e W' ⟨he, hb⟩ => ?_
  subst he
  exact ⟨_, rfl, law_post laidOut readable rfl (by kernel_rfl) Try.underlying4 rfl rfl rfl hW' hb⟩

set_option maxHeartbeats 8000000 in
theorem closed : joinedFacts Try.pinned.checked.prog 4 Try.f4 Rows.fnPairsSpec Rows.fnPairsRow = true := by
  unfold joinedFacts
  simp only [Bool.and_eq_true]
  repeat' (refine And.intro ?_ ?_)
  all_goals (as_aux_lemma => kernel_rfl)
theorem named : Try.pinned.checked.prog.funcNamed Rows.fnPairsRow.func = some 4 := by kernel_rfl
theorem instance_ : decide (Func.isInstance Try.pinned.checked.prog Try.f4 Rows.fnPairsRow.origin Rows.fnPairsRow.targs) = true := by kernel_rfl
set_option maxHeartbeats 8000000 in
theorem proved : Rows.FnPairsSaid :=
  OpenClaim.holds_of_wide 4 Try.f4 rfl rfl rfl rfl rfl rfl rfl ⟨rfl, rfl, rfl, rfl, rfl⟩ rfl rfl rfl rfl rfl named Try.func4 closed
    (of_decide_eq_true instance_) (by unfold Func.isWrapper; first | (rw [if_pos (by decide +kernel)]; kernel_rfl) | (rw [if_neg (by decide +kernel)]; exact ⟨rfl, rfl⟩))
    (fun os started H enc _ => lifted os started H enc)
end Go.Proofs.Ytpleclmlcojkdaa.lawPairsRow
