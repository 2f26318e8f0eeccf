/-
  The walk of the law FnBounds: it returns true, and nothing that was there before has turned.
-/
import Derived.Test.YtokglpdlhacnaaaPkBounds1
import Derived.Test.YtokglpdlhacnaaaPkBounds6
import Derived.Test.YtokglpdlhacnaaaPkBounds7
import Derived.Test.YtokglpdlhacnaaaPkBounds8
import Derived.Test.YtokglpdlhacnaaaRows
namespace Go.Proofs.Ytokglpdlhacnaaa
open Go.RowKit

theorem ones_own (w0 w1 : World) (h0 : Below w0.heap.size w0 w1) :
    OII ((((w1.alloc (.cells #[] 2)).alloc (.cells #[.int .i64 1] 2)).alloc (.cells #[.int .i64 1, .int .i64 1] 2)).alloc (.cells #[.slice (some ⟨w1.heap.size, 0, none⟩) 0 0, .slice (some ⟨w1.heap.size + 1, 0, none⟩) 1 1, .slice (some ⟨w1.heap.size + 1 + 1, 0, none⟩) 2 2] 27)) w0.heap.size 27 2 (some ⟨w1.heap.size + 1 + 1 + 1, 0, none⟩) 3 3 [⟨some ⟨w1.heap.size, 0, none⟩, 0, []⟩, ⟨some ⟨w1.heap.size + 1, 0, none⟩, 1, [1]⟩, ⟨some ⟨w1.heap.size + 1 + 1, 0, none⟩, 2, [1, 1]⟩] ∧
    Below w0.heap.size w0 ((((w1.alloc (.cells #[] 2)).alloc (.cells #[.int .i64 1] 2)).alloc (.cells #[.int .i64 1, .int .i64 1] 2)).alloc (.cells #[.slice (some ⟨w1.heap.size, 0, none⟩) 0 0, .slice (some ⟨w1.heap.size + 1, 0, none⟩) 1 1, .slice (some ⟨w1.heap.size + 1 + 1, 0, none⟩) 2 2] 27)) := by
  have g0 := h0.size
  have b1 := h0.alloc g0 (.cells #[] 2)
  have a1 := Own.lit w1 #[] 2 0 1 w0.heap.size rfl (by simp [maxLen]) g0
  generalize hW1 : w1.alloc (.cells #[] 2) = W1 at *
  have s1 : W1.heap.size = w1.heap.size + 1 := by rw [← hW1]; simp
  have a2 := Own.lit W1 #[.int .i64 1] 2 1 1 w0.heap.size rfl (by simp [maxLen]) b1.size
  have b2 := b1.alloc b1.size (.cells #[.int .i64 1] 2)
  replace a1 := a1.alloc (.cells #[.int .i64 1] 2)
  generalize hW2 : W1.alloc (.cells #[.int .i64 1] 2) = W2 at *
  have s2 : W2.heap.size = w1.heap.size + 1 + 1 := by rw [← hW2]; simp [s1]
  have a3 := Own.lit W2 #[.int .i64 1, .int .i64 1] 2 2 1 w0.heap.size rfl (by simp [maxLen]) b2.size
  have b3 := b2.alloc b2.size (.cells #[.int .i64 1, .int .i64 1] 2)
  replace a1 := a1.alloc (.cells #[.int .i64 1, .int .i64 1] 2)
  replace a2 := a2.alloc (.cells #[.int .i64 1, .int .i64 1] 2)
  generalize hW3 : W2.alloc (.cells #[.int .i64 1, .int .i64 1] 2) = W3 at *
  have s3 : W3.heap.size = w1.heap.size + 1 + 1 + 1 := by rw [← hW3]; simp [s2]
  rw [s1] at a2
  rw [s2] at a3
  have a4 := Own.lit W3 #[.slice (some ⟨w1.heap.size, 0, none⟩) 0 0, .slice (some ⟨w1.heap.size + 1, 0, none⟩) 1 1, .slice (some ⟨w1.heap.size + 1 + 1, 0, none⟩) 2 2] 27 3 1 w0.heap.size rfl (by simp [maxLen]) b3.size
  rw [s3] at a4
  refine ⟨⟨a4, fun t ht => ?_, ?_⟩, b3.alloc b3.size _⟩
  · simp only [List.mem_cons, List.not_mem_nil, or_false] at ht
    rcases ht with rfl | rfl | rfl
    · exact a1.alloc _
    · exact a2.alloc _
    · exact a3.alloc _
  · simp [Apt, blk]; omega
theorem BoundHolds_yes {A : Option Addr} {c : Nat} {x0 x1 x2 x3 x4 f : Int} {w : World} (h : Calls Try.prog 14 #[.slice A 5 c, .int .i64 f, .int .i64 1, .int .i64 3] w (HoldsP f [x0, x1, x2, x3, x4] w)) (hv : ∀ j : Nat, j < 5 → [x0, x1, x2, x3, x4].getD j 0 ≤ f * (j : Int) + 3) :
    Calls Try.prog 14 #[.slice A 5 c, .int .i64 f, .int .i64 1, .int .i64 3] w fun e w' => e = .returned (.tuple #[.bool true, .int .i64 0, .int .i64 0]) ∧ w = w' := by
  refine h.mono ?_
  rintro e w' ⟨⟨k, h0, h4, _, hk⟩ | ⟨rfl, _⟩, rfl⟩
  · have := hv k.toNat (by omega)
    rw [Int.toNat_of_nonneg h0] at this
    omega
  · exact ⟨rfl, rfl⟩
theorem BoundHolds_no {A : Option Addr} {c : Nat} {x0 x1 x2 x3 x4 f : Int} {w : World} (h : Calls Try.prog 14 #[.slice A 5 c, .int .i64 f, .int .i64 1, .int .i64 3] w (HoldsP f [x0, x1, x2, x3, x4] w)) (h0 : x0 ≤ 3) (hv : ∃ j : Nat, j < 5 ∧ f * (j : Int) + 3 < [x0, x1, x2, x3, x4].getD j 0) :
    Calls Try.prog 14 #[.slice A 5 c, .int .i64 f, .int .i64 1, .int .i64 3] w fun e w' => (∃ k : Int, 0 < k ∧ k < 5 ∧ e = .returned (.tuple #[.bool false, .int .i64 k, .int .i64 0])) ∧ w = w' := by
  refine h.mono ?_
  rintro e w' ⟨⟨k, k0, k4, rfl, hk⟩ | ⟨_, hj⟩, rfl⟩
  · refine ⟨⟨k, ?_, by omega, rfl⟩, rfl⟩
    rcases Int.lt_or_le 0 k with hp | hp
    · exact hp
    · obtain rfl : k = 0 := by omega
      have e0 : [x0, x1, x2, x3, x4].getD (0 : Int).toNat 0 = x0 := rfl
      rw [e0] at hk
      omega
  · obtain ⟨j, h5, hv⟩ := hv
    have := hj j h5
    omega
set_option maxRecDepth 100000 in
set_option maxHeartbeats 8000000 in
theorem lawBounds (A : Option Addr) (n c : Nat) (xs : List Int) (w : World) (hx : SB w A n xs) (hA : ∀ k, blk A = some k → k < w.heap.size) (hn : n ≤ 9223372036854775807) :
    Calls Try.prog 3 #[.slice A n c] w fun e w' => e = .returned (.bool true) ∧ Below w.heap.size w w' := by
  by_cases hlong : 1048576 < n
  · go_enter Try.func3, Try.ntmps3
    go_wp2_with (go_at_call 8; refine (b10Long_yes _ _ _ _ hlong).mono ?_; rintro e w' ⟨rfl, rfl⟩)
    go_ret
    exact ⟨rfl, Below.refl _ _⟩
  have HS := Lib.hid (b10Small_any A n c xs w hx hA hn)
  clear hx hA
  go_enter Try.func3, Try.ntmps3
  go_wp2_with (go_at_call 8; refine (b10Long_no _ _ _ _ hlong).mono ?_; rintro e w' ⟨rfl, rfl⟩)
  refine HS.out.mono ?_
  rintro e w1 ⟨st, R, rc, rs, q, L, lc, ls, Y, yc, ys, rfl, hR, hL, hY, hS, z1⟩
  have hm := hS.mach
  have HM := Lib.hid hm
  have HR := Lib.hid hR.as3
  have hrl : rs.length ≤ 1048576 := by
    obtain ⟨_, _, _, _, h5, _⟩ := machB_parts hm
    have := hS.st2
    have := hS.st1
    omega
  have HZ1 := Lib.hid z1
  clear hR hL hY hS z1 HS hm hlong
  obtain ⟨W2, hW_⟩ : ∃ W, W = (w1.alloc (.cells #[.int .i64 2, .int .i64 st, .slice R rs.length rc] 26)).alloc (.cells #[.int .i64 q, .slice L ls.length lc, .slice Y ys.length yc] 29) := ⟨_, rfl⟩
  have s_1 : (w1.alloc (.cells #[.int .i64 2, .int .i64 st, .slice R rs.length rc] 26)).heap.size = w1.heap.size + 1 := by simp
  have b0 : Blk W2 w1.heap.size 26 #[.int .i64 2, .int .i64 st, .slice R rs.length rc] := by rw [hW_]; exact (Blk.new w1 _ _).alloc _
  have b1 : Blk W2 (w1.heap.size + 1) 29 #[.int .i64 q, .slice L ls.length lc, .slice Y ys.length yc] := by rw [hW_, ← s_1]; exact Blk.new _ _ _
  have y2 : Below w1.heap.size w1 W2 := by rw [hW_]; exact ((Below.refl _ _).alloc (Nat.le_refl _) _).alloc (by simp) _
  have HW2 := Lib.hid hW_
  clear hW_ s_1
  have HZ2 := Lib.hid (HZ1.out.trans (y2.mono HZ1.out.size))
  have HR2 := Lib.hid (HR.out.below y2)
  have HB := Lib.hid b0
  have HWT := Lib.hid (worst_law HM.out)
  have HVI := Lib.hid (worstV_in HM.out)
  have HVG := Lib.hid (worstV_get HM.out)
  have HTT := Lib.hid (table_law HM.out)
  obtain ⟨x0, x1, x2, x3, x4, hv⟩ : ∃ x0 x1 x2 x3 x4, worstV 2 st rs = [x0, x1, x2, x3, x4] := ⟨_, _, _, _, _, rfl⟩
  rw [hv] at HWT HVI HVG HTT
  clear hv b1 y2
  have u0 : W2.cell? ⟨w1.heap.size, 0, none⟩ = some (.int .i64 2) := b0.cell 0
  have u1 : W2.cell? ⟨w1.heap.size, 1, none⟩ = some (.int .i64 st) := b0.cell 1
  have u2 : W2.cell? ⟨w1.heap.size, 2, none⟩ = some (.slice R rs.length rc) := b0.cell 2
  clear b0
  have HW := Lib.hid (worstI_any 2 st R rs.length rc rs 1 4 40 W2 HR2.out hrl)
  rw [HWT.out] at HW
  go_upto_region 4 with fail
  rw [← HW2.out]
  go_upto_region 7 with (go_at_call 10; refine HW.out.mono ?_; rintro e w3 ⟨A3, c3, rfl, o3, z3⟩; dsimp only)
  have HZ3 := Lib.hid (HZ2.out.trans (z3.mono HZ2.out.size))
  have hB3 := HB.out.below' z3
  have HR3 := Lib.hid (HR2.out.below z3)
  have HO3 := Lib.hid o3
  clear u0 u1 u2 HW HB HR2 HR HZ1 z3 o3
  have u0 : w3.cell? ⟨w1.heap.size, 0, none⟩ = some (.int .i64 2) := hB3.cell 0
  have u1 : w3.cell? ⟨w1.heap.size, 1, none⟩ = some (.int .i64 st) := hB3.cell 1
  have u2 : w3.cell? ⟨w1.heap.size, 2, none⟩ = some (.slice R rs.length rc) := hB3.cell 2
  obtain ⟨ho4, hz4⟩ := ones_own w3 w3 (Below.refl _ _)
  obtain ⟨W4, hW4⟩ : ∃ W, W = ((((w3.alloc (.cells #[] 2)).alloc (.cells #[.int .i64 1] 2)).alloc (.cells #[.int .i64 1, .int .i64 1] 2)).alloc (.cells #[.slice (some ⟨w3.heap.size, 0, none⟩) 0 0, .slice (some ⟨w3.heap.size + 1, 0, none⟩) 1 1, .slice (some ⟨w3.heap.size + 1 + 1, 0, none⟩) 2 2] 27)) := ⟨_, rfl⟩
  rw [← hW4] at ho4 hz4
  have HW4 := Lib.hid hW4
  have hTT := timeTableI_any 2 st R rs.length rc rs _ 3 3 _ 40 W4 (HR3.out.below hz4) ho4.sii hrl (by decide) (fun t ht => by
    simp only [List.mem_cons, List.not_mem_nil, or_false] at ht
    rcases ht with rfl | rfl | rfl <;> simp)
  have e4 : timeTableF 2 st rs (nums [⟨some ⟨w3.heap.size, 0, none⟩, 0, []⟩, ⟨some ⟨w3.heap.size + 1, 0, none⟩, 1, [1]⟩, ⟨some ⟨w3.heap.size + 1 + 1, 0, none⟩, 2, [1, 1]⟩]) 40 = ([x0, x1, x2], 0) := HTT.out
  rw [e4] at hTT
  have HT := Lib.hid hTT
  have HZ4 := Lib.hid (HZ3.out.trans (hz4.mono HZ3.out.size))
  have HO4 := Lib.hid (HO3.out.below hz4)
  clear hW4 e4 hTT ho4 hz4 hB3 HTT HWT HO3 HR3
  go_upto_region 8 with (go_at_call 11; rw [← HW4.out]; refine HT.out.mono ?_; rintro e w5 ⟨A5, c5, rfl, o5, z5⟩; dsimp only)
  have HZ5 := Lib.hid (HZ4.out.trans (z5.mono HZ4.out.size))
  have ho5 : Own w5 W2.heap.size 2 1 A3 5 c3 (ints [x0, x1, x2, x3, x4]) := HO4.out.below z5
  have HI5 := Lib.hid o5.asI
  have HC3 : (5 : Int) ≤ (c3 : Int) := by have := ho5.le; omega
  have HI3 : Hid (SI w5 A3 5 [x0, x1, x2, x3, x4]) := Lib.hid ho5.asI
  have HI33 : Hid (SI w5 A3 3 [x0, x1, x2]) := Lib.hid (Rd.cut (i := 0) (j := 3) ho5.rd (by omega) (by omega) (fun _ b off h => by simpa using h))
  clear u0 u1 u2 HT HW4 HO4 HZ3 HZ4 o5 z5 ho5
  go_upto_region 10 with (go_at_call 12; refine (b10Nums_yes A5 A3 3 _ _ [x0, x1, x2] _ HI5.out HI33.out (by decide)).mono ?_; rintro e w6 ⟨rfl, q6, h6⟩; have z6 : Below w5.heap.size w5 w6 := (by rw [h6]; exact below_drewN (Below.refl _ _) _); clear h6)
  have HZ6 := Lib.hid (HZ5.out.trans (z6.mono HZ5.out.size))
  have hx6 := HI3.out.below z6
  have hin : allIn [x0, x1, x2, x3, x4] (-1) 1000000000000 = true := List.all_eq_true.2 fun x hx => by
    have := HVI.out x hx
    rw [inB_iff]; omega
  have HLF := (leastFactor_any A3 c3 x0 x1 x2 x3 x4 w6 hx6 hin HVG.out)
  have HBH := Lib.hid (fun f (h0 : 0 ≤ f) (h1 : f ≤ 40) => boundHolds_any A3 c3 x0 x1 x2 x3 x4 f w6 hx6 hin h0 h1)
  obtain ⟨b, off, rfl, _, k0⟩ := hx6.at_ (k := 0) (by omega)
  have k1 : w6.cell? ⟨b, off, none⟩ = some (.int .i64 x0) := k0
  clear z6 HI3 HI5 HI33 HVI k0 hx6 hin
  cases ho : leastTo [x0, x1, x2, x3, x4] 5 with
  | none =>
    have h3 : 3 < x0 := leastTo_none ho
    rw [ho] at HLF
    have HLN : Hid (Calls Try.prog 13 #[.slice (some ⟨b, off, none⟩) 5 c3, .int .i64 1, .int .i64 3] w6 fun e w' => e = .returned (.tuple #[.int .i64 0, .int .i64 3]) ∧ w6 = w') := Lib.hid HLF
    clear ho HLF
    go_wp2_with (go_at_call 13; refine HLN.out.mono ?_; rintro e w7 ⟨rfl, rfl⟩)
    go_ret
    exact ⟨ret_bool (by first | (simp; done) | (simp; omega)), HZ6.out⟩
  | some f =>
    obtain ⟨f0, f1, f2, f3⟩ := leastTo_ok HVG.out ho
    have hz := leastTo_zero ho
    rw [ho] at HLF
    have HLN : Hid (Calls Try.prog 13 #[.slice (some ⟨b, off, none⟩) 5 c3, .int .i64 1, .int .i64 3] w6 fun e w' => e = .returned (.tuple #[.int .i64 f, .int .i64 0]) ∧ w6 = w') := Lib.hid HLF
    clear HLF
    have HY := Lib.hid (BoundHolds_yes (HBH.out f f0 f1) f2)
    by_cases hf : f = 0
    · subst hf
      clear ho f2 f3 hz
      go_wp2_with (first
        | (go_at_call 13; refine HLN.out.mono ?_; rintro e w7 ⟨rfl, rfl⟩)
        | (go_at_call 14; refine HY.out.mono ?_; rintro e w7 ⟨rfl, rfl⟩))
      go_ret
      exact ⟨rfl, HZ6.out⟩
    · have f4 : ∃ j : Nat, j < 5 ∧ (f - 1) * (j : Int) + 3 < [x0, x1, x2, x3, x4].getD j 0 := by
        rcases f3 with h | ⟨j, _, h2, h3⟩
        · exact absurd h hf
        · exact ⟨j, h2, h3⟩
      have HN := Lib.hid (BoundHolds_no (HBH.out (f - 1) (by omega) (by omega)) hz f4)
      have hf' : ¬ f = 0 := hf
      clear ho f2 f3 f4 hz
      go_wp2_with (first
        | (go_at_call 13; refine HLN.out.mono ?_; rintro e w7 ⟨rfl, rfl⟩)
        | (go_at_call_of 14 (Value.int .i64 f); refine HY.out.mono ?_; rintro e w7 ⟨rfl, rfl⟩)
        | (go_at_call 14; refine HN.out.mono ?_; rintro e w7 ⟨⟨k, hk0, hk5, rfl⟩, rfl⟩))
      go_ret
      exact ⟨ret_bool (by first | (simp; done) | (simp; omega)), HZ6.out⟩
end Go.Proofs.Ytokglpdlhacnaaa

/-
  For every input, FnBounds returns true, and each argument reads afterwards as it read before. No conditions.
-/
namespace Go.Proofs.Ytokglpdlhacnaaa.lawBoundsRow
open Go.ChangeShapes Go.WideShapes Go.ChangeAt Go.RowKit Go.Joins Go.Proofs.Ytokglpdlhacnaaa

theorem own : ownKnob Try.prog.godebug = none := by kernel_rfl
theorem laidOut : laidOutB Try.prog = true := by kernel_rfl
theorem readable : ∀ t ∈ Try.f3.params.toList, Try.prog.readableRec t = true ∧ t < Try.prog.types.size := by
  have h : (Try.f3.params.toList.all fun t => Try.prog.readableRec t && decide (t < Try.prog.types.size)) = true := by kernel_rfl
  intro t ht
  have := List.all_eq_true.1 h t ht
  simpa using this

set_option maxRecDepth 100000 in
theorem lifted (os : Os) (started : os.Started) (H : Type) (enc : TypeId × Value → H) :
    ReturnsInHanded {} Try.checked os 3 .any (Rows.fnBoundsSpec.pre6 enc Try.prog Try.f3 Rows.fnBoundsRow.domain false) (Rows.fnBoundsSpec.post enc Try.prog Try.f3 false true false false) := by
  refine returnsInHanded_of_change (C := Try.checked) own started (by kernel_rfl) Try.func3
    (ChangeSpec.witness6 (enc := enc) (C := Try.checked) false ⟨#[], #[.slice none 0 0], []⟩ 8 (by kernel_rfl) (by kernel_rfl) (by kernel_rfl) (by kernel_rfl)) ?_
  intro W base args ds gs before hval0 hW hcnd _
  have hval : ∀ (j : Nat) t v, Try.f3.params[j]? = some t → args[j]? = some v → Value.okWide Try.prog W .any base t v := hval0
  have hW' := hW
  obtain ⟨p, q, hA0, hV, hbef, hfz, hnd⟩ := hW
  have hA : DataW.TrodAll enc Try.prog W 0 (fun _ => true) true Try.f3.params.toList args.toList ds p := hA0
  rw [Try.params3] at hA hval
  obtain ⟨v0, vs0, d0, ds0, p0, q0, hargs, rfl, rfl, h0, r0⟩ := trodAll_cons hA
  obtain ⟨rfl, rfl, rfl⟩ := trodAll_nil r0
  obtain rfl : args = #[v0] := by cases args; simp_all
  obtain ⟨rfl, rfl⟩ := trodVars_none hV
  obtain ⟨Aa0, na0, ka0, rfl⟩ := okWide_slice Try.underlying22 (hval 0 22 v0 rfl rfl)
  have hB0 := okWide_blk Try.underlying22 (hval 0 22 _ rfl rfl)
  obtain ⟨fuel0, hf0⟩ := h0
  obtain ⟨Aa0', na0', ka0', xa0, ee0, Sa0, la0, ma0⟩ := sb_of_trod (v := .slice Aa0 na0 ka0) Try.underlying22 Try.underlying5 (by kernel_rfl) (by simpa [Value.cells] using hf0)
  simp only [Value.slice.injEq] at ee0
  obtain ⟨rfl, rfl, rfl⟩ := ee0
  refine (lawBounds Aa0 na0 ka0 xa0 W Sa0 hB0 (by omega)).mono fun e W' ⟨he, hb⟩ => ?_
  subst he
  exact ⟨_, rfl, law_post laidOut readable rfl (by kernel_rfl) Try.underlying4 rfl rfl rfl hW' hb⟩

theorem proved : Rows.FnBoundsSaid :=
  OpenClaim.holds_of_wide 3 Try.f3 rfl rfl rfl rfl rfl rfl rfl ⟨rfl, rfl, rfl, rfl, rfl⟩ rfl rfl rfl rfl rfl (by kernel_rfl) Try.func3 (by kernel_rfl)
    (of_decide_eq_true (by kernel_rfl)) (by unfold Func.isWrapper; first | (rw [if_pos (by decide +kernel)]; kernel_rfl) | (rw [if_neg (by decide +kernel)]; exact ⟨rfl, rfl⟩))
    (fun os started H enc _ => lifted os started H enc)
end Go.Proofs.Ytokglpdlhacnaaa.lawBoundsRow
