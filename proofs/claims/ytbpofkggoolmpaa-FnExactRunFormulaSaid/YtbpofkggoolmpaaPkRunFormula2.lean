/-
  For every input, FnExactRunFormula returns true, and each argument reads afterwards as it read before. No conditions.
-/
import Derived.Test.YtbpofkggoolmpaaPbFmAll21
import Derived.Test.YtbpofkggoolmpaaPkRunFormula1
import Derived.Test.YtbpofkggoolmpaaRows
namespace Go.Proofs.Ytbpofkggoolmpaa.lawRunFormulaRow
open Go.ChangeShapes Go.WideShapes Go.ChangeAt Go.RowKit Go.Joins Go.Proofs.Ytbpofkggoolmpaa

theorem own : ownKnob Try.prog.godebug = none := by kernel_rfl
theorem laidOut : laidOutB Try.prog = true := by kernel_rfl
theorem readable : ∀ t ∈ Try.f4.params.toList, Try.prog.readableRec t = true ∧ t < Try.prog.types.size := by
  have h : (Try.f4.params.toList.all fun t => Try.prog.readableRec t && decide (t < Try.prog.types.size)) = true := by kernel_rfl
  intro t ht
  have := List.all_eq_true.1 h t ht
  simpa using this

set_option maxRecDepth 100000 in
theorem lifted (os : Os) (started : os.Started) (H : Type) (enc : TypeId × Value → H) :
    ReturnsInHanded {} Try.checked os 4 .any (Rows.fnExactRunFormulaSpec.pre6 enc Try.prog Try.f4 Rows.fnExactRunFormulaRow.domain false) (Rows.fnExactRunFormulaSpec.post enc Try.prog Try.f4 false true false false) := by
  refine returnsInHanded_of_change (C := Try.checked) own started (by kernel_rfl) Try.func4
    (ChangeSpec.witness6 (enc := enc) (C := Try.checked) false ⟨#[], #[.agg #[.int .i64 0, .int .i64 0, .slice none 0 0], .agg #[.int .i64 0, .int .i64 0, .int .i64 0, .slice none 0 0, .slice none 0 0, .slice none 0 0], .int .i64 0], []⟩ 8 (by kernel_rfl) (by kernel_rfl) (by kernel_rfl) (by kernel_rfl)) ?_
  intro W base args ds gs before hval0 hW hcnd _
  have hval : ∀ (j : Nat) t v, Try.f4.params[j]? = some t → args[j]? = some v → Value.okWide Try.prog W .any base t v := hval0
  have hW' := hW
  obtain ⟨p, q, hA0, hV, hbef, hfz, hnd⟩ := hW
  have hA : DataW.TrodAll enc Try.prog W 0 (fun _ => true) true Try.f4.params.toList args.toList ds p := hA0
  rw [Try.params4] at hA hval
  obtain ⟨v0, vs0, d0, ds0, p0, q0, hargs, rfl, rfl, h0, r0⟩ := trodAll_cons hA
  obtain ⟨v1, vs1, d1, ds1, p1, q1, rfl, rfl, rfl, h1, r1⟩ := trodAll_cons r0
  obtain ⟨v2, vs2, d2, ds2, p2, q2, rfl, rfl, rfl, h2, r2⟩ := trodAll_cons r1
  obtain ⟨rfl, rfl, rfl⟩ := trodAll_nil r2
  obtain rfl : args = #[v0, v1, v2] := by cases args; simp_all
  obtain ⟨rfl, rfl⟩ := trodVars_none hV
  obtain ⟨c00, c01, c02, y00, y01, y02, nn0, rfl, _, _, e00, e01, e02⟩ := open_agg3 Try.underlying24 (by kernel_rfl) (by kernel_rfl) (hval 0 24 v0 rfl rfl) h0
  obtain ⟨z00, ez, _, _⟩ := DataW.trod_int Try.underlying2 e00
  simp only [List.cons.injEq, and_true] at ez
  subst ez
  obtain ⟨z01, ez, _, _⟩ := DataW.trod_int Try.underlying2 e01
  simp only [List.cons.injEq, and_true] at ez
  subst ez
  obtain ⟨A02, n02, k02, x02, rfl, S02, l02, m02⟩ := s3_of_trod Try.underlying22 Try.underlying232 rfl rfl rfl rfl rfl rfl Try.underlying2 (by kernel_rfl) (by kernel_rfl) e02
  obtain ⟨c10, c11, c12, c13, c14, c15, y10, y11, y12, y13, y14, y15, nn1, rfl, _, _, e10, e11, e12, e13, e14, e15⟩ := open_agg6 Try.underlying28 (by kernel_rfl) (by kernel_rfl) (hval 1 28 v1 rfl rfl) h1
  obtain ⟨z10, ez, _, _⟩ := DataW.trod_int Try.underlying2 e10
  simp only [List.cons.injEq, and_true] at ez
  subst ez
  obtain ⟨z11, ez, _, _⟩ := DataW.trod_int Try.underlying2 e11
  simp only [List.cons.injEq, and_true] at ez
  subst ez
  obtain ⟨z12, ez, _, _⟩ := DataW.trod_int Try.underlying2 e12
  simp only [List.cons.injEq, and_true] at ez
  subst ez
  obtain ⟨A13, n13, k13, x13, rfl, S13, l13, m13, hr13, _⟩ := sii_of_trod Try.underlying25 Try.underlying26 Try.underlying2 (by kernel_rfl) (by kernel_rfl) e13
  obtain ⟨A14, n14, k14, x14, rfl, S14, l14, m14, hr14, _⟩ := sii_of_trod Try.underlying25 Try.underlying26 Try.underlying2 (by kernel_rfl) (by kernel_rfl) e14
  obtain ⟨A15, n15, k15, x15, rfl, S15, l15, m15, _⟩ := si_of_trod Try.underlying26 Try.underlying2 (by kernel_rfl) e15
  obtain ⟨b2, rfl⟩ := okWide_int Try.underlying2 (hval 2 2 v2 rfl rfl)
  refine (lawRunFormula z00 z01 A02 n02 k02 x02 z10 z11 z12 A13 n13 k13 x13 A14 n14 k14 x14 A15 n15 k15 x15 b2 W S02 S13 S14 S15 (by omega) (by omega) (by omega) (by omega) (fun t ht => by have := hr13 t ht; omega) (fun t ht => by have := hr14 t ht; omega)).mono fun e W' ⟨he, hb⟩ => ?_
  subst he
  exact ⟨_, rfl, law_post laidOut readable rfl (by kernel_rfl) Try.underlying4 rfl rfl rfl hW' hb⟩

set_option maxHeartbeats 8000000 in
theorem closed : joinedFacts Try.pinned.checked.prog 4 Try.f4 Rows.fnExactRunFormulaSpec Rows.fnExactRunFormulaRow = true := by
  unfold joinedFacts
  simp only [Bool.and_eq_true]
  repeat' (refine And.intro ?_ ?_)
  all_goals (as_aux_lemma => kernel_rfl)
theorem named : Try.pinned.checked.prog.funcNamed Rows.fnExactRunFormulaRow.func = some 4 := by kernel_rfl
theorem instance_ : decide (Func.isInstance Try.pinned.checked.prog Try.f4 Rows.fnExactRunFormulaRow.origin Rows.fnExactRunFormulaRow.targs) = true := by kernel_rfl
set_option maxHeartbeats 8000000 in
theorem proved : Rows.FnExactRunFormulaSaid :=
  OpenClaim.holds_of_wide 4 Try.f4 rfl rfl rfl rfl rfl rfl rfl ⟨rfl, rfl, rfl, rfl, rfl⟩ rfl rfl rfl rfl rfl named Try.func4 closed
    (of_decide_eq_true instance_) (by unfold Func.isWrapper; first | (rw [if_pos (by decide +kernel)]; kernel_rfl) | (rw [if_neg (by decide +kernel)]; exact ⟨rfl, rfl⟩))
    (fun os started H enc _ => lifted os started H enc)
end Go.Proofs.Ytbpofkggoolmpaa.lawRunFormulaRow
