/-
  For every input, FnExactRunWhile returns true, and each argument reads afterwards as it read before. No conditions.
-/
import Derived.Test.YtpleclmlcojkdaaPkRunWhile0
import Derived.Test.YtpleclmlcojkdaaRows
import Derived.Test.YtpleclmlcojkdaaOpenC
namespace Go.Proofs.Ytpleclmlcojkdaa.lawRunWhileRow
open Go.ChangeShapes Go.WideShapes Go.ChangeAt Go.RowKit Go.Joins Go.Proofs.Ytpleclmlcojkdaa

theorem own : ownKnob Try.prog.godebug = none := by kernel_rfl
theorem laidOut : laidOutB Try.prog = true := by kernel_rfl
theorem readable : ∀ t ∈ Try.f7.params.toList, Try.prog.readableRec t = true ∧ t < Try.prog.types.size := by
  have h : (Try.f7.params.toList.all fun t => Try.prog.readableRec t && decide (t < Try.prog.types.size)) = true := by kernel_rfl
  intro t ht
  have := List.all_eq_true.1 h t ht
  simpa using this

set_option maxRecDepth 100000 in
theorem lifted (os : Os) (started : os.Started) (H : Type) (enc : TypeId × Value → H) :
    ReturnsInHanded {} Try.checked os 7 .any (Rows.fnExactRunWhileSpec.pre6 enc Try.prog Try.f7 Rows.fnExactRunWhileRow.domain false) (Rows.fnExactRunWhileSpec.post enc Try.prog Try.f7 false true false false) := by
  refine returnsInHanded_of_change (C := Try.checked) own started (by kernel_rfl) Try.func7
    (ChangeSpec.witness6 (enc := enc) (C := Try.checked) false ⟨#[], #[.slice none 0 0, .slice none 0 0, .int .i64 0], []⟩ 8 (by kernel_rfl) (by kernel_rfl) (by kernel_rfl) (by kernel_rfl)) ?_
  intro W base args ds gs before hval0 hW hcnd _
  have hval : ∀ (j : Nat) t v, Try.f7.params[j]? = some t → args[j]? = some v → Value.okWide Try.prog W .any base t v := hval0
  have hW' := hW
  obtain ⟨p, q, hA0, hV, hbef, hfz, hnd⟩ := hW
  have hA : DataW.TrodAll enc Try.prog W 0 (fun _ => true) true Try.f7.params.toList args.toList ds p := hA0
  rw [Try.params7] at hA hval
  obtain ⟨v0, vs0, d0, ds0, p0, q0, hargs, rfl, rfl, h0, r0⟩ := trodAll_cons hA
  obtain ⟨v1, vs1, d1, ds1, p1, q1, rfl, rfl, rfl, h1, r1⟩ := trodAll_cons r0
  obtain ⟨v2, vs2, d2, ds2, p2, q2, rfl, rfl, rfl, h2, r2⟩ := trodAll_cons r1
  obtain ⟨rfl, rfl, rfl⟩ := trodAll_nil r2
  obtain rfl : args = #[v0, v1, v2] := by cases args; simp_all
  obtain ⟨rfl, rfl⟩ := trodVars_none hV
  obtain ⟨Aa0, na0, ka0, rfl⟩ := okWide_slice Try.underlying74 (hval 0 74 v0 rfl rfl)
  obtain ⟨fuel0, hf0⟩ := h0
  obtain ⟨Aa0', na0', ka0', xa0, ee0, Sa0, la0, ma0, hra0⟩ := sc_of_trod (v := .slice Aa0 na0 ka0) Try.underlying74 Try.underlying156 rfl rfl rfl rfl rfl rfl rfl rfl Try.underlying2 (by kernel_rfl) (by kernel_rfl) (by kernel_rfl) Try.underlying154 Try.underlying234 rfl rfl rfl rfl (by kernel_rfl) (by simpa [Value.cells] using hf0)
  simp only [Value.slice.injEq] at ee0
  obtain ⟨rfl, rfl, rfl⟩ := ee0
  obtain ⟨Aa1, na1, ka1, rfl⟩ := okWide_slice Try.underlying24 (hval 1 24 v1 rfl rfl)
  obtain ⟨fuel1, hf1⟩ := h1
  obtain ⟨Aa1', na1', ka1', xa1, ee1, Sa1, la1, ma1⟩ := bo_of_trod (v := .slice Aa1 na1 ka1) Try.underlying24 Try.underlying4 (by kernel_rfl) (by simpa [Value.cells] using hf1)
  simp only [Value.slice.injEq] at ee1
  obtain ⟨rfl, rfl, rfl⟩ := ee1
  obtain ⟨b2, rfl⟩ := okWide_int Try.underlying2 (hval 2 2 v2 rfl rfl)
  refine (lawRunWhile Aa0 na0 ka0 xa0 Aa1 na1 ka1 xa1 b2 W Sa0 Sa1 (by omega) hra0 (by omega)).mono fun e W' ⟨he, hb⟩ => ?_
  subst he
  exact ⟨_, rfl, law_post laidOut readable rfl (by kernel_rfl) Try.underlying4 rfl rfl rfl hW' hb⟩

set_option maxHeartbeats 8000000 in
theorem closed : joinedFacts Try.pinned.checked.prog 7 Try.f7 Rows.fnExactRunWhileSpec Rows.fnExactRunWhileRow = true := by
  unfold joinedFacts
  simp only [Bool.and_eq_true]
  repeat' (refine And.intro ?_ ?_)
  all_goals (as_aux_lemma => kernel_rfl)
theorem named : Try.pinned.checked.prog.funcNamed Rows.fnExactRunWhileRow.func = some 7 := by kernel_rfl
theorem instance_ : decide (Func.isInstance Try.pinned.checked.prog Try.f7 Rows.fnExactRunWhileRow.origin Rows.fnExactRunWhileRow.targs) = true := by kernel_rfl
set_option maxHeartbeats 8000000 in
theorem proved : Rows.FnExactRunWhileSaid :=
  OpenClaim.holds_of_wide 7 Try.f7 rfl rfl rfl rfl rfl rfl rfl ⟨rfl, rfl, rfl, rfl, rfl⟩ rfl rfl rfl rfl rfl named Try.func7 closed
    (of_decide_eq_true instance_) (by unfold Func.isWrapper; first | (rw [if_pos (by decide +kernel)]; kernel_rfl) | (rw [if_neg (by decide +kernel)]; exact ⟨rfl, rfl⟩))
    (fun os started H enc _ => lifted os started H enc)
end Go.Proofs.Ytpleclmlcojkdaa.lawRunWhileRow
