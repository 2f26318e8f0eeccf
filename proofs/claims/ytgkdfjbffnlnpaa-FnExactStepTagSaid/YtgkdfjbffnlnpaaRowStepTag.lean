/-
  For every input, FnExactStepTag returns true, and each argument reads afterwards as it read before. No conditions.
-/
import Derived.Test.YtgkdfjbffnlnpaaRows
import Derived.Test.YtgkdfjbffnlnpaaOpen
import Derived.Test.YtgkdfjbffnlnpaaLawStepTag
namespace Go.Proofs.Ytgkdfjbffnlnpaa.lawStepTagRow
open Go.ChangeShapes Go.WideShapes Go.ChangeAt Go.RowKit Go.Joins Go.Proofs.Ytgkdfjbffnlnpaa

theorem own : ownKnob Try.prog.godebug = none := by kernel_rfl
theorem laidOut : laidOutB Try.prog = true := by kernel_rfl
theorem readable : ∀ t ∈ Try.f3.params.toList, Try.prog.readableRec t = true ∧ t < Try.prog.types.size := by
  have h : (Try.f3.params.toList.all fun t => Try.prog.readableRec t && decide (t < Try.prog.types.size)) = true := by kernel_rfl
  intro t ht
  have := List.all_eq_true.1 h t ht
  simpa using this

set_option maxRecDepth 100000 in
theorem lifted (os : Os) (started : os.Started) (H : Type) (enc : TypeId × Value → H) :
    ReturnsInHanded {} Try.checked os 3 .any (Rows.fnExactStepTagSpec.pre6 enc Try.prog Try.f3 Rows.fnExactStepTagRow.domain false) (Rows.fnExactStepTagSpec.post enc Try.prog Try.f3 false true false false) := by
  refine returnsInHanded_of_change (C := Try.checked) own started (by kernel_rfl) Try.func3
    (ChangeSpec.witness6 (enc := enc) (C := Try.checked) false ⟨#[], #[.agg #[.int .i64 0, .slice none 0 0, .slice none 0 0], .slice none 0 0], []⟩ 8 (by kernel_rfl) (by kernel_rfl) (by kernel_rfl) (by kernel_rfl)) ?_
  intro W base args ds gs before hval0 hW hcnd _
  have hval : ∀ (j : Nat) t v, Try.f3.params[j]? = some t → args[j]? = some v → Value.okWide Try.prog W .any base t v := hval0
  have hW' := hW
  obtain ⟨p, q, hA0, hV, hbef, hfz, hnd⟩ := hW
  have hA : DataW.TrodAll enc Try.prog W 0 (fun _ => true) true Try.f3.params.toList args.toList ds p := hA0
  rw [Try.params3] at hA hval
  obtain ⟨v0, vs0, d0, ds0, p0, q0, hargs, rfl, rfl, h0, r0⟩ := trodAll_cons hA
  obtain ⟨v1, vs1, d1, ds1, p1, q1, rfl, rfl, rfl, h1, r1⟩ := trodAll_cons r0
  obtain ⟨rfl, rfl, rfl⟩ := trodAll_nil r1
  obtain rfl : args = #[v0, v1] := by cases args; simp_all
  obtain ⟨rfl, rfl⟩ := trodVars_none hV
  obtain ⟨c0, c1, c2, y0, y1, y2, n0, rfl, _, _, e0, e1, e2⟩ := open_agg3 Try.underlying25 (by kernel_rfl) (by kernel_rfl) (hval 0 25 v0 rfl rfl) h0
  obtain ⟨z, ez, _, _⟩ := DataW.trod_int Try.underlying2 e0
  simp only [List.cons.injEq, and_true] at ez
  subst ez
  obtain ⟨A1, n1, k1, ts, rfl, S1, l1, l1', l1'', _⟩ := sii_of_trod Try.underlying22 Try.underlying23 Try.underlying2 (by kernel_rfl) (by kernel_rfl) e1
  obtain ⟨A2, n2, k2, hs, rfl, S2, l2, l2', _⟩ := si_of_trod Try.underlying23 Try.underlying2 (by kernel_rfl) e2
  obtain ⟨A3, n3, k3, rfl⟩ := okWide_slice Try.underlying23 (hval 1 23 v1 rfl rfl)
  obtain ⟨fuel, hf⟩ := h1
  obtain ⟨A3', n3', k3', xs, e3, S3, l3, l3', _⟩ := si_of_trod (v := .slice A3 n3 k3) Try.underlying23 Try.underlying2 (by kernel_rfl) (by simpa [Value.cells] using hf)
  simp only [Value.slice.injEq] at e3
  obtain ⟨rfl, rfl, rfl⟩ := e3
  refine (lawStepTag z A1 n1 k1 ts A2 n2 k2 hs A3 n3 k3 xs W S1 S2 S3 (by omega) (by omega) (by omega) (fun t ht => by have := l1'' t ht; omega)).mono fun e W' ⟨he, hb⟩ => ?_
  subst he
  exact ⟨_, rfl, law_post laidOut readable rfl (by kernel_rfl) Try.underlying4 rfl rfl rfl hW' hb⟩

theorem proved : Rows.FnExactStepTagSaid :=
  OpenClaim.holds_of_wide 3 Try.f3 rfl rfl rfl rfl rfl rfl rfl ⟨rfl, rfl, rfl, rfl, rfl⟩ rfl rfl rfl rfl rfl (by kernel_rfl) Try.func3 (by kernel_rfl)
    (of_decide_eq_true (by kernel_rfl)) (by unfold Func.isWrapper; first | (rw [if_pos (by decide +kernel)]; kernel_rfl) | (rw [if_neg (by decide +kernel)]; exact ⟨rfl, rfl⟩))
    (fun os started H enc _ => lifted os started H enc)
end Go.Proofs.Ytgkdfjbffnlnpaa.lawStepTagRow
