/-
  For every input, FnExactHeadTrack returns true, and each argument reads afterwards as it read before. No conditions.
-/
import Derived.Test.YthipbeggaeogcaaRows
import Derived.Test.YthipbeggaeogcaaOpen3
import Derived.Test.YthipbeggaeogcaaLawHeadTrack
namespace Go.Proofs.Ythipbeggaeogcaa.lawHeadTrackRow
open Go.ChangeShapes Go.WideShapes Go.ChangeAt Go.RowKit Go.Joins Go.Proofs.Ythipbeggaeogcaa

theorem own : ownKnob Try.prog.godebug = none := by kernel_rfl
theorem laidOut : laidOutB Try.prog = true := by kernel_rfl
theorem readable : ∀ t ∈ Try.f11.params.toList, Try.prog.readableRec t = true ∧ t < Try.prog.types.size := by
  have h : (Try.f11.params.toList.all fun t => Try.prog.readableRec t && decide (t < Try.prog.types.size)) = true := by kernel_rfl
  intro t ht
  have := List.all_eq_true.1 h t ht
  simpa using this

set_option maxRecDepth 100000 in
theorem lifted (os : Os) (started : os.Started) (H : Type) (enc : TypeId × Value → H) :
    ReturnsInHanded {} Try.checked os 11 .any (Rows.fnExactHeadTrackSpec.pre6 enc Try.prog Try.f11 Rows.fnExactHeadTrackRow.domain false) (Rows.fnExactHeadTrackSpec.post enc Try.prog Try.f11 false true false false) := by
  refine returnsInHanded_of_change (C := Try.checked) own started (by kernel_rfl) Try.func11
    (ChangeSpec.witness6 (enc := enc) (C := Try.checked) false ⟨#[], #[.agg #[.int .i64 0, .int .i64 0, .slice none 0 0], .int .i64 0], []⟩ 8 (by kernel_rfl) (by kernel_rfl) (by kernel_rfl) (by kernel_rfl)) ?_
  intro W base args ds gs before hval0 hW hcnd _
  have hval : ∀ (j : Nat) t v, Try.f11.params[j]? = some t → args[j]? = some v → Value.okWide Try.prog W .any base t v := hval0
  have hW' := hW
  obtain ⟨p, q, hA0, hV, hbef, hfz, hnd⟩ := hW
  have hA : DataW.TrodAll enc Try.prog W 0 (fun _ => true) true Try.f11.params.toList args.toList ds p := hA0
  rw [Try.params11] at hA hval
  obtain ⟨v0, vs0, d0, ds0, p0, q0, hargs, rfl, rfl, h0, r0⟩ := trodAll_cons hA
  obtain ⟨v1, vs1, d1, ds1, p1, q1, rfl, rfl, rfl, h1, r1⟩ := trodAll_cons r0
  obtain ⟨rfl, rfl, rfl⟩ := trodAll_nil r1
  obtain rfl : args = #[v0, v1] := by cases args; simp_all
  obtain ⟨rfl, rfl⟩ := trodVars_none hV
  obtain ⟨c00, c01, c02, y00, y01, y02, nn0, rfl, _, _, e00, e01, e02⟩ := open_agg3 Try.underlying77 (by kernel_rfl) (by kernel_rfl) (hval 0 77 v0 rfl rfl) h0
  obtain ⟨z00, ez, _, _⟩ := DataW.trod_int Try.underlying2 e00
  simp only [List.cons.injEq, and_true] at ez
  subst ez
  obtain ⟨z01, ez, _, _⟩ := DataW.trod_int Try.underlying2 e01
  simp only [List.cons.injEq, and_true] at ez
  subst ez
  obtain ⟨A02, n02, k02, x02, rfl, S02, l02, m02⟩ := s3_of_trod Try.underlying75 Try.underlying221 rfl rfl rfl rfl rfl rfl Try.underlying2 (by kernel_rfl) (by kernel_rfl) e02
  obtain ⟨b1, rfl⟩ := okWide_int Try.underlying2 (hval 1 2 v1 rfl rfl)
  refine (lawHeadTrack z00 z01 A02 n02 k02 x02 b1 W S02 (by omega)).mono fun e W' ⟨he, hb⟩ => ?_
  subst he
  exact ⟨_, rfl, law_post laidOut readable rfl (by kernel_rfl) Try.underlying4 rfl rfl rfl hW' hb⟩

theorem proved : Rows.FnExactHeadTrackSaid :=
  OpenClaim.holds_of_wide 11 Try.f11 rfl rfl rfl rfl rfl rfl rfl ⟨rfl, rfl, rfl, rfl, rfl⟩ rfl rfl rfl rfl rfl (by kernel_rfl) Try.func11 (by kernel_rfl)
    (of_decide_eq_true (by kernel_rfl)) (by unfold Func.isWrapper; first | (rw [if_pos (by decide +kernel)]; kernel_rfl) | (rw [if_neg (by decide +kernel)]; exact ⟨rfl, rfl⟩))
    (fun os started H enc _ => lifted os started H enc)
end Go.Proofs.Ythipbeggaeogcaa.lawHeadTrackRow
