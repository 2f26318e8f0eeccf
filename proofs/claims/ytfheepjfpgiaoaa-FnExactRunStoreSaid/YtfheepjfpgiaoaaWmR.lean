/-
  runTrees' deferred function: what it does where nothing panicked, and where a value was too large.
-/
import Derived.Test.YtfheepjfpgiaoaaWmS
import Derived.Test.YtfheepjfpgiaoaaTreK
import Derived.Recover
namespace Go.Proofs.Ytfheepjfpgiaoaa
open Go.RowKit

theorem idleT (p q r : Addr) (w : World) :
    CallsD Try.prog 153 #[.pointer (some p), .pointer (some q), .pointer (some r)] .returning w fun e u' w' => e = .returned (.tuple #[]) ∧ u' = .returning ∧ w' = w := by
  refine callsD_of_wpS Try.func153 rfl fun c₀ cs hu => ?_
  apply wpS_seq
  apply wpS_region
  simp [wpOpsS, go_sem, recoverD, hu, Try.ntmps153, Exit.thenS]
  refine wpS_of_wp ?_
  go_wp2_with fail
  cases c₀
  simp_all [bodyPostS, results, Try.results153]
set_option maxRecDepth 100000 in
theorem panicT (x y z : Nat) (v0 v1 v2 : Value) (w : World) (hx : Blk w x 2 #[v0]) (hy : Blk w y 4 #[v1]) (hz : Blk w z 2 #[v2]) (hxz : x ≠ z) :
    CallsD Try.prog 153 #[.pointer (some ⟨x, 0, none⟩), .pointer (some ⟨y, 0, none⟩), .pointer (some ⟨z, 0, none⟩)] (.panicking [{ v := .iface 226 (.agg #[]), recovered := false }]) w fun e u' w' =>
      e = .returned (.tuple #[]) ∧ u' = .panicking [{ v := .iface 226 (.agg #[]), recovered := true }] ∧ Blk w' x 2 #[.int .i64 0] ∧ Blk w' y 4 #[.bool false] ∧ Blk w' z 2 #[.int .i64 5] ∧ Hid (∀ lo w0, Below lo w0 w → lo ≤ x → lo ≤ y → lo ≤ z → Below lo w0 w') ∧ Hid (∀ b t cs, Blk w b t cs → t ≠ 2 → t ≠ 4 → Blk w' b t cs) := by
  have hxy : x ≠ y := hx.ne hy (by decide)
  have hyz : y ≠ z := hy.ne hz (by decide)
  have x0 : w.cell? ⟨x, 0, none⟩ = some v0 := hx.cell 0
  have y0 : w.cell? ⟨y, 0, none⟩ = some v1 := hy.cell 0
  have z0 : w.cell? ⟨z, 0, none⟩ = some v2 := hz.cell 0
  have fx := hx.frozen 0
  have fy := hy.frozen 0
  have fz := hz.frozen 0
  refine callsD_of_wpS Try.func153 rfl fun c₀ cs hu => ?_
  apply wpS_seq
  apply wpS_region
  simp [wpOpsS, go_sem, recoverD, hu, Try.ntmps153, Exit.thenS]
  refine wpS_of_wp ?_
  obtain ⟨W3, hW3⟩ : ∃ W3, W3 = ((w.setCell ⟨x, 0, none⟩ (.int .i64 0)).setCell ⟨y, 0, none⟩ (.bool false)).setCell ⟨z, 0, none⟩ (.int .i64 5) := ⟨_, rfl⟩
  have hx3 : Blk W3 x 2 #[.int .i64 0] := by
    rw [hW3]
    exact ((hx.set_ 0 (.int .i64 0)).far (p := ⟨y, 0, none⟩) hxy (.bool false)).far (p := ⟨z, 0, none⟩) hxz (.int .i64 5)
  have hy3 : Blk W3 y 4 #[.bool false] := by
    rw [hW3]
    exact ((hy.far (p := ⟨x, 0, none⟩) (Ne.symm hxy) (.int .i64 0)).set_ 0 (.bool false)).far (p := ⟨z, 0, none⟩) hyz (.int .i64 5)
  have hz3 : Blk W3 z 2 #[.int .i64 5] := by
    rw [hW3]
    exact ((hz.far (p := ⟨x, 0, none⟩) (Ne.symm hxz) (.int .i64 0)).far (p := ⟨y, 0, none⟩) (Ne.symm hyz) (.bool false)).set_ 0 (.int .i64 5)
  have hbel : ∀ lo w0, Below lo w0 w → lo ≤ x → lo ≤ y → lo ≤ z → Below lo w0 W3 := fun lo w0 h h1 h2 h3 => by
    rw [hW3]
    exact ((h.setCell (p := ⟨x, 0, none⟩) h1 _).setCell (p := ⟨y, 0, none⟩) h2 _).setCell (p := ⟨z, 0, none⟩) h3 _
  have hty : ∀ b t cs, Blk w b t cs → t ≠ 2 → t ≠ 4 → Blk W3 b t cs := fun b t cs hb h1 h2 => by
    rw [hW3]
    exact ((hb.far (p := ⟨x, 0, none⟩) (hb.ne hx h1) _).far (p := ⟨y, 0, none⟩) (hb.ne hy h2) _).far (p := ⟨z, 0, none⟩) (hb.ne hz h1) _
  have HF := Lib.hid (⟨hx3, hy3, hz3, Lib.hid hbel, Lib.hid hty⟩ : _ ∧ _ ∧ _ ∧ _ ∧ _)
  have HW3 := Lib.hid hW3
  clear hx3 hy3 hz3 hbel hty hx hy hz hW3
  go_wp2_with fail
  rw [← HW3.out]
  have HF2 := HF.out
  cases c₀
  simp_all [bodyPostS, results, Try.results153]
end Go.Proofs.Ytfheepjfpgiaoaa
