/-
  Contract of impl's treeOf.
-/
import Derived.Test.YtfheepjfpgiaoaaTreO
import Derived.Laws.EntriesVeiled
namespace Go.Proofs.Ytfheepjfpgiaoaa
open Go.RowKit

def TreeP (w : World) (t : Tr) (e : Ending) (w' : World) : Prop := ∃ p, e = .returned (.pointer p) ∧ TrAt w' t p ∧ Below w.heap.size w w'
set_option maxRecDepth 100000 in
set_option maxHeartbeats 2000000 in
theorem treeOf_any (A : Option Addr) (n c : Nat) (t : Tr) (w : World) (hx : SB w A n t.enc) (hn : n ≤ 2000) : Calls Try.prog 100 #[.slice A n c] w (TreeP w t) := by
  have hmf : ∀ (fn : Fn) (first cap : Array Value) (w : World), (Instr.makeFunc fn first cap).run Try.prog w = .ok (.func fn first cap) w := fun _ _ _ _ => rfl
  have hcall := Try.call186
  obtain ⟨W, hW_⟩ : ∃ W, W = ((w.alloc (.cells #[.slice A n c] 43)).alloc (.cells #[.int .i64 0] 3)).alloc (.cells #[.nilFunc] 132) := ⟨_, rfl⟩
  have s_1 : (w.alloc (.cells #[.slice A n c] 43)).heap.size = w.heap.size + 1 := by simp
  have s_2 : ((w.alloc (.cells #[.slice A n c] 43)).alloc (.cells #[.int .i64 0] 3)).heap.size = w.heap.size + 1 + 1 := by simp
  have b0 : Blk W w.heap.size 43 #[.slice A n c] := by rw [hW_]; exact ((Blk.new w _ _).alloc _).alloc _
  have b1 : Blk W (w.heap.size + 1) 3 #[.int .i64 0] := by rw [hW_, ← s_1]; exact (Blk.new _ _ _).alloc _
  have b2 : Blk W (w.heap.size + 1 + 1) 132 #[.nilFunc] := by rw [hW_, ← s_2]; exact Blk.new _ _ _
  have y0 : Below w.heap.size w W := by rw [hW_]; exact (((Below.refl _ _).alloc (Nat.le_refl _) _).alloc (by simp) _).alloc (by simp; omega) _
  have HW := Lib.hid hW_
  clear hW_ s_1 s_2
  have c2 : W.cell? ⟨w.heap.size + 1 + 1, 0, none⟩ = some .nilFunc := b2.cell 0
  have f2 := b2.frozen 0
  obtain ⟨F, hF⟩ : ∃ F, F = Value.func (.func 186) #[] #[.pointer (some ⟨w.heap.size, 0, none⟩), .pointer (some ⟨w.heap.size + 1, 0, none⟩), .pointer (some ⟨w.heap.size + 1 + 1, 0, none⟩)] := ⟨_, rfl⟩
  obtain ⟨V, hV⟩ : ∃ V, V = W.setCell ⟨w.heap.size + 1 + 1, 0, none⟩ F := ⟨_, rfl⟩
  have y1 : Below w.heap.size w V := by rw [hV]; exact y0.setCell (p := ⟨w.heap.size + 1 + 1, 0, none⟩) (by simp; omega) _
  have v0 : Blk V w.heap.size 43 #[.slice A n c] := by rw [hV]; exact b0.far (p := ⟨w.heap.size + 1 + 1, 0, none⟩) (by simp; omega) _
  have v1 : Blk V (w.heap.size + 1) 3 #[.int .i64 ((0 : Nat) : Int)] := by rw [hV]; exact b1.far (p := ⟨w.heap.size + 1 + 1, 0, none⟩) (by simp) _
  have v2 : Blk V (w.heap.size + 1 + 1) 132 #[F] := by rw [hV]; exact b2.set_ 0 F
  have q2 : V.cell? ⟨w.heap.size + 1 + 1, 0, none⟩ = some F := v2.cell 0
  have hI : BuildI V A n c t.enc w.heap.size (w.heap.size + 1) (w.heap.size + 1 + 1) 0 := ⟨hx.below y1, fun e => by
      rcases Nat.eq_zero_or_pos n with h0 | h0
      · have h1 := hx.len
        rw [enc_len] at h1
        have := nodes_pos t; omega
      · obtain ⟨b, g, off, _, rfl, hb, _⟩ := hx.pick h0
        have e2 : g = w.heap.size + 1 := Option.some.inj e
        omega, v0, v1, hF ▸ v2⟩
  have HB := Lib.hid (build_any A n c w.heap.size (w.heap.size + 1) (w.heap.size + 1 + 1) t.enc hn t [] 0 V (by rw [List.drop_zero, List.append_nil]) hI)
  have HV := Lib.hid hV
  have HFF := Lib.hid hF
  have HY := Lib.hid y1
  clear hI v0 v1 v2 b0 b1 b2 hV y1
  go_enter Try.func100, Try.ntmps100
  go_upto_region 3 with fail
  rw [← HW.out]
  go_upto_region 4 with fail
  rw [← HFF.out, ← HV.out]
  rw [hF] at q2
  clear hF
  go_wp2_with fail
  refine HB.out.mono ?_
  rintro e W4 ⟨p, rfl, hp, _, z⟩
  go_wp2_with fail
  go_ret
  exact ⟨p, rfl, hp, z.below HY.out (by omega)⟩
end Go.Proofs.Ytfheepjfpgiaoaa
