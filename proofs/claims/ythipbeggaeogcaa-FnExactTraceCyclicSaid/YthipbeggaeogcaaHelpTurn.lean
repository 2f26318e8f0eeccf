/-
  Contracts of the laws' helpers over Turn: szTurn, toTurn, eqTurn, markTurn.
-/
import Derived.Test.YthipbeggaeogcaaHelpP
import Derived.BigGuardPart
namespace Go.Proofs.Ythipbeggaeogcaa
open Go.RowKit

set_option maxHeartbeats 400000 in
theorem szTurn_any (d0 : Int) (A0 : Option Addr) (n0 c0 : Nat) (left : Int) (w : World) (h0 : n0 ≤ 9223372036854775807) (g0 : 0 ≤ left) (g1 : left ≤ 1048576) :
    Calls Try.prog 15 #[.agg #[.int .i64 d0, .slice A0 n0 c0], .int .i64 left] w (SzP w left ((n0 : Int))) := by
  obtain ⟨W, hW⟩ : ∃ W, W = w.alloc (.cells #[.int .i64 d0, .slice A0 n0 c0] 27) := ⟨_, rfl⟩
  have b0 : Blk W w.heap.size 27 #[.int .i64 d0, .slice A0 n0 c0] := by rw [hW]; exact Blk.new w _ _
  have z0 : Below w.heap.size w W := by rw [hW]; exact (Below.refl _ _).alloc (Nat.le_refl _) _
  have HW := Lib.hid hW
  clear hW
  go_enter Try.func15, Try.ntmps15
  go_wp2_with fail
  rw [← HW.out]
  refine (szI_p A0 n0 c0 left W h0 (by omega) (by omega)).mono ?_
  rintro e w1 ⟨z1, rfl, l1, u1, e1, b1⟩
  have E1 := Lib.hid e1
  clear e1
  have y1 : Below w.heap.size w w1 := z0.trans (b1.mono z0.size)
  by_cases hneg1 : z1 < 0
  · go_wp2_with fail
    go_ret
    exact ⟨-1, rfl, by omega, by omega, by omega, y1⟩
  go_wp2_with fail
  go_ret
  exact ⟨z1, rfl, by omega, by omega, fun _ => by have t1 := E1.out (by omega); omega, y1⟩

def ToTurn (w : World) (d0 : Int) (n0 : Nat) (x0 : List Int) (e : Ending) (w' : World) : Prop :=
  ∃ B0, e = .returned (.agg #[.int .i64 d0, .slice B0 n0 n0]) ∧ Own w' w.heap.size 2 1 B0 n0 n0 (ints x0) ∧ Below w.heap.size w w'

set_option maxHeartbeats 1000000 in
theorem toTurn_any (d0 : Int) (A0 : Option Addr) (n0 c0 : Nat) (x0 : List Int) (w : World) (r0 : SI w A0 n0 x0) (h0 : n0 ≤ 1048576) :
    Calls Try.prog 18 #[.agg #[.int .i64 d0, .slice A0 n0 c0]] w (ToTurn w d0 n0 x0) := by
  obtain ⟨W, hW⟩ : ∃ W, W = ((w.alloc (.cells #[.int .i64 d0, .slice A0 n0 c0] 27)).alloc (.cells #[.int .i64 0, .slice none 0 0] 30)).alloc (.cells #[.int .i64 d0, .slice none 0 0] 30) := ⟨_, rfl⟩
  have s1 : (w.alloc (.cells #[.int .i64 d0, .slice A0 n0 c0] 27)).heap.size = w.heap.size + 1 := by simp
  have s2 : ((w.alloc (.cells #[.int .i64 d0, .slice A0 n0 c0] 27)).alloc (.cells #[.int .i64 0, .slice none 0 0] 30)).heap.size = w.heap.size + 1 + 1 := by simp
  have b0 : Blk W w.heap.size 27 #[.int .i64 d0, .slice A0 n0 c0] := by rw [hW]; exact ((Blk.new w _ _).alloc _).alloc _
  have b1 : Blk W (w.heap.size + 1) 30 #[.int .i64 0, .slice none 0 0] := by rw [hW, ← s1]; exact (Blk.new _ _ _).alloc _
  have b2 : Blk W (w.heap.size + 1 + 1) 30 #[.int .i64 d0, .slice none 0 0] := by rw [hW, ← s2]; exact Blk.new _ _ _
  have y0 : Below w.heap.size w W := by rw [hW]; exact (((Below.refl _ _).alloc (Nat.le_refl _) _).alloc (by simp) _).alloc (by simp; omega) _
  have hz : w.heap.size + 1 + 1 < W.heap.size := b2.lt
  have HW := Lib.hid hW
  clear hW s1 s2
  go_enter Try.func18, Try.ntmps18
  go_wp2_with fail
  rw [← HW.out]
  clear HW
  refine (toI _ _ _ x0 _ (r0.below y0) h0).mono ?_
  rintro e w0 ⟨B0, rfl, o0, bz0⟩
  have b0 := b0.below' bz0
  have b1 := b1.below' bz0
  have b2 := b2.below' bz0
  have yc0 : Below w.heap.size w w0 := y0.trans (bz0.mono y0.size)
  have hw0 : W.heap.size ≤ w0.heap.size := by have := bz0.size; omega
  have p0 : w0.cell? ⟨w.heap.size + 1 + 1, 1, none⟩ = some (.slice none 0 0) := b2.cell 1
  have pf0 := b2.frozen 1
  have a0 : w0.cell? ⟨w.heap.size + 1 + 1, 0, none⟩ = some (.int .i64 d0) := b2.cell 0
  have c0_ : w0.cell? ⟨w.heap.size + 1, 0, none⟩ = some (.int .i64 0) := b1.cell 0
  have f0_ := b1.frozen 0
  have c1_ : w0.cell? ⟨w.heap.size + 1, 1, none⟩ = some (.slice none 0 0) := b1.cell 1
  have f1_ := b1.frozen 1
  go_wp2_with fail
  have dB : Blk (((w0.setCell ⟨w.heap.size + 1 + 1, 1, none⟩ (.slice B0 n0 n0)).setCell ⟨w.heap.size + 1, 0, none⟩ (.int .i64 d0)).setCell ⟨w.heap.size + 1, 1, none⟩ (.slice B0 n0 n0)) (w.heap.size + 1) 30 #[.int .i64 d0, .slice B0 n0 n0] := ((b1.far (p := ⟨w.heap.size + 1 + 1, 1, none⟩) (by simp) _).set_ 0 _).set_ 1 _
  have m0 : Own (((w0.setCell ⟨w.heap.size + 1 + 1, 1, none⟩ (.slice B0 n0 n0)).setCell ⟨w.heap.size + 1, 0, none⟩ (.int .i64 d0)).setCell ⟨w.heap.size + 1, 1, none⟩ (.slice B0 n0 n0)) W.heap.size 2 1 B0 n0 n0 (ints x0) := ((o0.far (fun e => by have := o0.blk_ge _ e; simp at this; omega) _).far (fun e => by have := o0.blk_ge _ e; simp at this; omega) _).far (fun e => by have := o0.blk_ge _ e; simp at this; omega) _
  have yf : Below w.heap.size w (((w0.setCell ⟨w.heap.size + 1 + 1, 1, none⟩ (.slice B0 n0 n0)).setCell ⟨w.heap.size + 1, 0, none⟩ (.int .i64 d0)).setCell ⟨w.heap.size + 1, 1, none⟩ (.slice B0 n0 n0)) := ((yc0.setCell (by simp; omega) _).setCell (by simp) _).setCell (by simp) _
  generalize ((w0.setCell ⟨w.heap.size + 1 + 1, 1, none⟩ (.slice B0 n0 n0)).setCell ⟨w.heap.size + 1, 0, none⟩ (.int .i64 d0)).setCell ⟨w.heap.size + 1, 1, none⟩ (.slice B0 n0 n0) = wf at *
  have g0_ : wf.cell? ⟨w.heap.size + 1, 0, none⟩ = some (.int .i64 d0) := dB.cell 0
  have g1_ : wf.cell? ⟨w.heap.size + 1, 1, none⟩ = some (.slice B0 n0 n0) := dB.cell 1
  have hres : ToTurn w d0 n0 x0 (.returned (.agg #[.int .i64 d0, .slice B0 n0 n0])) wf := ⟨B0, rfl, m0.mono (by omega), yf⟩
  exact bodyPost_ret (v := .agg #[.int .i64 d0, .slice B0 n0 n0]) (by simp [results, Try.results18, go_sem, g0_, g1_]) rfl hres

def sameTurnB (d0 d0' : Int) (x0 x0' : List Int) : Bool :=
  decide (d0 = d0') && sameI x0 x0'
theorem sameTurnB_self (d0 : Int) (x0 : List Int) : sameTurnB d0 d0 x0 x0 = true := by simp [sameTurnB, sameI]

set_option maxHeartbeats 1000000 in
theorem eqTurn_any (d0 : Int) (A0 : Option Addr) (n0 c0 : Nat) (x0 : List Int) (d0' : Int) (A0' : Option Addr) (n0' c0' : Nat) (x0' : List Int) (w : World) (r0 : SI w A0 n0 x0) (r0' : SI w A0' n0' x0') (h0 : n0 ≤ 1048576) :
    Calls Try.prog 20 #[.agg #[.int .i64 d0, .slice A0 n0 c0], .agg #[.int .i64 d0', .slice A0' n0' c0']] w fun e w' => e = .returned (.bool (sameTurnB d0 d0' x0 x0')) ∧ Below w.heap.size w w' := by
  obtain ⟨W, hW⟩ : ∃ W, W = (w.alloc (.cells #[.int .i64 d0, .slice A0 n0 c0] 30)).alloc (.cells #[.int .i64 d0', .slice A0' n0' c0'] 30) := ⟨_, rfl⟩
  have s1 : (w.alloc (.cells #[.int .i64 d0, .slice A0 n0 c0] 30)).heap.size = w.heap.size + 1 := by simp
  have b0 : Blk W w.heap.size 30 #[.int .i64 d0, .slice A0 n0 c0] := by rw [hW]; exact (Blk.new w _ _).alloc _
  have b1 : Blk W (w.heap.size + 1) 30 #[.int .i64 d0', .slice A0' n0' c0'] := by rw [hW, ← s1]; exact Blk.new _ _ _
  have y0 : Below w.heap.size w W := by rw [hW]; exact ((Below.refl _ _).alloc (Nat.le_refl _) _).alloc (by simp) _
  have HW := Lib.hid hW
  clear hW s1
  cases hd_d0 : (d0 != d0')
  · skip
    have HD_d0 := Lib.hid (show d0 = d0' by simpa using hd_d0)
    go_enter Try.func20, Try.ntmps20
    go_wp2_with fail
    rw [← HW.out]
    clear hd_d0
    refine (eqI _ _ _ _ _ _ x0 x0' _ (r0.below y0) (r0'.below y0) (by omega)).mono ?_
    rintro e w0' ⟨rfl, q0, rfl⟩
    have bz0 : Below W.heap.size W (W.drewN q0) := below_drewN (Below.refl _ _) _
    generalize W.drewN q0 = w0 at *
    have yy0 : Below w.heap.size w w0 := y0.trans (bz0.mono y0.size)
    have b0 := b0.below' bz0
    have b1 := b1.below' bz0
    cases hs0 : sameI x0 x0'
    · have HS := Lib.hid hs0
      clear hs0
      go_wp2_with fail
      go_ret
      exact ⟨ret_bool (by unfold sameTurnB; rw [HS.out]; simp), yy0⟩
    · skip
      have HS0 := Lib.hid hs0
      clear hs0
      go_wp2_with fail
      go_ret
      exact ⟨ret_bool (by unfold sameTurnB; rw [HS0.out]; simp [HD_d0.out]), yy0⟩
  · have HD := Lib.hid (show ¬ d0 = d0' by simpa using hd_d0)
    go_enter Try.func20, Try.ntmps20
    go_wp2_with fail
    rw [← HW.out]
    go_ret
    exact ⟨ret_bool (by unfold sameTurnB; simp [HD.out]), y0⟩

set_option maxHeartbeats 400000 in
theorem markTurn_m (T : List TypeId) (d0 : Int) (A0 : Option Addr) (n0 c0 : Nat) (p : Int) (w : World) (lo hi : Nat) (m0 : Mk w lo hi 2 1 A0 n0) (h0 : n0 ≤ 1048576) (tI : 2 ∈ T) (tX : 30 ∉ T) (g0 : 0 ≤ p) (g1 : p ≤ 9223372036800000000) :
    Calls Try.prog 23 #[.agg #[.int .i64 d0, .slice A0 n0 c0], .int .i64 p] w (MarkP T w lo hi (n0) p) := by
  obtain ⟨W, hW⟩ : ∃ W, W = w.alloc (.cells #[.int .i64 d0, .slice A0 n0 c0] 30) := ⟨_, rfl⟩
  have b0 : Blk W w.heap.size 30 #[.int .i64 d0, .slice A0 n0 c0] := by rw [hW]; exact Blk.new w _ _
  have z0 : Below w.heap.size w W := by rw [hW]; exact (Below.refl _ _).alloc (Nat.le_refl _) _
  have HW := Lib.hid hW
  clear hW
  have TI := Lib.hid tI
  have TX := Lib.hid tX
  clear tI tX
  go_enter Try.func23, Try.ntmps23
  have f0 : MkF T lo hi w W := MkF.of_below z0
  go_wp2_with fail
  rw [← HW.out]
  refine (markI_m T _ _ _ _ _ lo hi (m0.mkf f0) TI.out (by omega) (by omega)).mono ?_
  rintro e w0 ⟨rfl, ff0⟩
  have f1 := f0.trans ff0
  have b0 := b0.mkf ff0 TX.out
  go_wp2_with fail
  go_ret
  exact ⟨ret_int (by omega), f1⟩
end Go.Proofs.Ythipbeggaeogcaa
