/-
  Contracts of the laws' helpers over Proof: szProof, toProof, eqProof, markProof.
-/
import Derived.Test.YtpnkelmmfcmijaaPbHelpFB6
import Derived.BigGuardPart
namespace Go.Proofs.Ytpnkelmmfcmijaa
open Go.RowKit

set_option maxHeartbeats 400000 in
theorem szProof_any (d0 : Int) (A0 : Option Addr) (n0 c0 : Nat) (A1 : Option Addr) (n1 c1 : Nat) (x1 : List Sl) (left : Int) (w : World) (h0 : n0 ≤ 9223372036854775807) (h1 : n1 ≤ 9223372036854775807) (r1 : SII w A1 n1 x1) (hr1 : ∀ t ∈ x1, t.xs.length ≤ 9223372036854775807) (g0 : 0 ≤ left) (g1 : left ≤ 1048576) :
    Calls Try.prog 12 #[.agg #[.int .i64 d0, .slice A0 n0 c0, .slice A1 n1 c1], .int .i64 left] w (SzP w left ((n0 : Int) + ((n1 + total x1 : Nat) : Int))) := by
  obtain ⟨W, hW⟩ : ∃ W, W = w.alloc (.cells #[.int .i64 d0, .slice A0 n0 c0, .slice A1 n1 c1] 28) := ⟨_, rfl⟩
  have b0 : Blk W w.heap.size 28 #[.int .i64 d0, .slice A0 n0 c0, .slice A1 n1 c1] := by rw [hW]; exact Blk.new w _ _
  have z0 : Below w.heap.size w W := by rw [hW]; exact (Below.refl _ _).alloc (Nat.le_refl _) _
  have HW := Lib.hid hW
  clear hW
  go_enter Try.func12, Try.ntmps12
  go_wp2_with fail
  rw [← HW.out]
  refine (szI_p A0 n0 c0 left W h0 (by omega) (by omega)).mono ?_
  rintro e w1 ⟨z1, rfl, l1, u1, e1, b1⟩
  have E1 := Lib.hid e1
  clear e1
  have y1 : Below w.heap.size w w1 := z0.trans (b1.mono z0.size)
  have q1 : w1.cell? ⟨w.heap.size, 2, none⟩ = some (.slice A1 n1 c1) := (b1.cell (p := ⟨w.heap.size, 2, none⟩) (b0.lt)).trans (b0.cell 2)
  by_cases hneg1 : z1 < 0
  · go_wp2_with fail
    go_ret
    exact ⟨-1, rfl, by omega, by omega, by omega, y1⟩
  have b0 := b0.below' b1
  clear q1
  have q1 : w1.cell? ⟨w.heap.size, 2, none⟩ = some (.slice A1 n1 c1) := b0.cell 2
  go_wp2_with fail
  refine (szII_p A1 n1 c1 x1 z1 w1 (r1.below y1) h1 hr1 (by omega) (by omega)).mono ?_
  rintro e w2 ⟨z2, rfl, l2, u2, e2, b2⟩
  have E2 := Lib.hid e2
  clear e2
  have y2 : Below w.heap.size w w2 := y1.trans (b2.mono y1.size)
  by_cases hneg2 : z2 < 0
  · go_wp2_with fail
    go_ret
    exact ⟨-1, rfl, by omega, by omega, by omega, y2⟩
  go_wp2_with fail
  go_ret
  exact ⟨z2, rfl, by omega, by omega, fun _ => by have t1 := E1.out (by omega); have t2 := E2.out (by omega); omega, y2⟩

def ToProof (w : World) (d0 : Int) (n0 : Nat) (x0 : List Int) (n1 : Nat) (x1 : List (List Int)) (e : Ending) (w' : World) : Prop :=
  ∃ B0 B1 us1, e = .returned (.agg #[.int .i64 d0, .slice B0 n0 n0, .slice B1 n1 n1]) ∧ Own w' w.heap.size 2 1 B0 n0 n0 (ints x0) ∧ OII w' w.heap.size 25 2 B1 n1 n1 us1 ∧ nums us1 = x1 ∧ Below w.heap.size w w'

set_option maxHeartbeats 1000000 in
theorem toProof_any (d0 : Int) (A0 : Option Addr) (n0 c0 : Nat) (x0 : List Int) (A1 : Option Addr) (n1 c1 : Nat) (x1 : List Sl) (w : World) (r0 : SI w A0 n0 x0) (h0 : n0 ≤ 1048576) (r1 : SII w A1 n1 x1) (h1 : n1 ≤ 1048576) (hr1 : ∀ t ∈ x1, t.xs.length ≤ 1048576) :
    Calls Try.prog 15 #[.agg #[.int .i64 d0, .slice A0 n0 c0, .slice A1 n1 c1]] w (ToProof w d0 n0 x0 n1 (nums x1)) := by
  obtain ⟨W, hW⟩ : ∃ W, W = ((w.alloc (.cells #[.int .i64 d0, .slice A0 n0 c0, .slice A1 n1 c1] 28)).alloc (.cells #[.int .i64 0, .slice none 0 0, .slice none 0 0] 39)).alloc (.cells #[.int .i64 d0, .slice none 0 0, .slice none 0 0] 39) := ⟨_, rfl⟩
  have s1 : (w.alloc (.cells #[.int .i64 d0, .slice A0 n0 c0, .slice A1 n1 c1] 28)).heap.size = w.heap.size + 1 := by simp
  have s2 : ((w.alloc (.cells #[.int .i64 d0, .slice A0 n0 c0, .slice A1 n1 c1] 28)).alloc (.cells #[.int .i64 0, .slice none 0 0, .slice none 0 0] 39)).heap.size = w.heap.size + 1 + 1 := by simp
  have b0 : Blk W w.heap.size 28 #[.int .i64 d0, .slice A0 n0 c0, .slice A1 n1 c1] := by rw [hW]; exact ((Blk.new w _ _).alloc _).alloc _
  have b1 : Blk W (w.heap.size + 1) 39 #[.int .i64 0, .slice none 0 0, .slice none 0 0] := by rw [hW, ← s1]; exact (Blk.new _ _ _).alloc _
  have b2 : Blk W (w.heap.size + 1 + 1) 39 #[.int .i64 d0, .slice none 0 0, .slice none 0 0] := by rw [hW, ← s2]; exact Blk.new _ _ _
  have y0 : Below w.heap.size w W := by rw [hW]; exact (((Below.refl _ _).alloc (Nat.le_refl _) _).alloc (by simp) _).alloc (by simp; omega) _
  have hz : w.heap.size + 1 + 1 < W.heap.size := b2.lt
  have HW := Lib.hid hW
  clear hW s1 s2
  go_enter Try.func15, Try.ntmps15
  go_wp2_with fail
  rw [← HW.out]
  clear HW
  refine (toI _ _ _ x0 _ (r0.below y0) h0).mono ?_
  rintro e w0 ⟨B0, rfl, o0, bz0⟩
  have b0 := b0.below' bz0
  have b1 := b1.below' bz0
  have b2 := b2.below' bz0
  have yc0 : Below w.heap.size w w0 := y0.trans (bz0.mono y0.size)
  have hw0 : W.heap.size ≤ w0.heap.size := by have := bz0.size; omega
  have p0 : w0.cell? ⟨w.heap.size + 1 + 1, 1, none⟩ = some (.slice none 0 0) := b2.cell 1
  have pf0 := b2.frozen 1
  have pn0 : w0.cell? ⟨w.heap.size, 2, none⟩ = some (.slice A1 n1 c1) := b0.cell 2
  go_wp2_with fail
  have b2 : Blk (w0.setCell ⟨w.heap.size + 1 + 1, 1, none⟩ (.slice B0 n0 n0)) (w.heap.size + 1 + 1) 39 #[.int .i64 d0, .slice B0 n0 n0, .slice none 0 0] := b2.set_ 1 _
  have b1 := b1.far (p := ⟨w.heap.size + 1 + 1, 1, none⟩) (by simp) (.slice B0 n0 n0)
  have b0 := b0.far (p := ⟨w.heap.size + 1 + 1, 1, none⟩) (by simp; omega) (.slice B0 n0 n0)
  have o0 := o0.far (p := ⟨w.heap.size + 1 + 1, 1, none⟩) (fun e => by have := o0.blk_ge _ e; simp at this; omega) (.slice B0 n0 n0)
  have y1 : Below w.heap.size w (w0.setCell ⟨w.heap.size + 1 + 1, 1, none⟩ (.slice B0 n0 n0)) := yc0.setCell (by simp; omega) _
  have hz1 : W.heap.size ≤ (w0.setCell ⟨w.heap.size + 1 + 1, 1, none⟩ (.slice B0 n0 n0)).heap.size := by have := hw0; simpa [World.setCell] using this
  generalize w0.setCell ⟨w.heap.size + 1 + 1, 1, none⟩ (.slice B0 n0 n0) = v1 at *
  refine (toII _ _ _ x1 _ (r1.below y1) h1 hr1).mono ?_
  rintro e w1 ⟨B1, us1, rfl, o1, hnu1, hcu1, bz1⟩
  have HN1 := Lib.hid hnu1
  clear hnu1 hcu1
  have b0 := b0.below' bz1
  have b1 := b1.below' bz1
  have b2 := b2.below' bz1
  have o0 := o0.below bz1
  have yc1 : Below w.heap.size w w1 := y1.trans (bz1.mono y1.size)
  have hw1 : W.heap.size ≤ w1.heap.size := by have := bz1.size; omega
  have o1 : OII w1 W.heap.size 25 2 B1 n1 n1 us1 := ⟨o1.1.mono (by omega), fun u hu => (o1.2.1 u hu).mono (by omega), o1.2.2⟩
  have p1 : w1.cell? ⟨w.heap.size + 1 + 1, 2, none⟩ = some (.slice none 0 0) := b2.cell 2
  have pf1 := b2.frozen 2
  have a0 : w1.cell? ⟨w.heap.size + 1 + 1, 0, none⟩ = some (.int .i64 d0) := b2.cell 0
  have a1 : w1.cell? ⟨w.heap.size + 1 + 1, 1, none⟩ = some (.slice B0 n0 n0) := b2.cell 1
  have c0_ : w1.cell? ⟨w.heap.size + 1, 0, none⟩ = some (.int .i64 0) := b1.cell 0
  have f0_ := b1.frozen 0
  have c1_ : w1.cell? ⟨w.heap.size + 1, 1, none⟩ = some (.slice none 0 0) := b1.cell 1
  have f1_ := b1.frozen 1
  have c2_ : w1.cell? ⟨w.heap.size + 1, 2, none⟩ = some (.slice none 0 0) := b1.cell 2
  have f2_ := b1.frozen 2
  go_wp2_with fail
  have dB : Blk ((((w1.setCell ⟨w.heap.size + 1 + 1, 2, none⟩ (.slice B1 n1 n1)).setCell ⟨w.heap.size + 1, 0, none⟩ (.int .i64 d0)).setCell ⟨w.heap.size + 1, 1, none⟩ (.slice B0 n0 n0)).setCell ⟨w.heap.size + 1, 2, none⟩ (.slice B1 n1 n1)) (w.heap.size + 1) 39 #[.int .i64 d0, .slice B0 n0 n0, .slice B1 n1 n1] := (((b1.far (p := ⟨w.heap.size + 1 + 1, 2, none⟩) (by simp) _).set_ 0 _).set_ 1 _).set_ 2 _
  have m0 : Own ((((w1.setCell ⟨w.heap.size + 1 + 1, 2, none⟩ (.slice B1 n1 n1)).setCell ⟨w.heap.size + 1, 0, none⟩ (.int .i64 d0)).setCell ⟨w.heap.size + 1, 1, none⟩ (.slice B0 n0 n0)).setCell ⟨w.heap.size + 1, 2, none⟩ (.slice B1 n1 n1)) W.heap.size 2 1 B0 n0 n0 (ints x0) := (((o0.far (fun e => by have := o0.blk_ge _ e; simp at this; omega) _).far (fun e => by have := o0.blk_ge _ e; simp at this; omega) _).far (fun e => by have := o0.blk_ge _ e; simp at this; omega) _).far (fun e => by have := o0.blk_ge _ e; simp at this; omega) _
  have m1 : OII ((((w1.setCell ⟨w.heap.size + 1 + 1, 2, none⟩ (.slice B1 n1 n1)).setCell ⟨w.heap.size + 1, 0, none⟩ (.int .i64 d0)).setCell ⟨w.heap.size + 1, 1, none⟩ (.slice B0 n0 n0)).setCell ⟨w.heap.size + 1, 2, none⟩ (.slice B1 n1 n1)) W.heap.size 25 2 B1 n1 n1 us1 := (((o1.far (by intro b h; simp; omega) _).far (by intro b h; simp; omega) _).far (by intro b h; simp; omega) _).far (by intro b h; simp; omega) _
  have yf : Below w.heap.size w ((((w1.setCell ⟨w.heap.size + 1 + 1, 2, none⟩ (.slice B1 n1 n1)).setCell ⟨w.heap.size + 1, 0, none⟩ (.int .i64 d0)).setCell ⟨w.heap.size + 1, 1, none⟩ (.slice B0 n0 n0)).setCell ⟨w.heap.size + 1, 2, none⟩ (.slice B1 n1 n1)) := (((yc1.setCell (by simp; omega) _).setCell (by simp) _).setCell (by simp) _).setCell (by simp) _
  generalize (((w1.setCell ⟨w.heap.size + 1 + 1, 2, none⟩ (.slice B1 n1 n1)).setCell ⟨w.heap.size + 1, 0, none⟩ (.int .i64 d0)).setCell ⟨w.heap.size + 1, 1, none⟩ (.slice B0 n0 n0)).setCell ⟨w.heap.size + 1, 2, none⟩ (.slice B1 n1 n1) = wf at *
  have g0_ : wf.cell? ⟨w.heap.size + 1, 0, none⟩ = some (.int .i64 d0) := dB.cell 0
  have g1_ : wf.cell? ⟨w.heap.size + 1, 1, none⟩ = some (.slice B0 n0 n0) := dB.cell 1
  have g2_ : wf.cell? ⟨w.heap.size + 1, 2, none⟩ = some (.slice B1 n1 n1) := dB.cell 2
  have hres : ToProof w d0 n0 x0 n1 (nums x1) (.returned (.agg #[.int .i64 d0, .slice B0 n0 n0, .slice B1 n1 n1])) wf := ⟨B0, B1, us1, rfl, m0.mono (by omega), ⟨m1.1.mono (by omega), fun u hu => (m1.2.1 u hu).mono (by omega), m1.2.2⟩, HN1.out, yf⟩
  exact bodyPost_ret (v := .agg #[.int .i64 d0, .slice B0 n0 n0, .slice B1 n1 n1]) (by simp [results, Try.results15, go_sem, g0_, g1_, g2_]) rfl hres

def sameProofB (d0 d0' : Int) (x0 x0' : List Int) (x1 x1' : List (List Int)) : Bool :=
  decide (d0 = d0') && sameI x0 x0' && sameII x1 x1'
theorem sameProofB_self (d0 : Int) (x0 : List Int) (x1 : List (List Int)) : sameProofB d0 d0 x0 x0 x1 x1 = true := by simp [sameProofB, sameI, sameII]

set_option maxHeartbeats 1000000 in
theorem eqProof_any (d0 : Int) (A0 : Option Addr) (n0 c0 : Nat) (x0 : List Int) (A1 : Option Addr) (n1 c1 : Nat) (x1 : List Sl) (d0' : Int) (A0' : Option Addr) (n0' c0' : Nat) (x0' : List Int) (A1' : Option Addr) (n1' c1' : Nat) (x1' : List Sl) (w : World) (r0 : SI w A0 n0 x0) (r0' : SI w A0' n0' x0') (h0 : n0 ≤ 1048576) (r1 : SII w A1 n1 x1) (r1' : SII w A1' n1' x1') (h1 : n1 ≤ 1048576) (hr1 : ∀ t ∈ x1, t.xs.length ≤ 1048576) :
    Calls Try.prog 19 #[.agg #[.int .i64 d0, .slice A0 n0 c0, .slice A1 n1 c1], .agg #[.int .i64 d0', .slice A0' n0' c0', .slice A1' n1' c1']] w fun e w' => e = .returned (.bool (sameProofB d0 d0' x0 x0' (nums x1) (nums x1'))) ∧ Below w.heap.size w w' := by
  obtain ⟨W, hW⟩ : ∃ W, W = (w.alloc (.cells #[.int .i64 d0, .slice A0 n0 c0, .slice A1 n1 c1] 39)).alloc (.cells #[.int .i64 d0', .slice A0' n0' c0', .slice A1' n1' c1'] 39) := ⟨_, rfl⟩
  have s1 : (w.alloc (.cells #[.int .i64 d0, .slice A0 n0 c0, .slice A1 n1 c1] 39)).heap.size = w.heap.size + 1 := by simp
  have b0 : Blk W w.heap.size 39 #[.int .i64 d0, .slice A0 n0 c0, .slice A1 n1 c1] := by rw [hW]; exact (Blk.new w _ _).alloc _
  have b1 : Blk W (w.heap.size + 1) 39 #[.int .i64 d0', .slice A0' n0' c0', .slice A1' n1' c1'] := by rw [hW, ← s1]; exact Blk.new _ _ _
  have y0 : Below w.heap.size w W := by rw [hW]; exact ((Below.refl _ _).alloc (Nat.le_refl _) _).alloc (by simp) _
  have HW := Lib.hid hW
  clear hW s1
  cases hd_d0 : (d0 != d0')
  · skip
    have HD_d0 := Lib.hid (show d0 = d0' by simpa using hd_d0)
    go_enter Try.func19, Try.ntmps19
    go_wp2_with fail
    rw [← HW.out]
    clear hd_d0
    refine (eqI _ _ _ _ _ _ x0 x0' _ (r0.below y0) (r0'.below y0) (by omega)).mono ?_
    rintro e w0' ⟨rfl, q0, rfl⟩
    have bz0 : Below W.heap.size W (W.drewN q0) := below_drewN (Below.refl _ _) _
    generalize W.drewN q0 = w0 at *
    have yy0 : Below w.heap.size w w0 := y0.trans (bz0.mono y0.size)
    have b0 := b0.below' bz0
    have b1 := b1.below' bz0
    have k0 : w0.cell? ⟨w.heap.size, 2, none⟩ = some (.slice A1 n1 c1) := b0.cell 2
    have k0' : w0.cell? ⟨w.heap.size + 1, 2, none⟩ = some (.slice A1' n1' c1') := b1.cell 2
    cases hs0 : sameI x0 x0'
    · have HS := Lib.hid hs0
      clear hs0
      go_wp2_with fail
      go_ret
      exact ⟨ret_bool (by unfold sameProofB; rw [HS.out]; simp), yy0⟩
    · skip
      have HS0 := Lib.hid hs0
      clear hs0
      go_wp2_with fail
      refine (eqII _ _ _ _ _ _ x1 x1' _ (r1.below yy0) (r1'.below yy0) (by omega) (fun t ht => by have := hr1 t ht; omega)).mono ?_
      rintro e w1' ⟨rfl, q1, rfl⟩
      have bz1 : Below w0.heap.size w0 (w0.drewN q1) := below_drewN (Below.refl _ _) _
      generalize w0.drewN q1 = w1 at *
      have yy1 : Below w.heap.size w w1 := yy0.trans (bz1.mono yy0.size)
      have b0 := b0.below' bz1
      have b1 := b1.below' bz1
      cases hs1 : sameII (nums x1) (nums x1')
      · have HS := Lib.hid hs1
        clear hs1
        go_wp2_with fail
        go_ret
        exact ⟨ret_bool (by unfold sameProofB; rw [HS.out]; simp), yy1⟩
      · skip
        have HS1 := Lib.hid hs1
        clear hs1
        go_wp2_with fail
        go_ret
        exact ⟨ret_bool (by unfold sameProofB; rw [HS0.out, HS1.out]; simp [HD_d0.out]), yy1⟩
  · have HD := Lib.hid (show ¬ d0 = d0' by simpa using hd_d0)
    go_enter Try.func19, Try.ntmps19
    go_wp2_with fail
    rw [← HW.out]
    go_ret
    exact ⟨ret_bool (by unfold sameProofB; simp [HD.out]), y0⟩

set_option maxHeartbeats 400000 in
theorem markProof_m (T : List TypeId) (d0 : Int) (A0 : Option Addr) (n0 c0 : Nat) (A1 : Option Addr) (n1 c1 : Nat) (x1 : List Sl) (p : Int) (w : World) (lo hi : Nat) (m0 : Mk w lo hi 2 1 A0 n0) (h0 : n0 ≤ 1048576) (m1 : MkII w lo hi 25 2 A1 n1 c1 x1) (h1 : n1 ≤ 1048576) (ht1 : total x1 ≤ 1048576) (tI : 2 ∈ T) (tII : 25 ∉ T) (tX : 39 ∉ T) (g0 : 0 ≤ p) (g1 : p ≤ 9223372036800000000) :
    Calls Try.prog 21 #[.agg #[.int .i64 d0, .slice A0 n0 c0, .slice A1 n1 c1], .int .i64 p] w (MarkP T w lo hi (n0 + total x1) p) := by
  obtain ⟨W, hW⟩ : ∃ W, W = w.alloc (.cells #[.int .i64 d0, .slice A0 n0 c0, .slice A1 n1 c1] 39) := ⟨_, rfl⟩
  have b0 : Blk W w.heap.size 39 #[.int .i64 d0, .slice A0 n0 c0, .slice A1 n1 c1] := by rw [hW]; exact Blk.new w _ _
  have z0 : Below w.heap.size w W := by rw [hW]; exact (Below.refl _ _).alloc (Nat.le_refl _) _
  have HW := Lib.hid hW
  clear hW
  have TI := Lib.hid tI
  have TII := Lib.hid tII
  have TX := Lib.hid tX
  clear tI tII tX
  go_enter Try.func21, Try.ntmps21
  have f0 : MkF T lo hi w W := MkF.of_below z0
  go_wp2_with fail
  rw [← HW.out]
  refine (markI_m T _ _ _ _ _ lo hi (m0.mkf f0) TI.out (by omega) (by omega)).mono ?_
  rintro e w0 ⟨rfl, ff0⟩
  have f1 := f0.trans ff0
  have b0 := b0.mkf ff0 TX.out
  have q0 : w0.cell? ⟨w.heap.size, 2, none⟩ = some (.slice A1 n1 c1) := b0.cell 2
  go_wp2_with fail
  refine (markII_m T _ _ _ x1 _ _ lo hi (m1.mkf f1 TII.out) TI.out TII.out (by omega) (by omega) (by omega)).mono ?_
  rintro e w1 ⟨rfl, ff1⟩
  have f2 := f1.trans ff1
  have b0 := b0.mkf ff1 TX.out
  go_wp2_with fail
  go_ret
  exact ⟨ret_int (by omega), f2⟩
end Go.Proofs.Ytpnkelmmfcmijaa
