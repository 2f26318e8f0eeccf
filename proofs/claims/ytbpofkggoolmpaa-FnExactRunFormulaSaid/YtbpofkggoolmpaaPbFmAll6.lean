/-
  Contracts of the laws' helpers over Formula: szFormula, toFormula, eqFormula, markFormula.
-/
import Derived.Test.YtbpofkggoolmpaaPbFmAll5
import Derived.BigGuardPart
namespace Go.Proofs.Ytbpofkggoolmpaa
open Go.RowKit

set_option maxHeartbeats 400000 in
theorem szFormula_any (d0 : Int) (d1 : Int) (d2 : Int) (A0 : Option Addr) (n0 c0 : Nat) (x0 : List Sl) (A1 : Option Addr) (n1 c1 : Nat) (x1 : List Sl) (A2 : Option Addr) (n2 c2 : Nat) (left : Int) (w : World) (h0 : n0 ≤ 9223372036854775807) (r0 : SII w A0 n0 x0) (hr0 : ∀ t ∈ x0, t.xs.length ≤ 9223372036854775807) (h1 : n1 ≤ 9223372036854775807) (r1 : SII w A1 n1 x1) (hr1 : ∀ t ∈ x1, t.xs.length ≤ 9223372036854775807) (h2 : n2 ≤ 9223372036854775807) (g0 : 0 ≤ left) (g1 : left ≤ 1048576) :
    Calls Try.prog 12 #[.agg #[.int .i64 d0, .int .i64 d1, .int .i64 d2, .slice A0 n0 c0, .slice A1 n1 c1, .slice A2 n2 c2], .int .i64 left] w (SzP w left (((n0 + total x0 : Nat) : Int) + ((n1 + total x1 : Nat) : Int) + (n2 : Int))) := by
  obtain ⟨W, hW⟩ : ∃ W, W = w.alloc (.cells #[.int .i64 d0, .int .i64 d1, .int .i64 d2, .slice A0 n0 c0, .slice A1 n1 c1, .slice A2 n2 c2] 28) := ⟨_, rfl⟩
  have b0 : Blk W w.heap.size 28 #[.int .i64 d0, .int .i64 d1, .int .i64 d2, .slice A0 n0 c0, .slice A1 n1 c1, .slice A2 n2 c2] := by rw [hW]; exact Blk.new w _ _
  have z0 : Below w.heap.size w W := by rw [hW]; exact (Below.refl _ _).alloc (Nat.le_refl _) _
  have HW := Lib.hid hW
  clear hW
  go_enter Try.func12, Try.ntmps12
  go_wp2_with fail
  rw [← HW.out]
  refine (szII_p A0 n0 c0 x0 left W (r0.below z0) h0 hr0 (by omega) (by omega)).mono ?_
  rintro e w1 ⟨z1, rfl, l1, u1, e1, b1⟩
  have E1 := Lib.hid e1
  clear e1
  have y1 : Below w.heap.size w w1 := z0.trans (b1.mono z0.size)
  have q1 : w1.cell? ⟨w.heap.size, 4, none⟩ = some (.slice A1 n1 c1) := (b1.cell (p := ⟨w.heap.size, 4, none⟩) (b0.lt)).trans (b0.cell 4)
  by_cases hneg1 : z1 < 0
  · go_wp2_with fail
    go_ret
    exact ⟨-1, rfl, by omega, by omega, by omega, y1⟩
  have b0 := b0.below' b1
  clear q1
  have q1 : w1.cell? ⟨w.heap.size, 4, none⟩ = some (.slice A1 n1 c1) := b0.cell 4
  go_wp2_with fail
  refine (szII_p A1 n1 c1 x1 z1 w1 (r1.below y1) h1 hr1 (by omega) (by omega)).mono ?_
  rintro e w2 ⟨z2, rfl, l2, u2, e2, b2⟩
  have E2 := Lib.hid e2
  clear e2
  have y2 : Below w.heap.size w w2 := y1.trans (b2.mono y1.size)

  by_cases hneg2 : z2 < 0
  · go_wp2_with fail
    go_ret
    exact ⟨-1, rfl, by omega, by omega, by omega, y2⟩
  have b0 := b0.below' b2
  have q2 : w2.cell? ⟨w.heap.size, 5, none⟩ = some (.slice A2 n2 c2) := b0.cell 5
  go_wp2_with fail
  refine (szI_p A2 n2 c2 z2 w2 h2 (by omega) (by omega)).mono ?_
  rintro e w3 ⟨z3, rfl, l3, u3, e3, b3⟩
  have E3 := Lib.hid e3
  clear e3
  have y3 : Below w.heap.size w w3 := y2.trans (b3.mono y2.size)
  by_cases hneg3 : z3 < 0
  · go_wp2_with fail
    go_ret
    exact ⟨-1, rfl, by omega, by omega, by omega, y3⟩
  go_wp2_with fail
  go_ret
  exact ⟨z3, rfl, by omega, by omega, fun _ => by have t1 := E1.out (by omega); have t2 := E2.out (by omega); have t3 := E3.out (by omega); omega, y3⟩

def ToFormula (w : World) (d0 : Int) (d1 : Int) (d2 : Int) (n0 : Nat) (x0 : List (List Int)) (n1 : Nat) (x1 : List (List Int)) (n2 : Nat) (x2 : List Int) (e : Ending) (w' : World) : Prop :=
  ∃ B0 us0 B1 us1 B2, e = .returned (.agg #[.int .i64 d0, .int .i64 d1, .int .i64 d2, .slice B0 n0 n0, .slice B1 n1 n1, .slice B2 n2 n2]) ∧ OII w' w.heap.size 26 2 B0 n0 n0 us0 ∧ nums us0 = x0 ∧ OII w' w.heap.size 26 2 B1 n1 n1 us1 ∧ nums us1 = x1 ∧ Own w' w.heap.size 2 1 B2 n2 n2 (ints x2) ∧ Below w.heap.size w w'

set_option maxHeartbeats 1000000 in
theorem toFormula_any (d0 : Int) (d1 : Int) (d2 : Int) (A0 : Option Addr) (n0 c0 : Nat) (x0 : List Sl) (A1 : Option Addr) (n1 c1 : Nat) (x1 : List Sl) (A2 : Option Addr) (n2 c2 : Nat) (x2 : List Int) (w : World) (r0 : SII w A0 n0 x0) (h0 : n0 ≤ 1048576) (hr0 : ∀ t ∈ x0, t.xs.length ≤ 1048576) (r1 : SII w A1 n1 x1) (h1 : n1 ≤ 1048576) (hr1 : ∀ t ∈ x1, t.xs.length ≤ 1048576) (r2 : SI w A2 n2 x2) (h2 : n2 ≤ 1048576) :
    Calls Try.prog 15 #[.agg #[.int .i64 d0, .int .i64 d1, .int .i64 d2, .slice A0 n0 c0, .slice A1 n1 c1, .slice A2 n2 c2]] w (ToFormula w d0 d1 d2 n0 (nums x0) n1 (nums x1) n2 x2) := by
  obtain ⟨W, hW⟩ : ∃ W, W = ((w.alloc (.cells #[.int .i64 d0, .int .i64 d1, .int .i64 d2, .slice A0 n0 c0, .slice A1 n1 c1, .slice A2 n2 c2] 28)).alloc (.cells #[.int .i64 0, .int .i64 0, .int .i64 0, .slice none 0 0, .slice none 0 0, .slice none 0 0] 31)).alloc (.cells #[.int .i64 d0, .int .i64 d1, .int .i64 d2, .slice none 0 0, .slice none 0 0, .slice none 0 0] 31) := ⟨_, rfl⟩
  have s1 : (w.alloc (.cells #[.int .i64 d0, .int .i64 d1, .int .i64 d2, .slice A0 n0 c0, .slice A1 n1 c1, .slice A2 n2 c2] 28)).heap.size = w.heap.size + 1 := by simp
  have s2 : ((w.alloc (.cells #[.int .i64 d0, .int .i64 d1, .int .i64 d2, .slice A0 n0 c0, .slice A1 n1 c1, .slice A2 n2 c2] 28)).alloc (.cells #[.int .i64 0, .int .i64 0, .int .i64 0, .slice none 0 0, .slice none 0 0, .slice none 0 0] 31)).heap.size = w.heap.size + 1 + 1 := by simp
  have b0 : Blk W w.heap.size 28 #[.int .i64 d0, .int .i64 d1, .int .i64 d2, .slice A0 n0 c0, .slice A1 n1 c1, .slice A2 n2 c2] := by rw [hW]; exact ((Blk.new w _ _).alloc _).alloc _
  have b1 : Blk W (w.heap.size + 1) 31 #[.int .i64 0, .int .i64 0, .int .i64 0, .slice none 0 0, .slice none 0 0, .slice none 0 0] := by rw [hW, ← s1]; exact (Blk.new _ _ _).alloc _
  have b2 : Blk W (w.heap.size + 1 + 1) 31 #[.int .i64 d0, .int .i64 d1, .int .i64 d2, .slice none 0 0, .slice none 0 0, .slice none 0 0] := by rw [hW, ← s2]; exact Blk.new _ _ _
  have y0 : Below w.heap.size w W := by rw [hW]; exact (((Below.refl _ _).alloc (Nat.le_refl _) _).alloc (by simp) _).alloc (by simp; omega) _
  have hz : w.heap.size + 1 + 1 < W.heap.size := b2.lt
  have HW := Lib.hid hW
  clear hW s1 s2
  go_enter Try.func15, Try.ntmps15
  go_wp2_with fail
  rw [← HW.out]
  clear HW
  refine (toII _ _ _ x0 _ (r0.below y0) h0 hr0).mono ?_
  rintro e w0 ⟨B0, us0, rfl, o0, hnu0, hcu0, bz0⟩
  have HN0 := Lib.hid hnu0
  clear hnu0 hcu0
  have b0 := b0.below' bz0
  have b1 := b1.below' bz0
  have b2 := b2.below' bz0
  have yc0 : Below w.heap.size w w0 := y0.trans (bz0.mono y0.size)
  have hw0 : W.heap.size ≤ w0.heap.size := by have := bz0.size; omega
  have p0 : w0.cell? ⟨w.heap.size + 1 + 1, 3, none⟩ = some (.slice none 0 0) := b2.cell 3
  have pf0 := b2.frozen 3
  have pn0 : w0.cell? ⟨w.heap.size, 4, none⟩ = some (.slice A1 n1 c1) := b0.cell 4
  go_wp2_with fail
  have b2 : Blk (w0.setCell ⟨w.heap.size + 1 + 1, 3, none⟩ (.slice B0 n0 n0)) (w.heap.size + 1 + 1) 31 #[.int .i64 d0, .int .i64 d1, .int .i64 d2, .slice B0 n0 n0, .slice none 0 0, .slice none 0 0] := b2.set_ 3 _
  have b1 := b1.far (p := ⟨w.heap.size + 1 + 1, 3, none⟩) (by simp) (.slice B0 n0 n0)
  have b0 := b0.far (p := ⟨w.heap.size + 1 + 1, 3, none⟩) (by simp; omega) (.slice B0 n0 n0)
  have o0 := o0.far (p := ⟨w.heap.size + 1 + 1, 3, none⟩) (by intro b h; simp; omega) (.slice B0 n0 n0)
  have y1 : Below w.heap.size w (w0.setCell ⟨w.heap.size + 1 + 1, 3, none⟩ (.slice B0 n0 n0)) := yc0.setCell (by simp; omega) _
  have hz1 : W.heap.size ≤ (w0.setCell ⟨w.heap.size + 1 + 1, 3, none⟩ (.slice B0 n0 n0)).heap.size := by have := hw0; simpa [World.setCell] using this
  generalize w0.setCell ⟨w.heap.size + 1 + 1, 3, none⟩ (.slice B0 n0 n0) = v1 at *
  refine (toII _ _ _ x1 _ (r1.below y1) h1 hr1).mono ?_
  rintro e w1 ⟨B1, us1, rfl, o1, hnu1, hcu1, bz1⟩
  have HN1 := Lib.hid hnu1
  clear hnu1 hcu1
  have b0 := b0.below' bz1
  have b1 := b1.below' bz1
  have b2 := b2.below' bz1
  have o0 := o0.below bz1
  have yc1 : Below w.heap.size w w1 := y1.trans (bz1.mono y1.size)
  have hw1 : W.heap.size ≤ w1.heap.size := by have := bz1.size; omega
  have o1 : OII w1 W.heap.size 26 2 B1 n1 n1 us1 := ⟨o1.1.mono (by omega), fun u hu => (o1.2.1 u hu).mono (by omega), o1.2.2⟩
  have p1 : w1.cell? ⟨w.heap.size + 1 + 1, 4, none⟩ = some (.slice none 0 0) := b2.cell 4
  have pf1 := b2.frozen 4
  have pn1 : w1.cell? ⟨w.heap.size, 5, none⟩ = some (.slice A2 n2 c2) := b0.cell 5
  go_wp2_with fail
  have b2 : Blk (w1.setCell ⟨w.heap.size + 1 + 1, 4, none⟩ (.slice B1 n1 n1)) (w.heap.size + 1 + 1) 31 #[.int .i64 d0, .int .i64 d1, .int .i64 d2, .slice B0 n0 n0, .slice B1 n1 n1, .slice none 0 0] := b2.set_ 4 _
  have b1 := b1.far (p := ⟨w.heap.size + 1 + 1, 4, none⟩) (by simp) (.slice B1 n1 n1)
  have b0 := b0.far (p := ⟨w.heap.size + 1 + 1, 4, none⟩) (by simp; omega) (.slice B1 n1 n1)
  have o0 := o0.far (p := ⟨w.heap.size + 1 + 1, 4, none⟩) (by intro b h; simp; omega) (.slice B1 n1 n1)
  have o1 := o1.far (p := ⟨w.heap.size + 1 + 1, 4, none⟩) (by intro b h; simp; omega) (.slice B1 n1 n1)
  have y2 : Below w.heap.size w (w1.setCell ⟨w.heap.size + 1 + 1, 4, none⟩ (.slice B1 n1 n1)) := yc1.setCell (by simp; omega) _
  have hz2 : W.heap.size ≤ (w1.setCell ⟨w.heap.size + 1 + 1, 4, none⟩ (.slice B1 n1 n1)).heap.size := by have := hw1; simpa [World.setCell] using this
  generalize w1.setCell ⟨w.heap.size + 1 + 1, 4, none⟩ (.slice B1 n1 n1) = v2 at *
  refine (toI _ _ _ x2 _ (r2.below y2) h2).mono ?_
  rintro e w2 ⟨B2, rfl, o2, bz2⟩
  have b0 := b0.below' bz2
  have b1 := b1.below' bz2
  have b2 := b2.below' bz2
  have o0 := o0.below bz2
  have o1 := o1.below bz2
  have yc2 : Below w.heap.size w w2 := y2.trans (bz2.mono y2.size)
  have hw2 : W.heap.size ≤ w2.heap.size := by have := bz2.size; omega
  have o2 := o2.mono (show W.heap.size ≤ v2.heap.size by omega)
  have p2 : w2.cell? ⟨w.heap.size + 1 + 1, 5, none⟩ = some (.slice none 0 0) := b2.cell 5
  have pf2 := b2.frozen 5
  have a0 : w2.cell? ⟨w.heap.size + 1 + 1, 0, none⟩ = some (.int .i64 d0) := b2.cell 0
  have a1 : w2.cell? ⟨w.heap.size + 1 + 1, 1, none⟩ = some (.int .i64 d1) := b2.cell 1
  have a2 : w2.cell? ⟨w.heap.size + 1 + 1, 2, none⟩ = some (.int .i64 d2) := b2.cell 2
  have a3 : w2.cell? ⟨w.heap.size + 1 + 1, 3, none⟩ = some (.slice B0 n0 n0) := b2.cell 3
  have a4 : w2.cell? ⟨w.heap.size + 1 + 1, 4, none⟩ = some (.slice B1 n1 n1) := b2.cell 4
  have c0_ : w2.cell? ⟨w.heap.size + 1, 0, none⟩ = some (.int .i64 0) := b1.cell 0
  have f0_ := b1.frozen 0
  have c1_ : w2.cell? ⟨w.heap.size + 1, 1, none⟩ = some (.int .i64 0) := b1.cell 1
  have f1_ := b1.frozen 1
  have c2_ : w2.cell? ⟨w.heap.size + 1, 2, none⟩ = some (.int .i64 0) := b1.cell 2
  have f2_ := b1.frozen 2
  have c3_ : w2.cell? ⟨w.heap.size + 1, 3, none⟩ = some (.slice none 0 0) := b1.cell 3
  have f3_ := b1.frozen 3
  have c4_ : w2.cell? ⟨w.heap.size + 1, 4, none⟩ = some (.slice none 0 0) := b1.cell 4
  have f4_ := b1.frozen 4
  have c5_ : w2.cell? ⟨w.heap.size + 1, 5, none⟩ = some (.slice none 0 0) := b1.cell 5
  have f5_ := b1.frozen 5
  go_wp2_with fail
  have dB : Blk (((((((w2.setCell ⟨w.heap.size + 1 + 1, 5, none⟩ (.slice B2 n2 n2)).setCell ⟨w.heap.size + 1, 0, none⟩ (.int .i64 d0)).setCell ⟨w.heap.size + 1, 1, none⟩ (.int .i64 d1)).setCell ⟨w.heap.size + 1, 2, none⟩ (.int .i64 d2)).setCell ⟨w.heap.size + 1, 3, none⟩ (.slice B0 n0 n0)).setCell ⟨w.heap.size + 1, 4, none⟩ (.slice B1 n1 n1)).setCell ⟨w.heap.size + 1, 5, none⟩ (.slice B2 n2 n2)) (w.heap.size + 1) 31 #[.int .i64 d0, .int .i64 d1, .int .i64 d2, .slice B0 n0 n0, .slice B1 n1 n1, .slice B2 n2 n2] := ((((((b1.far (p := ⟨w.heap.size + 1 + 1, 5, none⟩) (by simp) _).set_ 0 _).set_ 1 _).set_ 2 _).set_ 3 _).set_ 4 _).set_ 5 _
  have m0 : OII (((((((w2.setCell ⟨w.heap.size + 1 + 1, 5, none⟩ (.slice B2 n2 n2)).setCell ⟨w.heap.size + 1, 0, none⟩ (.int .i64 d0)).setCell ⟨w.heap.size + 1, 1, none⟩ (.int .i64 d1)).setCell ⟨w.heap.size + 1, 2, none⟩ (.int .i64 d2)).setCell ⟨w.heap.size + 1, 3, none⟩ (.slice B0 n0 n0)).setCell ⟨w.heap.size + 1, 4, none⟩ (.slice B1 n1 n1)).setCell ⟨w.heap.size + 1, 5, none⟩ (.slice B2 n2 n2)) W.heap.size 26 2 B0 n0 n0 us0 := ((((((o0.far (by intro b h; simp; omega) _).far (by intro b h; simp; omega) _).far (by intro b h; simp; omega) _).far (by intro b h; simp; omega) _).far (by intro b h; simp; omega) _).far (by intro b h; simp; omega) _).far (by intro b h; simp; omega) _
  have m1 : OII (((((((w2.setCell ⟨w.heap.size + 1 + 1, 5, none⟩ (.slice B2 n2 n2)).setCell ⟨w.heap.size + 1, 0, none⟩ (.int .i64 d0)).setCell ⟨w.heap.size + 1, 1, none⟩ (.int .i64 d1)).setCell ⟨w.heap.size + 1, 2, none⟩ (.int .i64 d2)).setCell ⟨w.heap.size + 1, 3, none⟩ (.slice B0 n0 n0)).setCell ⟨w.heap.size + 1, 4, none⟩ (.slice B1 n1 n1)).setCell ⟨w.heap.size + 1, 5, none⟩ (.slice B2 n2 n2)) W.heap.size 26 2 B1 n1 n1 us1 := ((((((o1.far (by intro b h; simp; omega) _).far (by intro b h; simp; omega) _).far (by intro b h; simp; omega) _).far (by intro b h; simp; omega) _).far (by intro b h; simp; omega) _).far (by intro b h; simp; omega) _).far (by intro b h; simp; omega) _
  have m2 : Own (((((((w2.setCell ⟨w.heap.size + 1 + 1, 5, none⟩ (.slice B2 n2 n2)).setCell ⟨w.heap.size + 1, 0, none⟩ (.int .i64 d0)).setCell ⟨w.heap.size + 1, 1, none⟩ (.int .i64 d1)).setCell ⟨w.heap.size + 1, 2, none⟩ (.int .i64 d2)).setCell ⟨w.heap.size + 1, 3, none⟩ (.slice B0 n0 n0)).setCell ⟨w.heap.size + 1, 4, none⟩ (.slice B1 n1 n1)).setCell ⟨w.heap.size + 1, 5, none⟩ (.slice B2 n2 n2)) W.heap.size 2 1 B2 n2 n2 (ints x2) := ((((((o2.far (fun e => by have := o2.blk_ge _ e; simp at this; omega) _).far (fun e => by have := o2.blk_ge _ e; simp at this; omega) _).far (fun e => by have := o2.blk_ge _ e; simp at this; omega) _).far (fun e => by have := o2.blk_ge _ e; simp at this; omega) _).far (fun e => by have := o2.blk_ge _ e; simp at this; omega) _).far (fun e => by have := o2.blk_ge _ e; simp at this; omega) _).far (fun e => by have := o2.blk_ge _ e; simp at this; omega) _
  have yf : Below w.heap.size w (((((((w2.setCell ⟨w.heap.size + 1 + 1, 5, none⟩ (.slice B2 n2 n2)).setCell ⟨w.heap.size + 1, 0, none⟩ (.int .i64 d0)).setCell ⟨w.heap.size + 1, 1, none⟩ (.int .i64 d1)).setCell ⟨w.heap.size + 1, 2, none⟩ (.int .i64 d2)).setCell ⟨w.heap.size + 1, 3, none⟩ (.slice B0 n0 n0)).setCell ⟨w.heap.size + 1, 4, none⟩ (.slice B1 n1 n1)).setCell ⟨w.heap.size + 1, 5, none⟩ (.slice B2 n2 n2)) := ((((((yc2.setCell (by simp; omega) _).setCell (by simp) _).setCell (by simp) _).setCell (by simp) _).setCell (by simp) _).setCell (by simp) _).setCell (by simp) _
  generalize ((((((w2.setCell ⟨w.heap.size + 1 + 1, 5, none⟩ (.slice B2 n2 n2)).setCell ⟨w.heap.size + 1, 0, none⟩ (.int .i64 d0)).setCell ⟨w.heap.size + 1, 1, none⟩ (.int .i64 d1)).setCell ⟨w.heap.size + 1, 2, none⟩ (.int .i64 d2)).setCell ⟨w.heap.size + 1, 3, none⟩ (.slice B0 n0 n0)).setCell ⟨w.heap.size + 1, 4, none⟩ (.slice B1 n1 n1)).setCell ⟨w.heap.size + 1, 5, none⟩ (.slice B2 n2 n2) = wf at *
  have g0_ : wf.cell? ⟨w.heap.size + 1, 0, none⟩ = some (.int .i64 d0) := dB.cell 0
  have g1_ : wf.cell? ⟨w.heap.size + 1, 1, none⟩ = some (.int .i64 d1) := dB.cell 1
  have g2_ : wf.cell? ⟨w.heap.size + 1, 2, none⟩ = some (.int .i64 d2) := dB.cell 2
  have g3_ : wf.cell? ⟨w.heap.size + 1, 3, none⟩ = some (.slice B0 n0 n0) := dB.cell 3
  have g4_ : wf.cell? ⟨w.heap.size + 1, 4, none⟩ = some (.slice B1 n1 n1) := dB.cell 4
  have g5_ : wf.cell? ⟨w.heap.size + 1, 5, none⟩ = some (.slice B2 n2 n2) := dB.cell 5
  have hres : ToFormula w d0 d1 d2 n0 (nums x0) n1 (nums x1) n2 x2 (.returned (.agg #[.int .i64 d0, .int .i64 d1, .int .i64 d2, .slice B0 n0 n0, .slice B1 n1 n1, .slice B2 n2 n2])) wf := ⟨B0, us0, B1, us1, B2, rfl, ⟨m0.1.mono (by omega), fun u hu => (m0.2.1 u hu).mono (by omega), m0.2.2⟩, HN0.out, ⟨m1.1.mono (by omega), fun u hu => (m1.2.1 u hu).mono (by omega), m1.2.2⟩, HN1.out, m2.mono (by omega), yf⟩
  exact bodyPost_ret (v := .agg #[.int .i64 d0, .int .i64 d1, .int .i64 d2, .slice B0 n0 n0, .slice B1 n1 n1, .slice B2 n2 n2]) (by simp [results, Try.results15, go_sem, g0_, g1_, g2_, g3_, g4_, g5_]) rfl hres

def sameFormulaB (d0 d0' : Int) (d1 d1' : Int) (d2 d2' : Int) (x0 x0' : List (List Int)) (x1 x1' : List (List Int)) (x2 x2' : List Int) : Bool :=
  decide (d0 = d0') && decide (d1 = d1') && decide (d2 = d2') && sameII x0 x0' && sameII x1 x1' && sameI x2 x2'
theorem sameFormulaB_self (d0 : Int) (d1 : Int) (d2 : Int) (x0 : List (List Int)) (x1 : List (List Int)) (x2 : List Int) : sameFormulaB d0 d0 d1 d1 d2 d2 x0 x0 x1 x1 x2 x2 = true := by simp [sameFormulaB, sameI, sameII, sameII]

set_option maxHeartbeats 1000000 in
theorem eqFormula_any (d0 : Int) (d1 : Int) (d2 : Int) (A0 : Option Addr) (n0 c0 : Nat) (x0 : List Sl) (A1 : Option Addr) (n1 c1 : Nat) (x1 : List Sl) (A2 : Option Addr) (n2 c2 : Nat) (x2 : List Int) (d0' : Int) (d1' : Int) (d2' : Int) (A0' : Option Addr) (n0' c0' : Nat) (x0' : List Sl) (A1' : Option Addr) (n1' c1' : Nat) (x1' : List Sl) (A2' : Option Addr) (n2' c2' : Nat) (x2' : List Int) (w : World) (r0 : SII w A0 n0 x0) (r0' : SII w A0' n0' x0') (h0 : n0 ≤ 1048576) (hr0 : ∀ t ∈ x0, t.xs.length ≤ 1048576) (r1 : SII w A1 n1 x1) (r1' : SII w A1' n1' x1') (h1 : n1 ≤ 1048576) (hr1 : ∀ t ∈ x1, t.xs.length ≤ 1048576) (r2 : SI w A2 n2 x2) (r2' : SI w A2' n2' x2') (h2 : n2 ≤ 1048576) :
    Calls Try.prog 17 #[.agg #[.int .i64 d0, .int .i64 d1, .int .i64 d2, .slice A0 n0 c0, .slice A1 n1 c1, .slice A2 n2 c2], .agg #[.int .i64 d0', .int .i64 d1', .int .i64 d2', .slice A0' n0' c0', .slice A1' n1' c1', .slice A2' n2' c2']] w fun e w' => e = .returned (.bool (sameFormulaB d0 d0' d1 d1' d2 d2' (nums x0) (nums x0') (nums x1) (nums x1') x2 x2')) ∧ Below w.heap.size w w' := by
  obtain ⟨W, hW⟩ : ∃ W, W = (w.alloc (.cells #[.int .i64 d0, .int .i64 d1, .int .i64 d2, .slice A0 n0 c0, .slice A1 n1 c1, .slice A2 n2 c2] 31)).alloc (.cells #[.int .i64 d0', .int .i64 d1', .int .i64 d2', .slice A0' n0' c0', .slice A1' n1' c1', .slice A2' n2' c2'] 31) := ⟨_, rfl⟩
  have s1 : (w.alloc (.cells #[.int .i64 d0, .int .i64 d1, .int .i64 d2, .slice A0 n0 c0, .slice A1 n1 c1, .slice A2 n2 c2] 31)).heap.size = w.heap.size + 1 := by simp
  have b0 : Blk W w.heap.size 31 #[.int .i64 d0, .int .i64 d1, .int .i64 d2, .slice A0 n0 c0, .slice A1 n1 c1, .slice A2 n2 c2] := by rw [hW]; exact (Blk.new w _ _).alloc _
  have b1 : Blk W (w.heap.size + 1) 31 #[.int .i64 d0', .int .i64 d1', .int .i64 d2', .slice A0' n0' c0', .slice A1' n1' c1', .slice A2' n2' c2'] := by rw [hW, ← s1]; exact Blk.new _ _ _
  have y0 : Below w.heap.size w W := by rw [hW]; exact ((Below.refl _ _).alloc (Nat.le_refl _) _).alloc (by simp) _
  have HW := Lib.hid hW
  clear hW s1
  cases hd_d0 : (d0 != d0')
  · skip
    have HD_d0 := Lib.hid (show d0 = d0' by simpa using hd_d0)
    cases hd_d1 : (d1 != d1')
    · skip
      have HD_d1 := Lib.hid (show d1 = d1' by simpa using hd_d1)
      cases hd_d2 : (d2 != d2')
      · skip
        have HD_d2 := Lib.hid (show d2 = d2' by simpa using hd_d2)
        go_enter Try.func17, Try.ntmps17
        go_wp2_with fail
        rw [← HW.out]
        clear hd_d0 hd_d1 hd_d2
        refine (eqII _ _ _ _ _ _ x0 x0' _ (r0.below y0) (r0'.below y0) (by omega) (fun t ht => by have := hr0 t ht; omega)).mono ?_
        rintro e w0' ⟨rfl, q0, rfl⟩
        have bz0 : Below W.heap.size W (W.drewN q0) := below_drewN (Below.refl _ _) _
        generalize W.drewN q0 = w0 at *
        have yy0 : Below w.heap.size w w0 := y0.trans (bz0.mono y0.size)
        have b0 := b0.below' bz0
        have b1 := b1.below' bz0
        have k0 : w0.cell? ⟨w.heap.size, 4, none⟩ = some (.slice A1 n1 c1) := b0.cell 4
        have k0' : w0.cell? ⟨w.heap.size + 1, 4, none⟩ = some (.slice A1' n1' c1') := b1.cell 4
        cases hs0 : sameII (nums x0) (nums x0')
        · have HS := Lib.hid hs0
          clear hs0
          go_wp2_with fail
          go_ret
          exact ⟨ret_bool (by unfold sameFormulaB; rw [HS.out]; simp), yy0⟩
        · skip
          have HS0 := Lib.hid hs0
          clear hs0
          go_wp2_with fail
          refine (eqII _ _ _ _ _ _ x1 x1' _ (r1.below yy0) (r1'.below yy0) (by omega) (fun t ht => by have := hr1 t ht; omega)).mono ?_
          rintro e w1' ⟨rfl, q1, rfl⟩
          have bz1 : Below w0.heap.size w0 (w0.drewN q1) := below_drewN (Below.refl _ _) _
          generalize w0.drewN q1 = w1 at *
          have yy1 : Below w.heap.size w w1 := yy0.trans (bz1.mono yy0.size)
          have b0 := b0.below' bz1
          have b1 := b1.below' bz1
          have k1 : w1.cell? ⟨w.heap.size, 5, none⟩ = some (.slice A2 n2 c2) := b0.cell 5
          have k1' : w1.cell? ⟨w.heap.size + 1, 5, none⟩ = some (.slice A2' n2' c2') := b1.cell 5
          cases hs1 : sameII (nums x1) (nums x1')
          · have HS := Lib.hid hs1
            clear hs1
            go_wp2_with fail
            go_ret
            exact ⟨ret_bool (by unfold sameFormulaB; rw [HS.out]; simp), yy1⟩
          · skip
            have HS1 := Lib.hid hs1
            clear hs1
            go_wp2_with fail
            refine (eqI _ _ _ _ _ _ x2 x2' _ (r2.below yy1) (r2'.below yy1) (by omega)).mono ?_
            rintro e w2' ⟨rfl, q2, rfl⟩
            have bz2 : Below w1.heap.size w1 (w1.drewN q2) := below_drewN (Below.refl _ _) _
            generalize w1.drewN q2 = w2 at *
            have yy2 : Below w.heap.size w w2 := yy1.trans (bz2.mono yy1.size)
            have b0 := b0.below' bz2
            have b1 := b1.below' bz2
            cases hs2 : sameI x2 x2'
            · have HS := Lib.hid hs2
              clear hs2
              go_wp2_with fail
              go_ret
              exact ⟨ret_bool (by unfold sameFormulaB; rw [HS.out]; simp), yy2⟩
            · skip
              have HS2 := Lib.hid hs2
              clear hs2
              go_wp2_with fail
              go_ret
              exact ⟨ret_bool (by unfold sameFormulaB; rw [HS0.out, HS1.out, HS2.out]; simp [HD_d0.out, HD_d1.out, HD_d2.out]), yy2⟩
      · have HD := Lib.hid (show ¬ d2 = d2' by simpa using hd_d2)
        go_enter Try.func17, Try.ntmps17
        go_wp2_with fail
        rw [← HW.out]
        go_ret
        exact ⟨ret_bool (by unfold sameFormulaB; simp [HD.out]), y0⟩
    · have HD := Lib.hid (show ¬ d1 = d1' by simpa using hd_d1)
      go_enter Try.func17, Try.ntmps17
      go_wp2_with fail
      rw [← HW.out]
      go_ret
      exact ⟨ret_bool (by unfold sameFormulaB; simp [HD.out]), y0⟩
  · have HD := Lib.hid (show ¬ d0 = d0' by simpa using hd_d0)
    go_enter Try.func17, Try.ntmps17
    go_wp2_with fail
    rw [← HW.out]
    go_ret
    exact ⟨ret_bool (by unfold sameFormulaB; simp [HD.out]), y0⟩

set_option maxHeartbeats 400000 in
theorem markFormula_m (T : List TypeId) (d0 : Int) (d1 : Int) (d2 : Int) (A0 : Option Addr) (n0 c0 : Nat) (x0 : List Sl) (A1 : Option Addr) (n1 c1 : Nat) (x1 : List Sl) (A2 : Option Addr) (n2 c2 : Nat) (p : Int) (w : World) (lo hi : Nat) (m0 : MkII w lo hi 26 2 A0 n0 c0 x0) (h0 : n0 ≤ 1048576) (ht0 : total x0 ≤ 1048576) (m1 : MkII w lo hi 26 2 A1 n1 c1 x1) (h1 : n1 ≤ 1048576) (ht1 : total x1 ≤ 1048576) (m2 : Mk w lo hi 2 1 A2 n2) (h2 : n2 ≤ 1048576) (tI : 2 ∈ T) (tII : 26 ∉ T) (tX : 31 ∉ T) (g0 : 0 ≤ p) (g1 : p ≤ 9223372036800000000) :
    Calls Try.prog 20 #[.agg #[.int .i64 d0, .int .i64 d1, .int .i64 d2, .slice A0 n0 c0, .slice A1 n1 c1, .slice A2 n2 c2], .int .i64 p] w (MarkP T w lo hi (total x0 + total x1 + n2) p) := by
  obtain ⟨W, hW⟩ : ∃ W, W = w.alloc (.cells #[.int .i64 d0, .int .i64 d1, .int .i64 d2, .slice A0 n0 c0, .slice A1 n1 c1, .slice A2 n2 c2] 31) := ⟨_, rfl⟩
  have b0 : Blk W w.heap.size 31 #[.int .i64 d0, .int .i64 d1, .int .i64 d2, .slice A0 n0 c0, .slice A1 n1 c1, .slice A2 n2 c2] := by rw [hW]; exact Blk.new w _ _
  have z0 : Below w.heap.size w W := by rw [hW]; exact (Below.refl _ _).alloc (Nat.le_refl _) _
  have HW := Lib.hid hW
  clear hW
  have TI := Lib.hid tI
  have TII := Lib.hid tII
  have TX := Lib.hid tX
  clear tI tII tX
  go_enter Try.func20, Try.ntmps20
  have f0 : MkF T lo hi w W := MkF.of_below z0
  go_wp2_with fail
  rw [← HW.out]
  refine (markII_m T _ _ _ x0 _ _ lo hi (m0.mkf f0 TII.out) TI.out TII.out (by omega) (by omega) (by omega)).mono ?_
  rintro e w0 ⟨rfl, ff0⟩
  have f1 := f0.trans ff0
  have b0 := b0.mkf ff0 TX.out
  have q0 : w0.cell? ⟨w.heap.size, 4, none⟩ = some (.slice A1 n1 c1) := b0.cell 4
  go_wp2_with fail
  refine (markII_m T _ _ _ x1 _ _ lo hi (m1.mkf f1 TII.out) TI.out TII.out (by omega) (by omega) (by omega)).mono ?_
  rintro e w1 ⟨rfl, ff1⟩
  have f2 := f1.trans ff1
  have b0 := b0.mkf ff1 TX.out
  have q1 : w1.cell? ⟨w.heap.size, 5, none⟩ = some (.slice A2 n2 c2) := b0.cell 5
  go_wp2_with fail
  refine (markI_m T _ _ _ _ _ lo hi (m2.mkf f2) TI.out (by omega) (by omega)).mono ?_
  rintro e w2 ⟨rfl, ff2⟩
  have f3 := f2.trans ff2
  have b0 := b0.mkf ff2 TX.out
  go_wp2_with fail
  go_ret
  exact ⟨ret_int (by omega), f3⟩
end Go.Proofs.Ytbpofkggoolmpaa

/-
  Marks that are read again, for [][]int64; owned rows behind other marks.
-/
namespace Go.Proofs.Ytbpofkggoolmpaa
open Go.RowKit

theorem OII.blk_ge {w : World} {lo : Nat} {e2 e1 : TypeId} {A : Option Addr} {n c : Nat} {ts : List Sl} (h : OII w lo e2 e1 A n c ts) : ∀ b, blk A = some b → lo ≤ b := h.1.blk_ge
theorem OII.mono {w : World} {lo lo' : Nat} {e2 e1 : TypeId} {A : Option Addr} {n c : Nat} {ts : List Sl} (h : OII w lo e2 e1 A n c ts) (hl : lo' ≤ lo) : OII w lo' e2 e1 A n c ts := ⟨h.1.mono hl, fun t ht => (h.2.1 t ht).mono hl, h.2.2⟩
theorem OII.alloc {w : World} {lo : Nat} {e2 e1 : TypeId} {A : Option Addr} {n c : Nat} {ts : List Sl} (h : OII w lo e2 e1 A n c ts) (o : Obj) : OII (w.alloc o) lo e2 e1 A n c ts := ⟨h.1.alloc o, fun t ht => (h.2.1 t ht).alloc o, h.2.2⟩
theorem OII.mkf_far {T : List TypeId} {w w' : World} {l hh lo : Nat} {e2 e1 : TypeId} {A : Option Addr} {n c : Nat} {ts : List Sl} (h : OII w lo e2 e1 A n c ts) (hf : MkF T l hh w w') (hd : ∀ b, lo ≤ b → b < l ∨ hh ≤ b) : OII w' lo e2 e1 A n c ts :=
  ⟨h.1.mkf_far hf (fun b hb => hd b (h.1.blk_ge b hb)), fun t ht => (h.2.1 t ht).mkf_far hf (fun b hb => hd b ((h.2.1 t ht).blk_ge b hb)), h.2.2⟩
theorem OII.mkf_below {T : List TypeId} {w0 w w' : World} {l hh lo : Nat} {e2 e1 : TypeId} {A : Option Addr} {n c : Nat} {ts : List Sl} (h0 : OII w0 lo e2 e1 A n c ts) (hl : w0.heap.size ≤ l) (h : OII w lo e2 e1 A n c ts) (hf : MkF T l hh w w') : OII w' lo e2 e1 A n c ts :=
  ⟨h.1.mkf_far hf (fun b hb => .inl (by have := h0.1.blk_lt b hb; omega)), fun t ht => (h.2.1 t ht).mkf_far hf (fun b hb => .inl (by have := (h0.2.1 t ht).blk_lt b hb; omega)), h.2.2⟩
theorem OII.touch_below {w0 w w' : World} {l hh lo : Nat} {e2 e1 : TypeId} {A : Option Addr} {n c : Nat} {ts : List Sl} (h0 : OII w0 lo e2 e1 A n c ts) (hl : w0.heap.size ≤ l) (h : OII w lo e2 e1 A n c ts) (ht : Tch l hh w w') : OII w' lo e2 e1 A n c ts :=
  ⟨h.1.touch ht (fun b hb => .inl (by have := h0.1.blk_lt b hb; omega)), fun t htm => (h.2.1 t htm).touch ht (fun b hb => .inl (by have := (h0.2.1 t htm).blk_lt b hb; omega)), h.2.2⟩

def offs (us : List Sl) (k : Nat) : Nat := total (us.take k)
theorem offs_zero (us : List Sl) : offs us 0 = 0 := by simp [offs, total]
theorem offs_next {us : List Sl} {t : Sl} {k : Nat} (hT : us[k]? = some t) : offs us (k + 1) = offs us k + t.xs.length := total_take hT
theorem offs_le (us : List Sl) (k : Nat) : offs us k ≤ total us := total_take_le us k
theorem offs_end {us : List Sl} {k : Nat} (h : us.length ≤ k) : offs us k = total us := by unfold offs; rw [List.take_of_length_le h]
/-- The rows hold marks that run on from row to row. -/
def MarkedII (w : World) (A : Option Addr) (n : Nat) (us : List Sl) (p : Int) : Prop := Rd w 1 A n (us.map Sl.val) ∧ ∀ k t, us[k]? = some t → SI w t.A t.xs.length (marks (p + offs us k) t.xs.length)
theorem MarkedII.below {w w' : World} {A : Option Addr} {n : Nat} {us : List Sl} {p : Int} (h : MarkedII w A n us p) (z : Below w.heap.size w w') : MarkedII w' A n us p := ⟨h.1.below z, fun k t ht => (h.2 k t ht).below z⟩
def MarkII (w : World) (lo hi : Nat) (A : Option Addr) (n : Nat) (us : List Sl) (p : Int) (e : Ending) (w' : World) : Prop := e = .returned (.int .i64 (p + total us)) ∧ MarkedII w' A n us p ∧ Tch lo hi w w'
/-- What holds behind the first k rows. -/
def MarkTo (w : World) (lo hi : Nat) (A : Option Addr) (n c : Nat) (us : List Sl) (p : Int) (k : Nat) (wr : World) : Prop :=
  Own wr lo 26 1 A n c (us.map Sl.val) ∧ (∀ j t, us[j]? = some t → j < k → SI wr t.A t.xs.length (marks (p + offs us j) t.xs.length)) ∧ (∀ j t, us[j]? = some t → k ≤ j → Own wr lo 2 1 t.A t.xs.length t.c (ints t.xs)) ∧ Tch lo hi w wr
theorem apt_of {us : List Sl} (h : us.Pairwise Apt) {i j : Nat} {t u : Sl} (hi : us[i]? = some t) (hj : us[j]? = some u) (hne : i ≠ j) : ∀ b, blk t.A = some b → blk u.A ≠ some b := by
  obtain ⟨hi1, rfl⟩ := List.getElem?_eq_some_iff.1 hi
  obtain ⟨hj1, rfl⟩ := List.getElem?_eq_some_iff.1 hj
  rw [List.pairwise_iff_getElem] at h
  rcases Nat.lt_or_gt_of_ne hne with hlt | hlt
  · exact h i j hi1 hj1 hlt
  · intro b h1 h2
    exact h j i hj1 hi1 hlt b h2 h1
theorem MarkTo.step {w wr w' : World} {lo hi : Nat} {A : Option Addr} {n c : Nat} {us : List Sl} {p : Int} {k : Nat} {t : Sl} (h : MarkTo w lo hi A n c us p k wr) (hap : us.Pairwise Apt) (hT : us[k]? = some t) (hne : 2 ≠ 26) (ho : OwnE w' lo 2 t.A t.xs.length t.c (marks (p + offs us k) t.xs.length)) (ht : Tch lo hi wr w') (hs : ∀ b, blk t.A ≠ some b → w'.heap[b]? = wr.heap[b]?) : MarkTo w lo hi A n c us p (k + 1) w' := by
  obtain ⟨h1, h2, h3, h4⟩ := h
  have hrow := h3 k t hT (Nat.le_refl _)
  refine ⟨h1.kept fun b hb _ _ => hs b (fun e => hrow.blk_ne h1 hne b e hb), ?_, ?_, h4.trans ht⟩
  · intro j u hu hj
    by_cases e : j = k
    · subst e
      rw [hT] at hu
      cases hu
      exact ho.si
    · refine Rd.keep (h2 j u hu (by omega)) fun q hq hbq => ?_
      exact World.cell?_of_block (hs q.block (fun e2 => apt_of hap hT hu (Ne.symm e) q.block e2 hbq.symm))
  · intro j u hu hj
    exact (h3 j u hu (by omega)).kept fun b hb _ _ => hs b (fun e2 => apt_of hap hT hu (by omega) b e2 hb)

set_option maxHeartbeats 1000000 in
theorem markII_c (A : Option Addr) (n c : Nat) (us : List Sl) (p : Int) (w : World) (lo hi : Nat) (o : OII w lo 26 2 A n c us) (hh : ∀ t ∈ us, ∀ b, blk t.A = some b → b < hi) (hne : 2 ≠ 26) (hn : n ≤ 1048576) (ht : total us ≤ 1048576) (g0 : 0 ≤ p) (g1 : p ≤ 1000000000) :
    Calls Try.prog 98 #[.slice A n c, .int .i64 p] w (MarkII w lo hi A n us p) := by
  have hl : us.length = n := by have := o.1.1; simp at this; omega
  have HL := Lib.hid hl
  have HO := Lib.hid o
  have HNE := Lib.hid hne
  have HH := Lib.hid hh
  clear hl hne hh
  have hst : MarkTo w lo hi A n c us p 0 w := ⟨o.1, fun j t _ hj => absurd hj (Nat.not_lt_zero j), fun j t hT _ => o.2.1 t (List.mem_of_getElem? hT), Tch.refl _ _ _⟩
  clear o
  go_enter Try.func98, Try.ntmps98
  go_wp2
  go_loopw [1, 5] (fun q i wr => ∃ k : Nat, k ≤ n ∧ i = .int .i64 k ∧ q = .int .i64 (p + offs us k) ∧ MarkTo w lo hi A n c us p k wr) (fun _ i _ => n - (intOf i).toNat)
  case atStart => exact ⟨0, by omega, rfl, by simp [offs_zero], hst⟩
  case round =>
    obtain ⟨k, hk, rfl, rfl, hM⟩ := hrel
    have hof := offs_le us k
    by_cases hlt : k < n
    · have hkl : k < us.length := by have := HL.out; omega
      obtain ⟨t, hT⟩ : ∃ t, us[k]? = some t := ⟨us[k], List.getElem?_eq_getElem hkl⟩
      have hof1 := offs_le us (k + 1)
      have HOF := Lib.hid (offs_next hT)
      have hle : offs us k + t.xs.length ≤ total us := by have := HOF.out; omega
      obtain ⟨b, off, rfl, _, _, hc, _⟩ := hM.1.at_ (k := k) (by simpa using hkl)
      have hcv : wr.cell? ⟨b, off + k, none⟩ = some (.slice t.A t.xs.length t.c) := by rw [hc]; obtain ⟨h, rfl⟩ := List.getElem?_eq_some_iff.1 hT; simp [Sl.val]
      have HT := Lib.hid hT
      have hrow := hM.2.2.1 k t hT (Nat.le_refl _)
      have HBL : Hid (∀ b, blk t.A = some b → b < hi) := fun b hb => HH.out t (List.mem_of_getElem? HT.out) b hb
      clear hc hT hof1
      go_wp2_with fail
      refine (markI _ _ _ t.xs _ _ lo hi (.inr hrow) HBL.out (by omega) (by omega)).mono ?_
      rintro e w3 ⟨rfl, oo, t3, s3⟩
      have hM2 := MarkTo.step hM HO.out.2.2 HT.out HNE.out oo t3 s3
      go_wp2_with fail
      go_roundw
      case rel => exact ⟨k + 1, by omega, by go_num, by rw [HOF.out]; go_num, hM2⟩
      case measure => simp [intOf]; omega
    · have hkn : k = us.length := by have := HL.out; omega
      go_wp2
      go_ret
      refine ⟨ret_int ?_, ⟨hM.1.rd, fun j t hT => hM.2.1 j t hT ?_⟩, hM.2.2.2⟩
      · rw [offs_end (by omega)]
      · have := (List.getElem?_eq_some_iff.1 hT).1; omega

set_option maxHeartbeats 1000000 in
theorem heldII_c (A : Option Addr) (n c : Nat) (us : List Sl) (p : Int) (w : World) (h : MarkedII w A n us p) (hn : n ≤ 1048576) (ht : total us ≤ 1048576) (g0 : 0 ≤ p) (g1 : p ≤ 1000000000) :
    Calls Try.prog 100 #[.slice A n c, .int .i64 p] w fun e w' => e = .returned (.int .i64 (p + total us)) ∧ Below w.heap.size w w' := by
  have hl : us.length = n := by have := h.1.1; simp at this; omega
  have HL := Lib.hid hl
  clear hl
  go_enter Try.func100, Try.ntmps100
  go_wp2
  go_loop [1, 5] (fun q i => ∃ k : Nat, k ≤ n ∧ i = .int .i64 k ∧ q = .int .i64 (p + offs us k)) (fun _ i => n - (intOf i).toNat)
  case atStart => exact ⟨0, by omega, rfl, by simp [offs_zero]⟩
  case round =>
    obtain ⟨k, hk, rfl, rfl⟩ := hrel
    have hof := offs_le us k
    by_cases hlt : k < n
    · have hkl : k < us.length := by have := HL.out; omega
      obtain ⟨t, hT⟩ : ∃ t, us[k]? = some t := ⟨us[k], List.getElem?_eq_getElem hkl⟩
      have hof1 := offs_le us (k + 1)
      have HOF := Lib.hid (offs_next hT)
      have hle : offs us k + t.xs.length ≤ total us := by have := HOF.out; omega
      obtain ⟨b, off, rfl, _, hc⟩ := h.1.at_ (k := k) (by simpa using hkl)
      have hcv : w.cell? ⟨b, off + k, none⟩ = some (.slice t.A t.xs.length t.c) := by rw [hc]; obtain ⟨h, rfl⟩ := List.getElem?_eq_some_iff.1 hT; simp [Sl.val]
      have hrow := h.2 k t hT
      have gneg : ¬ (p + (offs us k : Int) + (t.xs.length : Int) < 0) := by omega
      clear hc hT hof1
      go_wp2_with fail
      refine (heldI _ _ _ (marks (p + offs us k) t.xs.length) _ _ hrow (by omega) (by omega)).mono ?_
      rintro e w3 ⟨rfl, rfl⟩
      rw [heldF_marks]
      go_wp2_with fail
      go_round
      case rel => exact ⟨k + 1, by omega, by go_num, by rw [HOF.out]; go_num⟩
      case measure => simp [intOf]; omega
    · have hkn : k = us.length := by have := HL.out; omega
      go_wp2
      go_ret
      exact ⟨ret_int (by rw [offs_end (by omega)]), Below.refl _ _⟩
theorem total_of {us : List Sl} {M : List (List Int)} {b : Nat} (h : nums us = M) (hl : (M.map List.length).sum ≤ b) : total us ≤ b := by rw [total_of_nums, h]; exact hl
end Go.Proofs.Ytbpofkggoolmpaa

/-
  Marks that are read again, for a formula tape.
-/
namespace Go.Proofs.Ytbpofkggoolmpaa
open Go.RowKit

/-- The blocks of the rows. -/
def RowBlk (us : List Sl) (b : Nat) : Prop := ∃ t ∈ us, blk t.A = some b

set_option maxHeartbeats 1000000 in
theorem markII_d (A : Option Addr) (n c : Nat) (us : List Sl) (p : Int) (w : World) (lo hi : Nat) (o : OII w lo 26 2 A n c us) (hh : ∀ t ∈ us, ∀ b, blk t.A = some b → b < hi) (hne : 2 ≠ 26) (hn : n ≤ 1048576) (ht : total us ≤ 1048576) (g0 : 0 ≤ p) (g1 : p ≤ 1000000000) :
    Calls Try.prog 98 #[.slice A n c, .int .i64 p] w fun e w' => MarkII w lo hi A n us p e w' ∧ ∀ b, ¬ RowBlk us b → w'.heap[b]? = w.heap[b]? := by
  have hl : us.length = n := by have := o.1.1; simp at this; omega
  have HL := Lib.hid hl
  have HO := Lib.hid o
  have HNE := Lib.hid hne
  have HH := Lib.hid hh
  clear hl hne hh
  have hst : MarkTo w lo hi A n c us p 0 w := ⟨o.1, fun j t _ hj => absurd hj (Nat.not_lt_zero j), fun j t hT _ => o.2.1 t (List.mem_of_getElem? hT), Tch.refl _ _ _⟩
  clear o
  go_enter Try.func98, Try.ntmps98
  go_wp2
  go_loopw [1, 5] (fun q i wr => ∃ k : Nat, k ≤ n ∧ i = .int .i64 k ∧ q = .int .i64 (p + offs us k) ∧ MarkTo w lo hi A n c us p k wr ∧ Hid (∀ b, ¬ RowBlk us b → wr.heap[b]? = w.heap[b]?)) (fun _ i _ => n - (intOf i).toNat)
  case atStart => exact ⟨0, by omega, rfl, by simp [offs_zero], hst, Lib.hid fun _ _ => rfl⟩
  case round =>
    obtain ⟨k, hk, rfl, rfl, hM, hF⟩ := hrel
    have hof := offs_le us k
    by_cases hlt : k < n
    · have hkl : k < us.length := by have := HL.out; omega
      obtain ⟨t, hT⟩ : ∃ t, us[k]? = some t := ⟨us[k], List.getElem?_eq_getElem hkl⟩
      have hof1 := offs_le us (k + 1)
      have HOF := Lib.hid (offs_next hT)
      have hle : offs us k + t.xs.length ≤ total us := by have := HOF.out; omega
      obtain ⟨b, off, rfl, _, _, hc, _⟩ := hM.1.at_ (k := k) (by simpa using hkl)
      have hcv : wr.cell? ⟨b, off + k, none⟩ = some (.slice t.A t.xs.length t.c) := by rw [hc]; obtain ⟨h, rfl⟩ := List.getElem?_eq_some_iff.1 hT; simp [Sl.val]
      have HT := Lib.hid hT
      have hrow := hM.2.2.1 k t hT (Nat.le_refl _)
      have HBL : Hid (∀ b, blk t.A = some b → b < hi) := fun b hb => HH.out t (List.mem_of_getElem? HT.out) b hb
      clear hc hT hof1
      go_wp2_with fail
      refine (markI _ _ _ t.xs _ _ lo hi (.inr hrow) HBL.out (by omega) (by omega)).mono ?_
      rintro e w3 ⟨rfl, oo, t3, s3⟩
      have hM2 := MarkTo.step hM HO.out.2.2 HT.out HNE.out oo t3 s3
      have hF2 : Hid (∀ b, ¬ RowBlk us b → w3.heap[b]? = w.heap[b]?) := Lib.hid fun b hb => (s3 b (fun e => hb ⟨t, List.mem_of_getElem? HT.out, e⟩)).trans (hF.out b hb)
      go_wp2_with fail
      go_roundw
      case rel => exact ⟨k + 1, by omega, by go_num, by rw [HOF.out]; go_num, hM2, hF2⟩
      case measure => simp [intOf]; omega
    · have hkn : k = us.length := by have := HL.out; omega
      go_wp2
      go_ret
      refine ⟨⟨ret_int ?_, ⟨hM.1.rd, fun j t hT => hM.2.1 j t hT ?_⟩, hM.2.2.2⟩, hF.out⟩
      · rw [offs_end (by omega)]
      · have := (List.getElem?_eq_some_iff.1 hT).1; omega

/-- The walls, the repeaters and the offsets share no block. -/
structure Apart (A : Option Addr) (us : List Sl) (B : Option Addr) (vs : List Sl) (C : Option Addr) : Prop where
  rows : ∀ b, RowBlk us b → ¬ RowBlk vs b
  wo : ∀ b, RowBlk us b → blk C ≠ some b
  ro : ∀ b, RowBlk vs b → blk C ≠ some b
  spine : ∀ b, blk A = some b → blk B ≠ some b
theorem OII.keptR {w w' : World} {lo n c : Nat} {e2 e1 : TypeId} {A : Option Addr} {us : List Sl} (h : OII w lo e2 e1 A n c us) (hk : ∀ b, (blk A = some b ∨ RowBlk us b) → w'.heap[b]? = w.heap[b]?) : OII w' lo e2 e1 A n c us :=
  ⟨h.1.kept fun b hb _ _ => hk b (.inl hb), fun t ht => (h.2.1 t ht).kept fun b hb _ _ => hk b (.inr ⟨t, ht, hb⟩), h.2.2⟩
theorem MarkedII.keptR {w w' : World} {A : Option Addr} {n : Nat} {us : List Sl} {p : Int} (h : MarkedII w A n us p) (hk : ∀ b, (blk A = some b ∨ RowBlk us b) → w'.heap[b]? = w.heap[b]?) : MarkedII w' A n us p :=
  ⟨Rd.keep h.1 fun q _ hq => World.cell?_of_block (hk q.block (.inl hq.symm)), fun k t ht => Rd.keep (h.2 k t ht) fun q _ hq => World.cell?_of_block (hk q.block (.inr ⟨t, List.mem_of_getElem? ht, hq.symm⟩))⟩
theorem OII.spine_ne {w : World} {lo lo' n c n' c' : Nat} {e2 e1 : TypeId} {A B : Option Addr} {us vs : List Sl} (h : OII w lo e2 e1 A n c us) (h' : OII w lo' e2 e1 B n' c' vs) (hne : e1 ≠ e2) : ∀ b, blk A = some b → ¬ RowBlk vs b := by
  rintro b hb ⟨t, ht, e⟩
  exact (h'.2.1 t ht).blk_ne h.1 hne b e hb
theorem OII.own_ne {w : World} {lo lo' n c n' c' : Nat} {e2 e1 : TypeId} {A C : Option Addr} {us : List Sl} {cs : List Value} (h : OII w lo e2 e1 A n c us) (h' : Own w lo' e1 1 C n' c' cs) (hne : e1 ≠ e2) : ∀ b, blk A = some b → blk C ≠ some b := fun b hb e => h'.blk_ne h.1 hne b e hb

def MarkFormula (w : World) (lo hi : Nat) (A : Option Addr) (n : Nat) (us : List Sl) (B : Option Addr) (m : Nat) (vs : List Sl) (C : Option Addr) (l e : Nat) (p : Int) (en : Ending) (w' : World) : Prop :=
  en = .returned (.int .i64 (p + total us + total vs + l)) ∧ MarkedII w' A n us p ∧ MarkedII w' B m vs (p + total us) ∧ OwnE w' lo 2 C l e (marks (p + total us + total vs) l) ∧ Tch lo hi w w'

set_option maxHeartbeats 1000000 in
theorem markFormula_c (d0 d1 d2 : Int) (A : Option Addr) (n c : Nat) (us : List Sl) (B : Option Addr) (m d : Nat) (vs : List Sl) (C : Option Addr) (l e : Nat) (os : List Int) (p : Int) (w : World) (lo hi : Nat) (oA : OII w lo 26 2 A n c us) (oB : OII w lo 26 2 B m d vs) (oC : Own w lo 2 1 C l e (ints os)) (hap : Apart A us B vs C)
    (kA : ∀ t ∈ us, ∀ b, blk t.A = some b → b < hi) (kB : ∀ t ∈ vs, ∀ b, blk t.A = some b → b < hi) (kC : ∀ b, blk C = some b → b < hi) (hhi : hi ≤ w.heap.size) (hne : 2 ≠ 26) (hn : n ≤ 1048576) (hm : m ≤ 1048576) (hl : l ≤ 1048576) (hu : total us ≤ 1048576) (hv : total vs ≤ 1048576) (g0 : 0 ≤ p) (g1 : p ≤ 100000000) :
    Calls Try.prog 20 #[.agg #[.int .i64 d0, .int .i64 d1, .int .i64 d2, .slice A n c, .slice B m d, .slice C l e], .int .i64 p] w (MarkFormula w lo hi A n us B m vs C l e p) := by
  obtain ⟨W, hW_⟩ : ∃ W, W = w.alloc (.cells #[.int .i64 d0, .int .i64 d1, .int .i64 d2, .slice A n c, .slice B m d, .slice C l e] 31) := ⟨_, rfl⟩
  have b0 : Blk W w.heap.size 31 #[.int .i64 d0, .int .i64 d1, .int .i64 d2, .slice A n c, .slice B m d, .slice C l e] := by rw [hW_]; exact Blk.new w _ _
  have z0 : Below w.heap.size w W := by rw [hW_]; exact (Below.refl _ _).alloc (Nat.le_refl _) _
  have HW := Lib.hid hW_
  clear hW_
  have KA := Lib.hid kA
  have KB := Lib.hid kB
  have KC := Lib.hid kC
  have HNE := Lib.hid hne
  have HAP := Lib.hid hap
  have OA := Lib.hid oA
  have OB := Lib.hid oB
  have OC := Lib.hid oC
  clear kA kB kC hne hap oA oB oC
  go_enter Try.func20, Try.ntmps20
  go_wp2_with fail
  rw [← HW.out]
  refine (markII_d _ _ _ us _ _ lo hi (OA.out.below z0) KA.out HNE.out (by omega) (by omega) (by omega) (by omega)).mono ?_
  rintro en w1 ⟨⟨rfl, mA, t1⟩, s1⟩
  have b1 := b0.touch t1 (.inr hhi)
  have S1 := Lib.hid s1
  have MA := Lib.hid mA
  have oB1 := (OB.out.below z0).keptR (w' := w1) (fun b hb => S1.out b (fun hr => hb.elim (fun h => OB.out.spine_ne OA.out HNE.out b h hr) (fun h => HAP.out.rows b hr h)))
  have oC1 := (OC.out.below z0).kept (w' := w1) (fun b hb _ _ => S1.out b (fun hr => HAP.out.wo b hr hb))
  have OC1 := Lib.hid oC1
  clear s1 mA oC1
  have q1 : w1.cell? ⟨w.heap.size, 4, none⟩ = some (.slice B m d) := b1.cell 4
  go_wp2_with fail
  refine (markII_d _ _ _ vs _ _ lo hi oB1 KB.out HNE.out (by omega) (by omega) (by omega) (by omega)).mono ?_
  rintro en w2 ⟨⟨rfl, mB, t2⟩, s2⟩
  have b2 := b1.touch t2 (.inr hhi)
  have S2 := Lib.hid s2
  have MB := Lib.hid mB
  have MA2 := Lib.hid (MA.out.keptR (w' := w2) (fun b hb => S2.out b (fun hr => hb.elim (fun h => OA.out.spine_ne OB.out HNE.out b h hr) (fun h => HAP.out.rows b h hr))))
  have oC2 := OC1.out.kept (w' := w2) (fun b hb _ _ => S2.out b (fun hr => HAP.out.ro b hr hb))
  clear s2 mB
  have q2 : w2.cell? ⟨w.heap.size, 5, none⟩ = some (.slice C l e) := b2.cell 5
  go_wp2_with fail
  refine (markI _ _ _ os _ _ lo hi (.inr oC2) KC.out (by omega) (by omega)).mono ?_
  rintro en w3 ⟨rfl, oo, t3, s3⟩
  have MA3 := Lib.hid (MA2.out.keptR (w' := w3) (fun b hb => s3 b (fun hr => hb.elim (fun h => OA.out.own_ne OC.out HNE.out b h hr) (fun h => HAP.out.wo b h hr))))
  have MB3 := Lib.hid (MB.out.keptR (w' := w3) (fun b hb => s3 b (fun hr => hb.elim (fun h => OB.out.own_ne OC.out HNE.out b h hr) (fun h => HAP.out.ro b h hr))))
  go_wp2_with fail
  go_ret
  exact ⟨rfl, MA3.out, MB3.out, oo, (((Tch.of_below z0).trans t1).trans t2).trans t3⟩

set_option maxHeartbeats 1000000 in
theorem heldFormula_c (d0 d1 d2 : Int) (A : Option Addr) (n c : Nat) (us : List Sl) (B : Option Addr) (m d : Nat) (vs : List Sl) (C : Option Addr) (l e : Nat) (p : Int) (w : World) (mA : MarkedII w A n us p) (mB : MarkedII w B m vs (p + total us)) (mC : SI w C l (marks (p + total us + total vs) l)) (hn : n ≤ 1048576) (hm : m ≤ 1048576) (hl : l ≤ 1048576) (hu : total us ≤ 1048576) (hv : total vs ≤ 1048576) (g0 : 0 ≤ p) (g1 : p ≤ 100000000) :
    Calls Try.prog 21 #[.agg #[.int .i64 d0, .int .i64 d1, .int .i64 d2, .slice A n c, .slice B m d, .slice C l e], .int .i64 p] w fun en w' => en = .returned (.int .i64 (p + total us + total vs + l)) ∧ Below w.heap.size w w' := by
  obtain ⟨W, hW_⟩ : ∃ W, W = w.alloc (.cells #[.int .i64 d0, .int .i64 d1, .int .i64 d2, .slice A n c, .slice B m d, .slice C l e] 31) := ⟨_, rfl⟩
  have b0 : Blk W w.heap.size 31 #[.int .i64 d0, .int .i64 d1, .int .i64 d2, .slice A n c, .slice B m d, .slice C l e] := by rw [hW_]; exact Blk.new w _ _
  have z0 : Below w.heap.size w W := by rw [hW_]; exact (Below.refl _ _).alloc (Nat.le_refl _) _
  have HW := Lib.hid hW_
  clear hW_
  go_enter Try.func21, Try.ntmps21
  go_wp2_with fail
  rw [← HW.out]
  refine (heldII_c _ _ _ us _ _ (mA.below z0) (by omega) (by omega) (by omega) (by omega)).mono ?_
  rintro en w1 ⟨rfl, z1⟩
  have b1 := b0.below' z1
  have y1 := z0.trans (z1.mono z0.size)
  have q1 : w1.cell? ⟨w.heap.size, 4, none⟩ = some (.slice B m d) := b1.cell 4
  have i1 : ¬ (p + (total us : Int) < 0) := by omega
  go_wp2_with fail
  refine (heldII_c _ _ _ vs _ _ (mB.below y1) (by omega) (by omega) (by omega) (by omega)).mono ?_
  rintro en w2 ⟨rfl, z2⟩
  have b2 := b1.below' z2
  have y2 := y1.trans (z2.mono y1.size)
  have q2 : w2.cell? ⟨w.heap.size, 5, none⟩ = some (.slice C l e) := b2.cell 5
  have i2 : ¬ (p + (total us : Int) + (total vs : Int) < 0) := by omega
  go_wp2_with fail
  refine (heldI_b _ _ _ (marks (p + total us + total vs) l) _ _ (mC.below y2) (by omega) (by omega)).mono ?_
  rintro en w3 ⟨rfl, z3⟩
  rw [heldF_marks]
  have i3 : ¬ (p + (total us : Int) + (total vs : Int) + (l : Int) < 0) := by omega
  go_wp2_with fail
  go_ret
  exact ⟨rfl, y2.trans (z3.mono y2.size)⟩
end Go.Proofs.Ytbpofkggoolmpaa

/-
  Slices of rows that grow.
-/
namespace Go.Proofs.Ytbpofkggoolmpaa
open Go.RowKit

theorem OII.snoc {wa w w2 : World} {lo n c c2 k : Nat} {e2 e1 : TypeId} {A A2 : Option Addr} {ts : List Sl} {u : Sl} (h : OII wa lo e2 e1 A n c ts) (hw : OII w lo e2 e1 A n c ts) (hs : Own w2 lo e2 1 A2 (n + 1) c2 (ts.map Sl.val ++ [u.val])) (hg : w.grownBy w2 (blk A))
    (hu : Own w k e1 1 u.A u.xs.length u.c (ints u.xs)) (hk : wa.heap.size ≤ k) (hlk : lo ≤ k) (hne : e1 ≠ e2) : OII w2 lo e2 e1 A2 (n + 1) c2 (ts ++ [u]) := by
  have far : ∀ {B : Option Addr} {m d lo' : Nat} {xs : List Value}, Own w lo' e1 1 B m d xs → Own w2 lo' e1 1 B m d xs := fun ho => ho.grown hg (fun g hgA hb => Own.blk_ne hw.1 ho (fun he => hne he.symm) g hgA hb)
  refine ⟨by simpa using hs, fun t ht => ?_, Apt.snoc h.2.2 (fun t ht b hb hb' => ?_)⟩
  · rcases List.mem_append.1 ht with h1 | h1
    · exact far (hw.2.1 t h1)
    · rw [List.mem_singleton.1 h1]; exact (far hu).mono hlk
  · have h1 := (h.2.1 t ht).blk_lt b hb
    have h2 := hu.blk_ge b hb'
    omega
theorem OII.len {w : World} {lo n c : Nat} {e2 e1 : TypeId} {A : Option Addr} {ts : List Sl} (h : OII w lo e2 e1 A n c ts) : ts.length = n := by have := h.1.1; simp at this; omega
/-- The blocks of a slice of rows. -/
def OIIB (A : Option Addr) (ts : List Sl) (b : Nat) : Prop := blk A = some b ∨ ∃ t ∈ ts, blk t.A = some b
theorem OII.keptB {w w' : World} {lo n c : Nat} {e2 e1 : TypeId} {A : Option Addr} {ts : List Sl} (h : OII w lo e2 e1 A n c ts) (hk : ∀ b, OIIB A ts b → w'.heap[b]? = w.heap[b]?) : OII w' lo e2 e1 A n c ts :=
  ⟨h.1.kept (fun b hb _ _ => hk b (.inl hb)), fun t ht => (h.2.1 t ht).kept (fun b hb _ _ => hk b (.inr ⟨t, ht, hb⟩)), h.2.2⟩
theorem OII.blkB {w : World} {lo n c : Nat} {e2 e1 : TypeId} {A : Option Addr} {ts : List Sl} (h : OII w lo e2 e1 A n c ts) : ∀ b, OIIB A ts b → lo ≤ b ∧ b < w.heap.size := by
  rintro b (hb | ⟨t, ht, hb⟩)
  · exact ⟨h.1.blk_ge b hb, h.1.blk_lt b hb⟩
  · exact ⟨(h.2.1 t ht).blk_ge b hb, (h.2.1 t ht).blk_lt b hb⟩
theorem Blk.aptt {w : World} {g : Nat} {t e : TypeId} {cur : Array Value} {lo n c s : Nat} {A : Option Addr} {cs : List Value} (h : Blk w g t cur) (h' : Own w lo e s A n c cs) (hne : t ≠ e) : blk A ≠ some g := by
  intro hb
  rcases h'.2 with ⟨rfl, _⟩ | ⟨b, off, cur2, rfl, _, hg, _⟩
  · simp [blk] at hb
  · simp [blk] at hb; subst hb
    unfold Blk at h
    rw [hg] at h
    simp at h
    exact hne h.2.symm
theorem Blk.growt {w w2 : World} {g : Nat} {t e : TypeId} {cur : Array Value} {lo n c s : Nat} {A : Option Addr} {cs : List Value} (h : Blk w g t cur) (h' : Own w lo e s A n c cs) (hg : w.grownBy w2 (blk A)) (hne : t ≠ e) : Blk w2 g t cur :=
  (hg.block g h.lt (fun e => h.aptt h' hne e.symm)).trans h
theorem OII.set_box {w : World} {lo n c g i : Nat} {t e2 e1 : TypeId} {cur : Array Value} {A : Option Addr} {ts : List Sl} (h : OII w lo e2 e1 A n c ts) (hb : Blk w g t cur) (h1 : t ≠ e2) (h2 : t ≠ e1) (u : Value) : OII (w.setCell ⟨g, i, none⟩ u) lo e2 e1 A n c ts :=
  ⟨h.1.far (p := ⟨g, i, none⟩) (hb.aptt h.1 h1) u, fun x hx => (h.2.1 x hx).far (p := ⟨g, i, none⟩) (hb.aptt (h.2.1 x hx) h2) u, h.2.2⟩
theorem OII.nil {w : World} {lo c : Nat} {e2 e1 : TypeId} {A : Option Addr} (h : Own w lo e2 1 A 0 c []) : OII w lo e2 e1 A 0 c [] := ⟨h, by simp, List.Pairwise.nil⟩
theorem OII.one {w : World} {lo c : Nat} {e2 e1 : TypeId} {A : Option Addr} {u : Sl} (h : Own w lo e2 1 A 1 c [u.val]) (hu : Own w lo e1 1 u.A u.xs.length u.c (ints u.xs)) : OII w lo e2 e1 A 1 c [u] := ⟨by simpa using h, by simpa using hu, List.pairwise_singleton _ _⟩
end Go.Proofs.Ytbpofkggoolmpaa
