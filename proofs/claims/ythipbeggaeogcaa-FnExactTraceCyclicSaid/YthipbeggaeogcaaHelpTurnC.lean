/-
  Marks that are read again, for Turn; a turn in a box.
-/
import Derived.Test.YthipbeggaeogcaaHelpTurn
import Derived.Test.YthipbeggaeogcaaHelpL
namespace Go.Proofs.Ythipbeggaeogcaa
open Go.RowKit

theorem turn_set {w : World} {g : Nat} {a b : Value} {t : TypeId} (h : Blk w g t #[a, b]) (x y : Value) : Blk ((w.setCell ⟨g, 0, none⟩ x).setCell ⟨g, 1, none⟩ y) g t #[x, y] := (h.set_ 0 x).set_ 1 y
theorem turn_below {w w' : World} {g lo : Nat} (h : Below lo w w') (hg : lo ≤ g) (x y : Value) : Below lo w ((w'.setCell ⟨g, 0, none⟩ x).setCell ⟨g, 1, none⟩ y) := (h.setCell hg _).setCell hg _
theorem turn_far {w : World} {g lo s n c : Nat} {t : TypeId} {A : Option Addr} {cs : List Value} (h : Own w lo t s A n c cs) (hg : g < lo) (x y : Value) : Own ((w.setCell ⟨g, 0, none⟩ x).setCell ⟨g, 1, none⟩ y) lo t s A n c cs := by
  have hb : blk A ≠ some g := fun e => by have := h.blk_ge g e; omega
  exact (h.far (p := ⟨g, 0, none⟩) hb _).far (p := ⟨g, 1, none⟩) hb _
theorem turn_ne {w : World} {g : Nat} {cs : Array Value} {lo s n' c' : Nat} {X : Option Addr} {xs : List Value} (h : Blk w g 30 cs) (h' : Own w lo 2 s X n' c' xs) : blk X ≠ some g := by
  intro hb
  rcases h'.2 with ⟨rfl, _⟩ | ⟨b, off, cur, rfl, _, hg, _⟩
  · simp [blk] at hb
  · simp [blk] at hb; subst hb
    unfold Blk at h
    rw [hg] at h
    simp at h
theorem turn_far2 {w : World} {g lo n c : Nat} {A : Option Addr} {cs : List Value} {vs : Array Value} (hg : Blk w g 30 vs) (h : Own w lo 2 1 A n c cs) (x y : Value) : Own ((w.setCell ⟨g, 0, none⟩ x).setCell ⟨g, 1, none⟩ y) lo 2 1 A n c cs := by
  have hb : blk A ≠ some g := turn_ne hg h
  exact (h.far (p := ⟨g, 0, none⟩) hb _).far (p := ⟨g, 1, none⟩) hb _

def MarkTurn (w : World) (lo hi : Nat) (A : Option Addr) (n c : Nat) (p : Int) (e : Ending) (w' : World) : Prop :=
  e = .returned (.int .i64 (p + n)) ∧ OwnE w' lo 2 A n c (marks p n) ∧ Tch lo hi w w'

set_option maxHeartbeats 400000 in
theorem markTurn_c (d0 : Int) (A : Option Addr) (n c : Nat) (xs : List Int) (p : Int) (w : World) (lo hi : Nat) (o : Own w lo 2 1 A n c (ints xs)) (k0 : ∀ b, blk A = some b → b < hi) (h0 : n ≤ 1048576) (g0 : 0 ≤ p) (g1 : p ≤ 1000000000) :
    Calls Try.prog 23 #[.agg #[.int .i64 d0, .slice A n c], .int .i64 p] w (MarkTurn w lo hi A n c p) := by
  obtain ⟨W, hW_⟩ : ∃ W, W = w.alloc (.cells #[.int .i64 d0, .slice A n c] 30) := ⟨_, rfl⟩
  have b0 : Blk W w.heap.size 30 #[.int .i64 d0, .slice A n c] := by rw [hW_]; exact Blk.new w _ _
  have z0 : Below w.heap.size w W := by rw [hW_]; exact (Below.refl _ _).alloc (Nat.le_refl _) _
  have HW := Lib.hid hW_
  clear hW_
  have K0 := Lib.hid k0
  clear k0
  go_enter Try.func23, Try.ntmps23
  go_wp2_with fail
  rw [← HW.out]
  refine (markI _ _ _ xs _ _ lo hi (.inr (o.below z0)) K0.out (by omega) (by omega)).mono ?_
  rintro e w0 ⟨rfl, oo, t0, s0⟩
  go_wp2_with fail
  go_ret
  exact ⟨rfl, oo, (Tch.of_below z0).trans t0⟩

set_option maxHeartbeats 400000 in
theorem heldTurn_c (d0 : Int) (A : Option Addr) (n c : Nat) (p : Int) (w : World) (r0 : SI w A n (marks p n)) (h0 : n ≤ 1048576) (g0 : 0 ≤ p) (g1 : p ≤ 1000000000) :
    Calls Try.prog 24 #[.agg #[.int .i64 d0, .slice A n c], .int .i64 p] w fun e w' => e = .returned (.int .i64 (p + n)) ∧ Below w.heap.size w w' := by
  obtain ⟨W, hW_⟩ : ∃ W, W = w.alloc (.cells #[.int .i64 d0, .slice A n c] 30) := ⟨_, rfl⟩
  have b0 : Blk W w.heap.size 30 #[.int .i64 d0, .slice A n c] := by rw [hW_]; exact Blk.new w _ _
  have z0 : Below w.heap.size w W := by rw [hW_]; exact (Below.refl _ _).alloc (Nat.le_refl _) _
  have HW := Lib.hid hW_
  clear hW_
  have i1 : ¬ (p + (n : Int) < 0) := by omega
  go_enter Try.func24, Try.ntmps24
  go_wp2_with fail
  rw [← HW.out]
  refine (heldI _ _ _ (marks p n) _ _ (r0.below z0) (by omega) (by omega)).mono ?_
  rintro e w0 ⟨rfl, rfl⟩
  rw [heldF_marks]
  go_wp2_with fail
  go_ret
  exact ⟨rfl, z0⟩
end Go.Proofs.Ythipbeggaeogcaa
