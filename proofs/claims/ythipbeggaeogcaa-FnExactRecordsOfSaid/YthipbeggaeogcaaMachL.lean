/-
  Contracts of impl's runner: runnerOf, symbol, at, rule, halts.
-/
import Derived.Test.YthipbeggaeogcaaMachJ
import Derived.Test.YthipbeggaeogcaaMachK
import Derived.Deep.RegionHeld3
import Derived.Deep.RegionLaw
import Derived.Deep.DeepCutAuto
namespace Go.Proofs.Ythipbeggaeogcaa
open Go.RowKit

/-- A runner in memory. -/
def RunAt (w : World) (g : Nat) (sy st : Int) (A : Option Addr) (n k : Nat) (q : Int) (L : Option Addr) (m c : Nat) (R : Option Addr) (l d : Nat) : Prop :=
  Blk w g 251 #[.int .i64 sy, .int .i64 st, .slice A n k, .int .i64 q, .slice L m c, .slice R l d]

def NewRunner (w : World) (sy st : Int) (A : Option Addr) (n k : Nat) (q : Int) (xs ys : List Int) (e : Ending) (w' : World) : Prop :=
  ∃ g L c R d, e = .returned (.pointer (some ⟨g, 0, none⟩)) ∧ w.heap.size ≤ g ∧ RunAt w' g sy st A n k q L xs.length c R ys.length d ∧ Own w' w.heap.size 2 1 L xs.length c (ints xs.reverse) ∧ Own w' w.heap.size 2 1 R ys.length d (ints ys.reverse) ∧ (∀ b, blk L = some b → blk R ≠ some b) ∧ Below w.heap.size w w'

set_option maxHeartbeats 2000000 in
theorem runnerOf_any (sy st : Int) (A : Option Addr) (n k : Nat) (q : Int) (B : Option Addr) (m c : Nat) (xs : List Int) (C : Option Addr) (l d : Nat) (ys : List Int) (w : World) (hx : SI w B m xs) (hy : SI w C l ys) (hm : m ≤ 1048576) (hl : l ≤ 1048576) :
    Calls Try.prog 170 #[.agg #[.int .i64 sy, .int .i64 st, .slice A n k], .agg #[.int .i64 q, .slice B m c, .slice C l d]] w (NewRunner w sy st A n k q xs ys) := by
  obtain ⟨W, hW⟩ : ∃ W, W = (w.alloc (.cells #[.int .i64 sy, .int .i64 st, .slice A n k] 82)).alloc (.cells #[.int .i64 q, .slice B m c, .slice C l d] 172) := ⟨_, rfl⟩
  have s1 : (w.alloc (.cells #[.int .i64 sy, .int .i64 st, .slice A n k] 82)).heap.size = w.heap.size + 1 := by simp
  have b0 : Blk W w.heap.size 82 #[.int .i64 sy, .int .i64 st, .slice A n k] := by rw [hW]; exact (Blk.new w _ _).alloc _
  have b1 : Blk W (w.heap.size + 1) 172 #[.int .i64 q, .slice B m c, .slice C l d] := by rw [hW, ← s1]; exact Blk.new _ _ _
  have y0 : Below w.heap.size w W := by rw [hW]; exact ((Below.refl _ _).alloc (Nat.le_refl _) _).alloc (by simp) _
  have HW := Lib.hid hW
  clear hW s1
  have q0 : W.cell? ⟨w.heap.size, 0, none⟩ = some (.int .i64 sy) := b0.cell 0
  have q1 : W.cell? ⟨w.heap.size, 1, none⟩ = some (.int .i64 st) := b0.cell 1
  have q2 : W.cell? ⟨w.heap.size, 2, none⟩ = some (.slice A n k) := b0.cell 2
  have q3 : W.cell? ⟨w.heap.size + 1, 0, none⟩ = some (.int .i64 q) := b1.cell 0
  have q4 : W.cell? ⟨w.heap.size + 1, 1, none⟩ = some (.slice B m c) := b1.cell 1
  have q5 : W.cell? ⟨w.heap.size + 1, 2, none⟩ = some (.slice C l d) := b1.cell 2
  have hxW := (hx.below y0).drewN 1
  have hyW := (hy.below y0)
  have hxl : xs.length = m := hx.len
  have hyl : ys.length = l := hy.len
  have HXL := Lib.hid hxl
  have HYL := Lib.hid hyl
  clear hxl hyl
  go_enter Try.func170, Try.ntmps170
  go_wp2_with fail
  rw [← HW.out]
  go_region_held3 (fun w' => w'.cell? ⟨w.heap.size, 0, none⟩ = some (.int .i64 sy) ∧ w'.cell? ⟨w.heap.size, 1, none⟩ = some (.int .i64 st) ∧ w'.cell? ⟨w.heap.size, 2, none⟩ = some (.slice A n k) ∧
      w'.cell? ⟨w.heap.size + 1, 0, none⟩ = some (.int .i64 q) ∧ w'.cell? ⟨w.heap.size + 1, 1, none⟩ = some (.slice B m c) ∧ w'.cell? ⟨w.heap.size + 1, 2, none⟩ = some (.slice C l d))
    (first
      | (go_keep; done)
      | (exact ⟨(b0.below' z3).cell 0, (b0.below' z3).cell 1, (b0.below' z3).cell 2, (b1.below' z3).cell 0, (b1.below' z3).cell 1, (b1.below' z3).cell 2⟩)
      | (exact ⟨(b0.below' z2).cell 0, (b0.below' z2).cell 1, (b0.below' z2).cell 2, (b1.below' z2).cell 0, (b1.below' z2).cell 1, (b1.below' z2).cell 2⟩))
    (first
      | (go_at_call_of 205 (Value.slice B m c); refine (reversed_any _ _ _ xs _ hxW hm).mono ?_; rintro e w2 ⟨L, cl, rfl, ol, z2'⟩; have z2 : Below W.heap.size W w2 := below_undrew z2')
      | (go_at_call_of 205 (Value.slice C l d); refine (reversed_any _ _ _ ys _ (hyW.below z2) hl).mono ?_; rintro e w3 ⟨R, cr, rfl, or_, z3'⟩; have z3 : Below W.heap.size W w3 := z2.trans (z3'.mono z2.size)))
  go_wp2_with fail
  go_ret
  have hz : w.heap.size ≤ W.heap.size := y0.size
  have hz2 : W.heap.size ≤ w2.heap.size := z2.size
  have hz3 : w2.heap.size ≤ w3.heap.size := z3'.size
  rw [List.length_reverse] at ol or_
  have ol2 : Own w3 w.heap.size 2 1 L xs.length cl (ints xs.reverse) := (ol.below z3').mono (by exact hz)
  have or2 : Own w3 w.heap.size 2 1 R ys.length cr (ints ys.reverse) := or_.mono (by omega)
  refine ⟨w3.heap.size, L, cl, R, cr, rfl, by omega, Blk.new w3 _ _, ol2.alloc _, or2.alloc _, fun b h1 h2 => ?_, (y0.trans (z3.mono hz)).alloc (by omega) _⟩
  have h3 := ol.blk_lt b h1
  have h4 := or_.blk_ge b h2
  omega

set_option maxHeartbeats 400000 in
theorem nearest_any (A : Option Addr) (n c : Nat) (xs : List Int) (w : World) (hx : SI w A n xs) (hn : n ≤ 1048576) :
    Calls Try.prog 225 #[.slice A n c] w fun e w' => e = .returned (.int .i64 (lastI xs)) ∧ w = w' := by
  have HL := Lib.hid hx.len
  by_cases hn0 : n = 0
  · subst hn0
    have hx0 : xs = [] := List.eq_nil_of_length_eq_zero HL.out
    subst hx0
    go_enter Try.func225, Try.ntmps225
    go_wp2
    go_ret
    exact ⟨rfl, rfl⟩
  · obtain ⟨b, off, rfl, _, hc⟩ := last_at hx (by omega)
    have g0 : ((n : Int) == 0) = false := by simp; omega
    have i1 : (0 : Int) ≤ (n : Int) - 1 := by omega
    have i2 : ((n : Int) - 1).toNat = n - 1 := by omega
    go_enter Try.func225, Try.ntmps225
    go_wp2
    go_ret
    exact ⟨rfl, rfl⟩

set_option maxHeartbeats 400000 in
theorem symbol_any (g : Nat) (sy st : Int) (A : Option Addr) (n k : Nat) (q : Int) (L : Option Addr) (m c : Nat) (R : Option Addr) (l d : Nat) (ys : List Int) (w : World) (hr : RunAt w g sy st A n k q L m c R l d) (hy : SI w R l ys) (hl : l ≤ 1048576) :
    Calls Try.prog 210 #[.pointer (some ⟨g, 0, none⟩)] w fun e w' => e = .returned (.int .i64 (lastI ys)) ∧ w = w' := by
  have c5 : w.cell? ⟨g, 5, none⟩ = some (.slice R l d) := hr.cell 5
  go_enter Try.func210, Try.ntmps210
  go_wp2_with (go_at_call 225; refine (nearest_any _ _ _ ys _ hy hl).mono ?_; rintro e w' ⟨rfl, rfl⟩)
  go_ret
  exact ⟨rfl, rfl⟩

/-- The rule's index. -/
def atI (sy q : Int) (ys : List Int) : Int := q * sy + lastI ys

set_option maxHeartbeats 400000 in
theorem at_any (g : Nat) (sy st : Int) (A : Option Addr) (n k : Nat) (q : Int) (L : Option Addr) (m c : Nat) (R : Option Addr) (l d : Nat) (ys : List Int) (w : World) (hr : RunAt w g sy st A n k q L m c R l d) (hy : SI w R l ys) (hl : l ≤ 1048576)
    (h1 : 0 ≤ q * sy) (h2 : q * sy ≤ 1000000) (h3 : 0 ≤ lastI ys) (h4 : lastI ys ≤ 1000000) :
    Calls Try.prog 181 #[.pointer (some ⟨g, 0, none⟩)] w fun e w' => e = .returned (.int .i64 (atI sy q ys)) ∧ ∃ nq, w' = w.drewN nq := by
  have c0 : w.cell? ⟨g, 0, none⟩ = some (.int .i64 sy) := hr.cell 0
  have c3 : w.cell? ⟨g, 3, none⟩ = some (.int .i64 q) := hr.cell 3
  have w1 : IntKind.i64.wrap (q * sy) = q * sy := IntWalk.i64_in _ (by omega)
  have w2 : IntKind.i64.wrap (q * sy + lastI ys) = q * sy + lastI ys := IntWalk.i64_in _ (by omega)
  go_enter Try.func181, Try.ntmps181
  go_wp2_with fail
  go_quiet ((go_at_call 210; exact quiet_left (symbol_any _ _ _ _ _ _ _ _ _ _ _ _ _ ys _ (hr.drewN _) (hy.drewN _) hl)))
  clear w1 w2
  go_wp2_with fail
  go_ret
  exact ⟨rfl, _, rfl⟩
end Go.Proofs.Ythipbeggaeogcaa
