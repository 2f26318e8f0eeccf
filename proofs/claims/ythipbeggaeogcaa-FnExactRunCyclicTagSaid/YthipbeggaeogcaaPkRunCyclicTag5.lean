/-
  Contracts of the laws' helpers over Turn: szTurn, toTurn, eqTurn, markTurn.
-/
import Derived.Test.YthipbeggaeogcaaPkRunCyclicTag2
import Derived.Test.YthipbeggaeogcaaPkRunCyclicTag3
import Derived.Test.YthipbeggaeogcaaPkRunCyclicTag4
import Derived.BigGuardPart
import Derived.RangeFuncNested
import Derived.RangeFuncBound
import Derived.RangeFuncCalls
import Derived.RangeFuncLeaves
import Derived.Shelf.Abstract
import Derived.Shelf.RegionOpen
import Derived.OwnWalkIn
import Derived.TacticsInMore
import Derived.LoopNIn
import Derived.LoopIn
import Derived.BigRegionIn
namespace Go.Proofs.Ythipbeggaeogcaa
open Go.RowKit

set_option maxHeartbeats 400000 in
theorem szTurn_any (d0 : Int) (A0 : Option Addr) (n0 c0 : Nat) (left : Int) (w : World) (h0 : n0 ≤ 9223372036854775807) (g0 : 0 ≤ left) (g1 : left ≤ 1048576) :
    Calls Try.prog 15 #[.agg #[.int .i64 d0, .slice A0 n0 c0], .int .i64 left] w (SzP w left ((n0 : Int))) := by
  obtain ⟨W, hW⟩ : ∃ W, W = w.alloc (.cells #[.int .i64 d0, .slice A0 n0 c0] 27) := ⟨_, rfl⟩
  have b0 : Blk W w.heap.size 27 #[.int .i64 d0, .slice A0 n0 c0] := by rw [hW]; exact Blk.new w _ _
  have z0 : Below w.heap.size w W := by rw [hW]; exact (Below.refl _ _).alloc (Nat.le_refl _) _
  have HW := Lib.hid hW
  clear hW
  go_enter Try.func15, Try.ntmps15
  go_wp2_with fail
  rw [← HW.out]
  refine (szI_p A0 n0 c0 left W h0 (by omega) (by omega)).mono ?_
  rintro e w1 ⟨z1, rfl, l1, u1, e1, b1⟩
  have E1 := Lib.hid e1
  clear e1
  have y1 : Below w.heap.size w w1 := z0.trans (b1.mono z0.size)
  by_cases hneg1 : z1 < 0
  · go_wp2_with fail
    go_ret
    exact ⟨-1, rfl, by omega, by omega, by omega, y1⟩
  go_wp2_with fail
  go_ret
  exact ⟨z1, rfl, by omega, by omega, fun _ => by have t1 := E1.out (by omega); omega, y1⟩

def ToTurn (w : World) (d0 : Int) (n0 : Nat) (x0 : List Int) (e : Ending) (w' : World) : Prop :=
  ∃ B0, e = .returned (.agg #[.int .i64 d0, .slice B0 n0 n0]) ∧ Own w' w.heap.size 2 1 B0 n0 n0 (ints x0) ∧ Below w.heap.size w w'

set_option maxHeartbeats 1000000 in
theorem toTurn_any (d0 : Int) (A0 : Option Addr) (n0 c0 : Nat) (x0 : List Int) (w : World) (r0 : SI w A0 n0 x0) (h0 : n0 ≤ 1048576) :
    Calls Try.prog 18 #[.agg #[.int .i64 d0, .slice A0 n0 c0]] w (ToTurn w d0 n0 x0) := by
  obtain ⟨W, hW⟩ : ∃ W, W = ((w.alloc (.cells #[.int .i64 d0, .slice A0 n0 c0] 27)).alloc (.cells #[.int .i64 0, .slice none 0 0] 30)).alloc (.cells #[.int .i64 d0, .slice none 0 0] 30) := ⟨_, rfl⟩
  have s1 : (w.alloc (.cells #[.int .i64 d0, .slice A0 n0 c0] 27)).heap.size = w.heap.size + 1 := by simp
  have s2 : ((w.alloc (.cells #[.int .i64 d0, .slice A0 n0 c0] 27)).alloc (.cells #[.int .i64 0, .slice none 0 0] 30)).heap.size = w.heap.size + 1 + 1 := by simp
  have b0 : Blk W w.heap.size 27 #[.int .i64 d0, .slice A0 n0 c0] := by rw [hW]; exact ((Blk.new w _ _).alloc _).alloc _
  have b1 : Blk W (w.heap.size + 1) 30 #[.int .i64 0, .slice none 0 0] := by rw [hW, ← s1]; exact (Blk.new _ _ _).alloc _
  have b2 : Blk W (w.heap.size + 1 + 1) 30 #[.int .i64 d0, .slice none 0 0] := by rw [hW, ← s2]; exact Blk.new _ _ _
  have y0 : Below w.heap.size w W := by rw [hW]; exact (((Below.refl _ _).alloc (Nat.le_refl _) _).alloc (by simp) _).alloc (by simp; omega) _
  have hz : w.heap.size + 1 + 1 < W.heap.size := b2.lt
  have HW := Lib.hid hW
  clear hW s1 s2
  go_enter Try.func18, Try.ntmps18
  go_wp2_with fail
  rw [← HW.out]
  clear HW
  refine (toI _ _ _ x0 _ (r0.below y0) h0).mono ?_
  rintro e w0 ⟨B0, rfl, o0, bz0⟩
  have b0 := b0.below' bz0
  have b1 := b1.below' bz0
  have b2 := b2.below' bz0
  have yc0 : Below w.heap.size w w0 := y0.trans (bz0.mono y0.size)
  have hw0 : W.heap.size ≤ w0.heap.size := by have := bz0.size; omega
  have p0 : w0.cell? ⟨w.heap.size + 1 + 1, 1, none⟩ = some (.slice none 0 0) := b2.cell 1
  have pf0 := b2.frozen 1
  have a0 : w0.cell? ⟨w.heap.size + 1 + 1, 0, none⟩ = some (.int .i64 d0) := b2.cell 0
  have c0_ : w0.cell? ⟨w.heap.size + 1, 0, none⟩ = some (.int .i64 0) := b1.cell 0
  have f0_ := b1.frozen 0
  have c1_ : w0.cell? ⟨w.heap.size + 1, 1, none⟩ = some (.slice none 0 0) := b1.cell 1
  have f1_ := b1.frozen 1
  go_wp2_with fail
  have dB : Blk (((w0.setCell ⟨w.heap.size + 1 + 1, 1, none⟩ (.slice B0 n0 n0)).setCell ⟨w.heap.size + 1, 0, none⟩ (.int .i64 d0)).setCell ⟨w.heap.size + 1, 1, none⟩ (.slice B0 n0 n0)) (w.heap.size + 1) 30 #[.int .i64 d0, .slice B0 n0 n0] := ((b1.far (p := ⟨w.heap.size + 1 + 1, 1, none⟩) (by simp) _).set_ 0 _).set_ 1 _
  have m0 : Own (((w0.setCell ⟨w.heap.size + 1 + 1, 1, none⟩ (.slice B0 n0 n0)).setCell ⟨w.heap.size + 1, 0, none⟩ (.int .i64 d0)).setCell ⟨w.heap.size + 1, 1, none⟩ (.slice B0 n0 n0)) W.heap.size 2 1 B0 n0 n0 (ints x0) := ((o0.far (fun e => by have := o0.blk_ge _ e; simp at this; omega) _).far (fun e => by have := o0.blk_ge _ e; simp at this; omega) _).far (fun e => by have := o0.blk_ge _ e; simp at this; omega) _
  have yf : Below w.heap.size w (((w0.setCell ⟨w.heap.size + 1 + 1, 1, none⟩ (.slice B0 n0 n0)).setCell ⟨w.heap.size + 1, 0, none⟩ (.int .i64 d0)).setCell ⟨w.heap.size + 1, 1, none⟩ (.slice B0 n0 n0)) := ((yc0.setCell (by simp; omega) _).setCell (by simp) _).setCell (by simp) _
  generalize ((w0.setCell ⟨w.heap.size + 1 + 1, 1, none⟩ (.slice B0 n0 n0)).setCell ⟨w.heap.size + 1, 0, none⟩ (.int .i64 d0)).setCell ⟨w.heap.size + 1, 1, none⟩ (.slice B0 n0 n0) = wf at *
  have g0_ : wf.cell? ⟨w.heap.size + 1, 0, none⟩ = some (.int .i64 d0) := dB.cell 0
  have g1_ : wf.cell? ⟨w.heap.size + 1, 1, none⟩ = some (.slice B0 n0 n0) := dB.cell 1
  have hres : ToTurn w d0 n0 x0 (.returned (.agg #[.int .i64 d0, .slice B0 n0 n0])) wf := ⟨B0, rfl, m0.mono (by omega), yf⟩
  exact bodyPost_ret (v := .agg #[.int .i64 d0, .slice B0 n0 n0]) (by simp [results, Try.results18, go_sem, g0_, g1_]) rfl hres

def sameTurnB (d0 d0' : Int) (x0 x0' : List Int) : Bool :=
  decide (d0 = d0') && sameI x0 x0'
theorem sameTurnB_self (d0 : Int) (x0 : List Int) : sameTurnB d0 d0 x0 x0 = true := by simp [sameTurnB, sameI]

set_option maxHeartbeats 1000000 in
theorem eqTurn_any (d0 : Int) (A0 : Option Addr) (n0 c0 : Nat) (x0 : List Int) (d0' : Int) (A0' : Option Addr) (n0' c0' : Nat) (x0' : List Int) (w : World) (r0 : SI w A0 n0 x0) (r0' : SI w A0' n0' x0') (h0 : n0 ≤ 1048576) :
    Calls Try.prog 20 #[.agg #[.int .i64 d0, .slice A0 n0 c0], .agg #[.int .i64 d0', .slice A0' n0' c0']] w fun e w' => e = .returned (.bool (sameTurnB d0 d0' x0 x0')) ∧ Below w.heap.size w w' := by
  obtain ⟨W, hW⟩ : ∃ W, W = (w.alloc (.cells #[.int .i64 d0, .slice A0 n0 c0] 30)).alloc (.cells #[.int .i64 d0', .slice A0' n0' c0'] 30) := ⟨_, rfl⟩
  have s1 : (w.alloc (.cells #[.int .i64 d0, .slice A0 n0 c0] 30)).heap.size = w.heap.size + 1 := by simp
  have b0 : Blk W w.heap.size 30 #[.int .i64 d0, .slice A0 n0 c0] := by rw [hW]; exact (Blk.new w _ _).alloc _
  have b1 : Blk W (w.heap.size + 1) 30 #[.int .i64 d0', .slice A0' n0' c0'] := by rw [hW, ← s1]; exact Blk.new _ _ _
  have y0 : Below w.heap.size w W := by rw [hW]; exact ((Below.refl _ _).alloc (Nat.le_refl _) _).alloc (by simp) _
  have HW := Lib.hid hW
  clear hW s1
  cases hd_d0 : (d0 != d0')
  · skip
    have HD_d0 := Lib.hid (show d0 = d0' by simpa using hd_d0)
    go_enter Try.func20, Try.ntmps20
    go_wp2_with fail
    rw [← HW.out]
    clear hd_d0
    refine (eqI _ _ _ _ _ _ x0 x0' _ (r0.below y0) (r0'.below y0) (by omega)).mono ?_
    rintro e w0' ⟨rfl, q0, rfl⟩
    have bz0 : Below W.heap.size W (W.drewN q0) := below_drewN (Below.refl _ _) _
    generalize W.drewN q0 = w0 at *
    have yy0 : Below w.heap.size w w0 := y0.trans (bz0.mono y0.size)
    have b0 := b0.below' bz0
    have b1 := b1.below' bz0
    cases hs0 : sameI x0 x0'
    · have HS := Lib.hid hs0
      clear hs0
      go_wp2_with fail
      go_ret
      exact ⟨ret_bool (by unfold sameTurnB; rw [HS.out]; simp), yy0⟩
    · skip
      have HS0 := Lib.hid hs0
      clear hs0
      go_wp2_with fail
      go_ret
      exact ⟨ret_bool (by unfold sameTurnB; rw [HS0.out]; simp [HD_d0.out]), yy0⟩
  · have HD := Lib.hid (show ¬ d0 = d0' by simpa using hd_d0)
    go_enter Try.func20, Try.ntmps20
    go_wp2_with fail
    rw [← HW.out]
    go_ret
    exact ⟨ret_bool (by unfold sameTurnB; simp [HD.out]), y0⟩

set_option maxHeartbeats 400000 in
theorem markTurn_m (T : List TypeId) (d0 : Int) (A0 : Option Addr) (n0 c0 : Nat) (p : Int) (w : World) (lo hi : Nat) (m0 : Mk w lo hi 2 1 A0 n0) (h0 : n0 ≤ 1048576) (tI : 2 ∈ T) (tX : 30 ∉ T) (g0 : 0 ≤ p) (g1 : p ≤ 9223372036800000000) :
    Calls Try.prog 23 #[.agg #[.int .i64 d0, .slice A0 n0 c0], .int .i64 p] w (MarkP T w lo hi (n0) p) := by
  obtain ⟨W, hW⟩ : ∃ W, W = w.alloc (.cells #[.int .i64 d0, .slice A0 n0 c0] 30) := ⟨_, rfl⟩
  have b0 : Blk W w.heap.size 30 #[.int .i64 d0, .slice A0 n0 c0] := by rw [hW]; exact Blk.new w _ _
  have z0 : Below w.heap.size w W := by rw [hW]; exact (Below.refl _ _).alloc (Nat.le_refl _) _
  have HW := Lib.hid hW
  clear hW
  have TI := Lib.hid tI
  have TX := Lib.hid tX
  clear tI tX
  go_enter Try.func23, Try.ntmps23
  have f0 : MkF T lo hi w W := MkF.of_below z0
  go_wp2_with fail
  rw [← HW.out]
  refine (markI_m T _ _ _ _ _ lo hi (m0.mkf f0) TI.out (by omega) (by omega)).mono ?_
  rintro e w0 ⟨rfl, ff0⟩
  have f1 := f0.trans ff0
  have b0 := b0.mkf ff0 TX.out
  go_wp2_with fail
  go_ret
  exact ⟨ret_int (by omega), f1⟩
end Go.Proofs.Ythipbeggaeogcaa

/-
  Marks that are read again, for Turn; a turn in a box.
-/
namespace Go.Proofs.Ythipbeggaeogcaa
open Go.RowKit

theorem turn_set {w : World} {g : Nat} {a b : Value} {t : TypeId} (h : Blk w g t #[a, b]) (x y : Value) : Blk ((w.setCell ⟨g, 0, none⟩ x).setCell ⟨g, 1, none⟩ y) g t #[x, y] := (h.set_ 0 x).set_ 1 y
theorem turn_below {w w' : World} {g lo : Nat} (h : Below lo w w') (hg : lo ≤ g) (x y : Value) : Below lo w ((w'.setCell ⟨g, 0, none⟩ x).setCell ⟨g, 1, none⟩ y) := (h.setCell hg _).setCell hg _
theorem turn_far {w : World} {g lo s n c : Nat} {t : TypeId} {A : Option Addr} {cs : List Value} (h : Own w lo t s A n c cs) (hg : g < lo) (x y : Value) : Own ((w.setCell ⟨g, 0, none⟩ x).setCell ⟨g, 1, none⟩ y) lo t s A n c cs := by
  have hb : blk A ≠ some g := fun e => by have := h.blk_ge g e; omega
  exact (h.far (p := ⟨g, 0, none⟩) hb _).far (p := ⟨g, 1, none⟩) hb _
theorem turn_ne {w : World} {g : Nat} {cs : Array Value} {lo s n' c' : Nat} {X : Option Addr} {xs : List Value} (h : Blk w g 30 cs) (h' : Own w lo 2 s X n' c' xs) : blk X ≠ some g := by
  intro hb
  rcases h'.2 with ⟨rfl, _⟩ | ⟨b, off, cur, rfl, _, hg, _⟩
  · simp [blk] at hb
  · simp [blk] at hb; subst hb
    unfold Blk at h
    rw [hg] at h
    simp at h
theorem turn_far2 {w : World} {g lo n c : Nat} {A : Option Addr} {cs : List Value} {vs : Array Value} (hg : Blk w g 30 vs) (h : Own w lo 2 1 A n c cs) (x y : Value) : Own ((w.setCell ⟨g, 0, none⟩ x).setCell ⟨g, 1, none⟩ y) lo 2 1 A n c cs := by
  have hb : blk A ≠ some g := turn_ne hg h
  exact (h.far (p := ⟨g, 0, none⟩) hb _).far (p := ⟨g, 1, none⟩) hb _

def MarkTurn (w : World) (lo hi : Nat) (A : Option Addr) (n c : Nat) (p : Int) (e : Ending) (w' : World) : Prop :=
  e = .returned (.int .i64 (p + n)) ∧ OwnE w' lo 2 A n c (marks p n) ∧ Tch lo hi w w'

set_option maxHeartbeats 400000 in
theorem markTurn_c (d0 : Int) (A : Option Addr) (n c : Nat) (xs : List Int) (p : Int) (w : World) (lo hi : Nat) (o : Own w lo 2 1 A n c (ints xs)) (k0 : ∀ b, blk A = some b → b < hi) (h0 : n ≤ 1048576) (g0 : 0 ≤ p) (g1 : p ≤ 1000000000) :
    Calls Try.prog 23 #[.agg #[.int .i64 d0, .slice A n c], .int .i64 p] w (MarkTurn w lo hi A n c p) := by
  obtain ⟨W, hW_⟩ : ∃ W, W = w.alloc (.cells #[.int .i64 d0, .slice A n c] 30) := ⟨_, rfl⟩
  have b0 : Blk W w.heap.size 30 #[.int .i64 d0, .slice A n c] := by rw [hW_]; exact Blk.new w _ _
  have z0 : Below w.heap.size w W := by rw [hW_]; exact (Below.refl _ _).alloc (Nat.le_refl _) _
  have HW := Lib.hid hW_
  clear hW_
  have K0 := Lib.hid k0
  clear k0
  go_enter Try.func23, Try.ntmps23
  go_wp2_with fail
  rw [← HW.out]
  refine (markI _ _ _ xs _ _ lo hi (.inr (o.below z0)) K0.out (by omega) (by omega)).mono ?_
  rintro e w0 ⟨rfl, oo, t0, s0⟩
  go_wp2_with fail
  go_ret
  exact ⟨rfl, oo, (Tch.of_below z0).trans t0⟩

set_option maxHeartbeats 400000 in
theorem heldTurn_c (d0 : Int) (A : Option Addr) (n c : Nat) (p : Int) (w : World) (r0 : SI w A n (marks p n)) (h0 : n ≤ 1048576) (g0 : 0 ≤ p) (g1 : p ≤ 1000000000) :
    Calls Try.prog 24 #[.agg #[.int .i64 d0, .slice A n c], .int .i64 p] w fun e w' => e = .returned (.int .i64 (p + n)) ∧ Below w.heap.size w w' := by
  obtain ⟨W, hW_⟩ : ∃ W, W = w.alloc (.cells #[.int .i64 d0, .slice A n c] 30) := ⟨_, rfl⟩
  have b0 : Blk W w.heap.size 30 #[.int .i64 d0, .slice A n c] := by rw [hW_]; exact Blk.new w _ _
  have z0 : Below w.heap.size w W := by rw [hW_]; exact (Below.refl _ _).alloc (Nat.le_refl _) _
  have HW := Lib.hid hW_
  clear hW_
  have i1 : ¬ (p + (n : Int) < 0) := by omega
  go_enter Try.func24, Try.ntmps24
  go_wp2_with fail
  rw [← HW.out]
  refine (heldI _ _ _ (marks p n) _ _ (r0.below z0) (by omega) (by omega)).mono ?_
  rintro e w0 ⟨rfl, rfl⟩
  rw [heldF_marks]
  go_wp2_with fail
  go_ret
  exact ⟨rfl, z0⟩
end Go.Proofs.Ythipbeggaeogcaa

/-
  Contracts of impl.TurnOfWord and impl.tagSteps.
-/
namespace Go.Proofs.Ythipbeggaeogcaa
open Go.RowKit

def turnOfWordF (d : Int) (words : List (List Int)) (hs xs : List Int) : Tu × Int :=
  if tagCodeF d words hs xs = 0 then
    if cycFitsB d.toNat words && decide (xs.length * words.length ≤ 1000) then (⟨0, codesL words.length xs⟩, 0) else (⟨0, []⟩, 5)
  else (⟨0, []⟩, 1)
theorem turnOfWordF_bad {d : Int} {words : List (List Int)} {hs xs : List Int} (h : tagCodeF d words hs xs = 1) : turnOfWordF d words hs xs = (⟨0, []⟩, 1) := by unfold turnOfWordF; rw [h]; simp
/-- A new turn and a code. -/
def NewTu2 (w : World) (r : Tu × Int) (e : Ending) (w' : World) : Prop :=
  ∃ A c, e = .returned (.tuple #[.agg #[.int .i64 r.1.at_, .slice A r.1.word.length c], .int .i64 r.2]) ∧ Own w' w.heap.size 2 1 A r.1.word.length c (ints r.1.word) ∧ Below w.heap.size w w'
theorem tu2_nil {w wf : World} {k : Int} {r : Tu × Int} (hr : r = (⟨0, []⟩, k)) (hz : Below w.heap.size w wf) : NewTu2 w r (.returned (.tuple #[.agg #[.int .i64 0, .slice none 0 0], .int .i64 k])) wf := by
  subst hr; exact ⟨none, 0, rfl, Own.nil, hz⟩

set_option maxRecDepth 100000 in
set_option maxHeartbeats 4000000 in
theorem turnOfWord_any (d : Int) (A : Option Addr) (n c : Nat) (ts : List Sl) (B : Option Addr) (m k : Nat) (hs : List Int) (C : Option Addr) (l r : Nat) (xs : List Int) (w : World) (hx : SII w A n ts) (hy : SI w B m hs) (hz : SI w C l xs) (hn : n ≤ 1048576) (hm : m ≤ 1048576) (hl : l ≤ 1048576) (hns : ∀ t ∈ ts, t.xs.length ≤ 1048576) :
    Calls Try.prog 48 #[.agg #[.int .i64 d, .slice A n c, .slice B m k], .slice C l r] w (NewTu2 w (turnOfWordF d (nums ts) hs xs)) := by
  have HLN : Hid ((nums ts).length = n) := Lib.hid (by have := hx.len; simpa [nums] using this)
  have HXL := Lib.hid hz.len
  have HNS := Lib.hid hns
  clear hns
  obtain ⟨W, hW_⟩ : ∃ W, W = (w.alloc (.cells #[.int .i64 d, .slice A n c, .slice B m k] 51)).alloc (.cells #[.int .i64 0, .slice none 0 0] 30) := ⟨_, rfl⟩
  have s_1 : (w.alloc (.cells #[.int .i64 d, .slice A n c, .slice B m k] 51)).heap.size = w.heap.size + 1 := by simp
  have b0 : Blk W w.heap.size 51 #[.int .i64 d, .slice A n c, .slice B m k] := by rw [hW_]; exact (Blk.new w _ _).alloc _
  have b1 : Blk W (w.heap.size + 1) 30 #[.int .i64 0, .slice none 0 0] := by rw [hW_, ← s_1]; exact Blk.new _ _ _
  have y0 : Below w.heap.size w W := by rw [hW_]; exact ((Below.refl _ _).alloc (Nat.le_refl _) _).alloc (by simp) _
  have HW := Lib.hid hW_
  clear hW_ s_1
  have q0 : W.cell? ⟨w.heap.size, 0, none⟩ = some (.int .i64 d) := b0.cell 0
  have q1 : W.cell? ⟨w.heap.size, 1, none⟩ = some (.slice A n c) := b0.cell 1
  have q2 : W.cell? ⟨w.heap.size, 2, none⟩ = some (.slice B m k) := b0.cell 2
  go_enter Try.func48, Try.ntmps48
  go_wp2_with fail
  rw [← HW.out]
  refine (tagCode_any _ _ _ _ ts _ _ _ hs _ _ _ xs _ (hx.below y0) (hy.below y0) (hz.below y0) hn hm hl (fun t ht => by have := HNS.out t ht; omega)).mono ?_
  rintro e w2 ⟨rfl, z2⟩
  have y2 := y0.trans (z2.mono y0.size)
  have c0 := b0.below' z2
  have c1 := b1.below' z2
  have hg2 : w.heap.size + 1 < w2.heap.size := c1.lt
  clear q0 q1 q2
  have q0 : w2.cell? ⟨w.heap.size, 0, none⟩ = some (.int .i64 d) := c0.cell 0
  have q1 : w2.cell? ⟨w.heap.size, 1, none⟩ = some (.slice A n c) := c0.cell 1
  have q2 : w2.cell? ⟨w.heap.size, 2, none⟩ = some (.slice B m k) := c0.cell 2
  have u0 : w2.cell? ⟨(w.heap.size + 1), 0, none⟩ = some (.int .i64 0) := c1.cell 0
  have u1 : w2.cell? ⟨(w.heap.size + 1), 1, none⟩ = some (.slice none 0 0) := c1.cell 1
  have f0 := c1.frozen 0
  have f1 := c1.frozen 1
  rcases tagCode_01 d (nums ts) hs xs with hcode | hcode
  rotate_left
  · have HF := Lib.hid (turnOfWordF_bad hcode)
    rw [hcode]
    clear hcode
    go_wp2_with fail
    have d1 := turn_set c1 (.int .i64 0) (.slice none 0 0)
    exact bodyPost_ret (v := .tuple #[.agg #[.int .i64 0, .slice none 0 0], .int .i64 1]) (by simp [results, Try.results48, go_sem, d1.cell 0, d1.cell 1]) rfl (tu2_nil HF.out (turn_below y2 (by omega) _ _))
  obtain ⟨v1, v2, v3, v4, v5, v6, v7, v8⟩ := tagCode_parts hcode
  have HF0 : Hid (turnOfWordF d (nums ts) hs xs = if cycFitsB d.toNat (nums ts) && decide (l * n ≤ 1000) then (⟨0, codesL n xs⟩, 0) else (⟨0, []⟩, 5)) := Lib.hid (by unfold turnOfWordF; rw [hcode, HXL.out, HLN.out]; simp)
  have hval := (tagCode_zero.1 hcode).1
  obtain ⟨dn, rfl⟩ : ∃ dn : Nat, d = (dn : Int) := ⟨d.toNat, by omega⟩
  rw [Int.toNat_natCast] at HF0
  rw [HLN.out] at v5 v6 v7
  rw [hcode]
  have V5 := Lib.hid v5
  have V3 := Lib.hid v3
  have V8 := Lib.hid v8
  have HVAL := Lib.hid hval
  clear hcode v3 v5 v8 hval
  go_wp2_with fail
  refine (cyclicOfTag_any dn _ _ _ ts _ _ _ hs _ (hx.below y2) HVAL.out).mono ?_
  rintro e w3 ⟨(⟨hfit, A3, us, rfl, hO, hnu⟩ | ⟨hfit, rfl⟩), z3⟩
  rotate_left
  · have HF : Hid (turnOfWordF (dn : Int) (nums ts) hs xs = (⟨0, []⟩, 5)) := Lib.hid (by rw [HF0.out, hfit]; rfl)
    clear hfit
    obtain ⟨w4, hW_⟩ : ∃ W_, W_ = w3.alloc (.cells #[.slice none 0 0] 33) := ⟨_, rfl⟩
    have b4 : Blk w4 w3.heap.size 33 #[.slice none 0 0] := by rw [hW_]; exact Blk.new w3 _ _
    have z4 : Below w3.heap.size w3 w4 := by rw [hW_]; exact (Below.refl _ _).alloc (Nat.le_refl _) _
    have Hw4 := Lib.hid hW_
    clear hW_
    have c14 := (c1.below' z3).below' z4
    have y4 := (y2.trans (z3.mono y2.size)).trans (z4.mono (y2.trans (z3.mono y2.size)).size)
    clear q0 q1 q2 u0 u1 f0 f1
    have u0 : w4.cell? ⟨(w.heap.size + 1), 0, none⟩ = some (.int .i64 0) := c14.cell 0
    have u1 : w4.cell? ⟨(w.heap.size + 1), 1, none⟩ = some (.slice none 0 0) := c14.cell 1
    have f0 := c14.frozen 0
    have f1 := c14.frozen 1
    go_upto_region 5 with fail
    rw [← Hw4.out]
    go_wp2_with fail
    have d1 := turn_set c14 (.int .i64 0) (.slice none 0 0)
    exact bodyPost_ret (v := .tuple #[.agg #[.int .i64 0, .slice none 0 0], .int .i64 5]) (by simp [results, Try.results48, go_sem, d1.cell 0, d1.cell 1]) rfl (tu2_nil HF.out (turn_below y4 (by omega) _ _))
  have HFIT := Lib.hid hfit
  clear hfit hO hnu
  have y3 := y2.trans (z3.mono y2.size)
  obtain ⟨w4, hW_⟩ : ∃ W_, W_ = w3.alloc (.cells #[.slice A3 (n * dn) (n * dn)] 33) := ⟨_, rfl⟩
  have b4 : Blk w4 w3.heap.size 33 #[.slice A3 (n * dn) (n * dn)] := by rw [hW_]; exact Blk.new w3 _ _
  have z4 : Below w3.heap.size w3 w4 := by rw [hW_]; exact (Below.refl _ _).alloc (Nat.le_refl _) _
  have Hw4 := Lib.hid hW_
  clear hW_
  have c04 := (c0.below' z3).below' z4
  have c14 := (c1.below' z3).below' z4
  have y4 := y3.trans (z4.mono y3.size)
  have hg4 : w.heap.size + 1 < w4.heap.size := c14.lt
  clear q0 q1 q2 u0 u1 f0 f1
  have q0 : w4.cell? ⟨w.heap.size, 0, none⟩ = some (.int .i64 (dn : Int)) := c04.cell 0
  have q1 : w4.cell? ⟨w.heap.size, 1, none⟩ = some (.slice A n c) := c04.cell 1
  have q2 : w4.cell? ⟨w.heap.size, 2, none⟩ = some (.slice B m k) := c04.cell 2
  have u0 : w4.cell? ⟨(w.heap.size + 1), 0, none⟩ = some (.int .i64 0) := c14.cell 0
  have u1 : w4.cell? ⟨(w.heap.size + 1), 1, none⟩ = some (.slice none 0 0) := c14.cell 1
  have f0 := c14.frozen 0
  have f1 := c14.frozen 1
  have hl4 : l ≤ 1000 := by rw [← HXL.out]; exact v4
  have hln : l * n ≤ 1000 * 200 := Nat.mul_le_mul hl4 v7
  obtain ⟨M, hM⟩ : ∃ M, M = l * n := ⟨_, rfl⟩
  have w1 : IntKind.i64.wrap ((l : Int) * (n : Int)) = (M : Int) := by rw [IntWalk.i64_in _ (by rw [← Int.natCast_mul, ← hM]; omega), hM]; simp
  have HM := Lib.hid hM
  rw [← hM] at hln
  rw [← hM] at HF0
  clear hM
  go_upto_region 7 with fail
  rw [← Hw4.out]
  go_quiet ((first
    | (go_at_call 104; exact quiet_left (sizeI_any _ _ _ _ (by omega)))
    | (go_at_call 96; exact quiet_left (sizeII_any _ _ _ _ (by omega)))))
  have d14 := c14.drewN nq
  have y4q := below_drewN y4 nq
  have hz4 := (hz.below y4).drewN nq
  by_cases hM1 : M ≤ 1000
  · have hgM : ¬ (1000 : Int) < (M : Int) := by omega
    have HF : Hid (turnOfWordF (dn : Int) (nums ts) hs xs = (⟨0, codesL n xs⟩, 0)) := Lib.hid (by rw [HF0.out, HFIT.out]; simp [hM1])
    have HC := Lib.hid (codesOf_any C l r xs n (w4.drewN nq) hz4 v6 V5.out (by rw [← HM.out]; omega) (by omega) (by omega))
    have hcl : Hid ((codesL n xs).length = M) := Lib.hid (by rw [codesL_len, HXL.out, HM.out])
    rw [← HM.out] at HC
    go_wp2_with (first
      | (go_at_call 96; refine (sizeII_any _ _ _ _ (by omega)).mono ?_; rintro e w' ⟨rfl, rfl⟩))
    refine HC.out.mono ?_
    rintro e w5 ⟨A5, rfl, o5, z5⟩
    have e5 := d14.below' z5
    have y5 := y4q.trans (z5.mono y4q.size)
    clear q0 q1 q2 u0 u1 f0 f1
    have u0 : w5.cell? ⟨(w.heap.size + 1), 0, none⟩ = some (.int .i64 0) := e5.cell 0
    have u1 : w5.cell? ⟨(w.heap.size + 1), 1, none⟩ = some (.slice none 0 0) := e5.cell 1
    have f0 := e5.frozen 0
    have f1 := e5.frozen 1
    go_wp2_with fail
    have d1 := turn_set e5 (.int .i64 0) (.slice A5 M M)
    refine bodyPost_ret (v := .tuple #[.agg #[.int .i64 0, .slice A5 M M], .int .i64 0]) (by simp [results, Try.results48, go_sem, d1.cell 0, d1.cell 1]) rfl ?_
    rw [HF.out]
    refine ⟨A5, M, by rw [hcl.out], ?_, turn_below y5 (by omega) _ _⟩
    show Own _ _ _ _ _ (codesL n xs).length _ _
    rw [hcl.out]
    exact (turn_far2 e5 (o5.mono y4q.size) _ _)
  · have hgM : (1000 : Int) < (M : Int) := by omega
    have HF : Hid (turnOfWordF (dn : Int) (nums ts) hs xs = (⟨0, []⟩, 5)) := Lib.hid (by rw [HF0.out, HFIT.out]; simp [hM1])
    go_wp2_with fail
    have d1 := turn_set d14 (.int .i64 0) (.slice none 0 0)
    exact bodyPost_ret (v := .tuple #[.agg #[.int .i64 0, .slice none 0 0], .int .i64 5]) (by simp [results, Try.results48, go_sem, d1.cell 0, d1.cell 1]) rfl (tu2_nil HF.out (turn_below y4q (by omega) _ _))
end Go.Proofs.Ythipbeggaeogcaa

/-
  Contract of impl.tagSteps: so many steps of a tag system.
-/
namespace Go.Proofs.Ythipbeggaeogcaa
open Go.RowKit

section
variable {σ : Type} (s : Sys σ)
/-- The code for so many steps: 6 where the system halts before, 5 where there is no room. -/
def Sys.code (s : Sys σ) : Nat → σ → Int
  | 0, _ => 0
  | N + 1, c => if s.halt c then 6 else if s.room c then Sys.code s N (s.next c) else 5
end
section
variable {σ : Type} {s : Sys σ} {c : σ}
theorem Sys.code_halt : ∀ {N i : Nat} {c : σ}, i < N → s.Alive c i → s.halt (s.it c i) = true → s.code N c = 6 := by
  intro N
  induction N with
  | zero => intro i c h; omega
  | succ N ih =>
    intro i c h ha hh
    cases i with
    | zero => have h2 : s.halt c = true := hh; unfold Sys.code; rw [if_pos h2]
    | succ i =>
      have h4 : s.halt c = false ∧ s.room c = true := ha 0 (by omega)
      unfold Sys.code
      rw [if_neg (by simp [h4.1]), if_pos h4.2]
      exact ih (by omega) ha.shift (by rw [Sys.it_shift]; exact hh)
theorem Sys.code_full : ∀ {N i : Nat} {c : σ}, i < N → s.Alive c i → s.halt (s.it c i) = false → s.room (s.it c i) = false → s.code N c = 5 := by
  intro N
  induction N with
  | zero => intro i c h; omega
  | succ N ih =>
    intro i c h ha hh hr
    cases i with
    | zero =>
      have h2 : s.halt c = false := hh
      have h3 : s.room c = false := hr
      unfold Sys.code; rw [if_neg (by simp [h2]), if_neg (by simp [h3])]
    | succ i =>
      have h4 : s.halt c = false ∧ s.room c = true := ha 0 (by omega)
      unfold Sys.code
      rw [if_neg (by simp [h4.1]), if_pos h4.2]
      exact ih (by omega) ha.shift (by rw [Sys.it_shift]; exact hh) (by rw [Sys.it_shift]; exact hr)
theorem Sys.code_ok : ∀ {N : Nat} {c : σ}, s.Alive c N → s.code N c = 0 := by
  intro N
  induction N with
  | zero => intro c _; rfl
  | succ N ih =>
    intro c ha
    have h4 : s.halt c = false ∧ s.room c = true := ha 0 (by omega)
    unfold Sys.code
    rw [if_neg (by simp [h4.1]), if_pos h4.2]
    exact ih ha.shift
theorem Sys.code_alive : ∀ {N : Nat} {c : σ}, s.code N c = 0 → s.Alive c N := by
  intro N
  induction N with
  | zero => intro c _; exact Sys.Alive.zero _ _
  | succ N ih =>
    intro c h
    unfold Sys.code at h
    split at h
    · cases h
    · rename_i h1
      split at h
      · rename_i h2
        exact (ih h).cons (by simpa using h1) h2
      · cases h
end

set_option maxRecDepth 100000 in
set_option maxHeartbeats 4000000 in
theorem tagSteps_any (d : Int) (A : Option Addr) (n c : Nat) (ts : List Sl) (B : Option Addr) (m k : Nat) (hs : List Int) (C : Option Addr) (l r : Nat) (xs : List Int) (N : Nat) (w : World) (hx : SII w A n ts) (hy : SI w B m hs) (hz : SI w C l xs) (hn : n ≤ 1048576) (hm : m ≤ 1048576) (hl : l ≤ 1048576) (hc : tagCodeF d (nums ts) hs xs = 0) (hN : N ≤ 1000000) :
    Calls Try.prog 94 #[.agg #[.int .i64 d, .slice A n c, .slice B m k], .slice C l r, .int .i64 (N : Int)] w fun e w' => e = .returned (.int .i64 ((tagSys d (nums ts) hs).code N xs)) ∧ Below w.heap.size w w' := by
  obtain ⟨W, hW_⟩ : ∃ W, W = w.alloc (.cells #[.int .i64 d, .slice A n c, .slice B m k] 51) := ⟨_, rfl⟩
  have b0 : Blk W w.heap.size 51 #[.int .i64 d, .slice A n c, .slice B m k] := by rw [hW_]; exact Blk.new w _ _
  have y0 : Below w.heap.size w W := by rw [hW_]; exact (Below.refl _ _).alloc (Nat.le_refl _) _
  have HW := Lib.hid hW_
  clear hW_
  have q0 : W.cell? ⟨w.heap.size, 0, none⟩ = some (.int .i64 d) := b0.cell 0
  have q1 : W.cell? ⟨w.heap.size, 1, none⟩ = some (.slice A n c) := b0.cell 1
  have q2 : W.cell? ⟨w.heap.size, 2, none⟩ = some (.slice B m k) := b0.cell 2
  go_enter Try.func94, Try.ntmps94
  go_upto_region 1 with fail
  rw [← HW.out]
  go_wp2_with fail
  refine (tagRunOf_any _ _ _ _ _ _ _ _ _ _ xs _ (hz.below y0) hl).mono ?_
  rintro e w3 ⟨g, Q, r3, rfl, hg3, hr3, ho3, hb3⟩
  clear q0 q1 q2
  obtain ⟨p, hp⟩ : ∃ p : Tg, p = ⟨W, g, d, A, n, c, ts, B, m, k, hs, xs⟩ := ⟨_, rfl⟩
  have hok : p.Ok := by rw [hp]; exact ⟨hc, hx.below y0, hy.below y0, hg3, hn, hm⟩
  have h0 : ∃ Q r, TgO p 0 Q r (fun _ => False) w3 := by
    rw [hp]
    exact ⟨Q, r3, ⟨id, fun _ h => h.elim, hr3, ho3, fun _ _ h => h, hb3⟩⟩
  have HP := Lib.hid hp
  have hpg : Hid (p.g = g) := Lib.hid (by rw [hp])
  have hcd : Hid (p.sys.code N p.xs = (tagSys d (nums ts) hs).code N xs) := Lib.hid (by rw [hp])
  have hw0 : Hid (p.w0 = W) := Lib.hid (by rw [hp])
  clear hp hr3 ho3 hb3 hc
  go_wp2_with fail
  go_loopw [12] (fun i wr => ∃ (j : Nat) (Q : Option Addr) (r : Nat), i = .int .i64 (j : Int) ∧ j ≤ N ∧ p.sys.Alive p.xs j ∧ TgO p j Q r (fun _ => False) wr) (fun i _ => N - (intOf i).toNat)
  case atStart =>
    obtain ⟨Q, r, h⟩ := h0
    exact ⟨0, Q, r, rfl, Nat.zero_le _, Sys.Alive.zero _ _, h⟩
  case round =>
    obtain ⟨j, Q1, r1, rfl, hj, hal, ho⟩ := hrel
    have HAL := Lib.hid hal
    clear hal h0
    have hlow : Below w.heap.size w wr := by have := ho.low; rw [hw0.out] at this; exact y0.trans (this.mono y0.size)
    by_cases hlt : j < N
    · have hlt' : (j : Int) < (N : Int) := by omega
      have hh0 := tagHalts_g hok HAL.out ho
      rw [hpg.out] at hh0
      have HH := Lib.hid hh0
      clear hh0
      go_wp2_with fail
      refine HH.out.mono ?_
      rintro e W' ⟨rfl, q, rfl⟩
      have ho2 := ho.drewN q
      have hlow2 := below_drewN hlow q
      generalize wr.drewN q = W2 at *
      cases hh : p.sys.halt (p.it j) with
      | true =>
        have HF := Lib.hid (Sys.code_halt hlt HAL.out hh)
        clear hh
        go_wp2_with fail
        go_ret
        exact ⟨ret_int (HF.out.symm.trans hcd.out), hlow2⟩
      | false =>
        have HH2 := Lib.hid hh
        have hs0 := tagStep_g hok HAL.out hh ho2
        rw [hpg.out] at hs0
        have HS := Lib.hid hs0
        clear hs0
        clear hh
        go_wp2_with fail
        refine HS.out.mono ?_
        rintro e W3 ⟨rfl, ⟨Q', r', ho'⟩, _⟩
        have hlow3 : Below w.heap.size w W3 := by have := ho'.low; rw [hw0.out] at this; exact y0.trans (this.mono y0.size)
        cases hr : p.sys.room (p.it j) with
        | true =>
          have HR := Lib.hid hr
          clear hr
          go_wp2_with fail
          go_roundw
          case rel => exact ⟨j + 1, Q', r', by go_num, by omega, HAL.out.step HH2.out HR.out, ho'⟩
          case measure => simp [intOf]; omega
        | false =>
          have HF := Lib.hid (Sys.code_full hlt HAL.out HH2.out hr)
          clear hr
          go_wp2_with fail
          go_ret
          exact ⟨ret_int (HF.out.symm.trans hcd.out), hlow3⟩
    · have hjN : j = N := by omega
      subst hjN
      have HF := Lib.hid (Sys.code_ok HAL.out)
      go_wp2_with fail
      go_ret
      exact ⟨ret_int (HF.out.symm.trans hcd.out), hlow⟩
end Go.Proofs.Ythipbeggaeogcaa

/-
  What RunCyclicTag returns. No program is in sight.
-/
namespace Go.Proofs.Ythipbeggaeogcaa
open Go.RowKit

def rctF (d : Int) (words : List (List Int)) (hs xs : List Int) (steps : Int) : List Int × Int × Int :=
  if tagCodeF d words hs xs = 0 then
    if inB steps 0 60 then
      if cycFitsB d.toNat words && decide (xs.length * words.length ≤ 1000) then
        if (tagSys d words hs).code steps.toNat xs = 0 then
          if (cycSys (cycWords d.toNat words)).code (steps.toNat * (words.length * d.toNat)) ⟨0, codesL words.length xs⟩ = 0 then
            ((tagSys d words hs).it xs steps.toNat, ((steps.toNat * (words.length * d.toNat) : Nat) : Int), 0)
          else ([], 0, 5)
        else ([], 0, (tagSys d words hs).code steps.toNat xs)
      else ([], 0, 5)
    else ([], 0, 2)
  else ([], 0, 1)
section
variable {d : Int} {words : List (List Int)} {hs xs : List Int} {steps : Int}
theorem rctF_bad (h : tagCodeF d words hs xs = 1) : rctF d words hs xs steps = ([], 0, 1) := by unfold rctF; rw [h]; simp
theorem rctF_range (h : tagCodeF d words hs xs = 0) (h1 : inB steps 0 60 = false) : rctF d words hs xs steps = ([], 0, 2) := by unfold rctF; rw [h, h1]; simp
theorem rctF_fits (h : tagCodeF d words hs xs = 0) (h1 : inB steps 0 60 = true) (h2 : (cycFitsB d.toNat words && decide (xs.length * words.length ≤ 1000)) = false) : rctF d words hs xs steps = ([], 0, 5) := by unfold rctF; rw [h, h1, h2]; simp
theorem rctF_code (h : tagCodeF d words hs xs = 0) (h1 : inB steps 0 60 = true) (h2 : (cycFitsB d.toNat words && decide (xs.length * words.length ≤ 1000)) = true) (h3 : (tagSys d words hs).code steps.toNat xs ≠ 0) : rctF d words hs xs steps = ([], 0, (tagSys d words hs).code steps.toNat xs) := by
  unfold rctF; rw [h, h1, h2]; simp [h3]
theorem rctF_full (h : tagCodeF d words hs xs = 0) (h1 : inB steps 0 60 = true) (h2 : (cycFitsB d.toNat words && decide (xs.length * words.length ≤ 1000)) = true) (h3 : (tagSys d words hs).code steps.toNat xs = 0) (h4 : (cycSys (cycWords d.toNat words)).code (steps.toNat * (words.length * d.toNat)) ⟨0, codesL words.length xs⟩ ≠ 0) : rctF d words hs xs steps = ([], 0, 5) := by
  unfold rctF; rw [h, h1, h2, h3]; simp [h4]
theorem rctF_ok (h : tagCodeF d words hs xs = 0) (h1 : inB steps 0 60 = true) (h2 : (cycFitsB d.toNat words && decide (xs.length * words.length ≤ 1000)) = true) (h3 : (tagSys d words hs).code steps.toNat xs = 0) (h4 : (cycSys (cycWords d.toNat words)).code (steps.toNat * (words.length * d.toNat)) ⟨0, codesL words.length xs⟩ = 0) : rctF d words hs xs steps = ((tagSys d words hs).it xs steps.toNat, ((steps.toNat * (words.length * d.toNat) : Nat) : Int), 0) := by
  unfold rctF; rw [h, h1, h2, h3, h4]; simp
end
theorem rctF_len (d : Int) (words : List (List Int)) (hs xs : List Int) (steps : Int) : (rctF d words hs xs steps).1.length ≤ 1048576 := by
  refine Nat.le_trans (?_ : _ ≤ 1000) (by decide)
  unfold rctF
  split
  · rename_i h
    split
    · split
      · split
        · rename_i h3
          split
          · exact (tagCode_parts (tagAlive_good h (Sys.code_alive h3))).2.2.2.1
          · simp
        · simp
      · simp
    · simp
  · simp
theorem turnOfWordF_at {dn : Nat} {words : List (List Int)} {hs xs : List Int} (h : tagCodeF (dn : Int) words hs xs = 0) : turnOfWordF (dn : Int) words hs xs = if (cycFitsB dn words && decide (xs.length * words.length ≤ 1000)) = true then (⟨0, codesL words.length xs⟩, 0) else (⟨0, []⟩, 5) := by
  unfold turnOfWordF; rw [h]; simp
theorem unitL_bits {n x : Nat} : ∀ y ∈ unitL n x, 0 ≤ y ∧ y ≤ 1 := by
  intro y hy
  obtain ⟨k, _, rfl⟩ := List.mem_map.1 hy
  split <;> omega
theorem codesL_bits {n : Nat} {v : List Int} : ∀ y ∈ codesL n v, 0 ≤ y ∧ y ≤ 1 := by
  intro y hy
  obtain ⟨x, _, h⟩ := List.mem_flatMap.1 hy
  exact unitL_bits y h
theorem codesL_ok {n : Nat} {v : List Int} (h : v.length * n ≤ 1000) : tagWordB (codesL n v) 2 = true := by
  unfold tagWordB allIn
  simp only [Bool.and_eq_true, decide_eq_true_eq, List.all_eq_true, inB_iff]
  exact ⟨by rw [codesL_len]; exact h, fun y hy => by have := codesL_bits y hy; omega⟩
theorem cyc_valid {d : Nat} {words : List (List Int)} {xs : List Int} (hd : 1 ≤ d) (hw : 1 ≤ words.length) (h : (cycFitsB d words && decide (xs.length * words.length ≤ 1000)) = true) : validTurnB (cycWords d words) ⟨0, codesL words.length xs⟩ = true := by
  unfold cycFitsB at h
  simp only [Bool.and_eq_true, decide_eq_true_eq, List.all_eq_true] at h
  obtain ⟨⟨h1, h2⟩, h3⟩ := h
  have hl := cycWords_len hd words
  have h4 : 1 ≤ words.length * d := Nat.mul_pos hw hd
  unfold validTurnB validCyclB wordsB
  simp only [Bool.and_eq_true, inB_iff, List.all_eq_true]
  rw [hl]
  refine ⟨⟨⟨by omega, fun v hv => ?_⟩, by show (0 : Int) ≤ 0 ∧ (0 : Int) ≤ _; omega⟩, codesL_ok h3⟩
  unfold cycWords at hv
  rcases List.mem_append.1 hv with hv | hv
  · obtain ⟨u, hu, rfl⟩ := List.mem_map.1 hv
    exact codesL_ok (h2 u hu)
  · obtain ⟨_, rfl⟩ := List.mem_replicate.1 hv
    rfl
end Go.Proofs.Ythipbeggaeogcaa

/-
  Contracts of slices.Index and impl.countOf.
-/
namespace Go.Proofs.Ythipbeggaeogcaa
open Go.RowKit

set_option maxHeartbeats 1000000 in
theorem indexI_at (A : Option Addr) (n c : Nat) (xs : List Int) (v : Int) (k : Nat) (w : World) (hx : SI w A n xs) (hn : n ≤ 1048576) (hk : xs[k]? = some v) (hlt : ∀ j y, j < k → xs[j]? = some y → y ≠ v) :
    Calls Try.prog 154 #[.slice A n c, .int .i64 v] w fun e w' => e = .returned (.int .i64 (k : Int)) ∧ w = w' := by
  have HL := Lib.hid hx.len
  have HK := Lib.hid hk
  have HLT := Lib.hid hlt
  have hkn : k < n := by have := (List.getElem?_eq_some_iff.1 hk).1; have := HL.out; omega
  clear hk hlt
  go_enter Try.func154, Try.ntmps154
  go_wp2
  go_loop [8] (fun i => ∃ j : Nat, j ≤ k ∧ i = .int .i64 (j : Int)) (fun i => n - (intOf i).toNat)
  case atStart => exact ⟨0, by omega, rfl⟩
  case round =>
    obtain ⟨j, hj, rfl⟩ := hrel
    have hjn : j < n := by omega
    obtain ⟨b, off, rfl, _, hc⟩ := hx.at_ hjn
    obtain ⟨y, hy⟩ : ∃ y, y = xs[j]'(by rw [HL.out]; exact hjn) := ⟨_, rfl⟩
    have hyq : xs[j]? = some y := by rw [hy]; exact List.getElem?_eq_getElem _
    rw [← hy] at hc
    by_cases hjk : j = k
    · subst hjk
      obtain rfl : y = v := by rw [HK.out] at hyq; simpa using hyq.symm
      have hd : (y == y) = true := by simp
      clear hy hyq
      go_wp2
      go_ret
      exact ⟨rfl, rfl⟩
    · have hne := HLT.out j y (by omega) hyq
      have hd : (v == y) = false := by simp; exact fun e => hne e.symm
      clear hy hyq hne
      go_wp2
      exact ⟨⟨j + 1, by omega, by go_num⟩, by simp [intOf]; omega⟩

set_option maxHeartbeats 1000000 in
theorem countOf_any (A : Option Addr) (n c : Nat) (xs : List Int) (v : Int) (w : World) (hx : SI w A n xs) (hn : n ≤ 1048576) :
    Calls Try.prog 155 #[.slice A n c, .int .i64 v] w fun e w' => e = .returned (.int .i64 (xs.count v : Int)) ∧ w = w' := by
  have HL := Lib.hid hx.len
  go_enter Try.func155, Try.ntmps155
  go_wp2
  go_loop [5, 10] (fun t i => ∃ j q : Nat, j ≤ n ∧ i = .int .i64 (j : Int) ∧ t = .int .i64 (q : Int) ∧ Hid (q = (xs.take j).count v) ∧ q ≤ j) (fun _ i => n - (intOf i).toNat)
  case atStart => exact ⟨0, 0, by omega, rfl, rfl, by simp [Hid], by omega⟩
  case round =>
    obtain ⟨j, q, hj, rfl, rfl, hq, hqj⟩ := hrel
    by_cases hjn : j < n
    · obtain ⟨b, off, rfl, _, hc⟩ := hx.at_ hjn
      obtain ⟨y, hy⟩ : ∃ y, y = xs[j]'(by rw [HL.out]; exact hjn) := ⟨_, rfl⟩
      have HN := Lib.hid (show (xs.take (j + 1)).count v = (xs.take j).count v + if y = v then 1 else 0 by
        rw [List.take_succ_eq_append_getElem (by rw [HL.out]; exact hjn), List.count_append, ← hy]
        by_cases h : y = v <;> simp [h])
      rw [← hy] at hc
      clear hy
      by_cases hyv : y = v
      · have hd : (y == v) = true := by simpa using hyv
        have HQ : Hid (q + 1 = (xs.take (j + 1)).count v) := Lib.hid (by rw [HN.out, if_pos hyv, hq.out])
        clear hyv
        go_wp2
        exact ⟨⟨j + 1, q + 1, by omega, by go_num, by go_num, HQ.out, by omega⟩, by simp [intOf]; omega⟩
      · have hd : (y == v) = false := by simpa using hyv
        have HQ : Hid (q = (xs.take (j + 1)).count v) := Lib.hid (by rw [HN.out, if_neg hyv, hq.out]; rfl)
        clear hyv
        go_wp2
        exact ⟨⟨j + 1, q, by omega, by go_num, rfl, HQ.out, by omega⟩, by simp [intOf]; omega⟩
    · have HQ : Hid (q = xs.count v) := Lib.hid (by have := hq.out; rwa [List.take_of_length_le (by rw [HL.out]; omega)] at this)
      go_wp2
      go_ret
      exact ⟨ret_int (by rw [HQ.out]), rfl⟩
theorem unit_index {n x0 : Nat} (h : x0 < n) : (unitL n x0)[x0]? = some 1 ∧ ∀ j y, j < x0 → (unitL n x0)[j]? = some y → y ≠ 1 := by
  constructor
  · simp [unitL, h]
  · intro j y hj hy
    have : (unitL n x0)[j]? = some 0 := by simp [unitL, show j < n from by omega, show ¬ j = x0 from by omega]
    rw [this] at hy
    simp at hy
    omega
theorem unit_count {n x0 : Nat} (h : x0 < n) : (unitL n x0).count 1 = 1 := by
  have key : ∀ n, (unitL n x0).count 1 = if x0 < n then 1 else 0 := by
    intro n
    induction n with
    | zero => simp [unitL]
    | succ n ih =>
      have e : unitL (n + 1) x0 = unitL n x0 ++ [if n = x0 then 1 else 0] := by unfold unitL; rw [List.range_succ]; simp
      rw [e, List.count_append, ih]
      by_cases h1 : x0 < n
      · simp [h1, show ¬ n = x0 from by omega, show x0 < n + 1 from by omega]
      · by_cases h2 : n = x0
        · subst h2; simp
        · simp [h1, h2, show ¬ x0 < n + 1 from by omega]
  rw [key, if_pos h]
end Go.Proofs.Ythipbeggaeogcaa

/-
  A range over a function whose iterator keeps state of its own in cells: the caller's law. No program is in sight.
-/
namespace Go.Proofs.Ythipbeggaeogcaa
open Go.RowKit

variable {F : Fence} {n : Nat} {P : Program}

/-- The contract of an iterator. J x: where yield is called with x. J' x: behind a round that goes on. Jx c x: behind a round that left by c. B, Bx: the loop's own book-keeping. -/
def SeqC {α : Type} (F : Fence) (n : Nat) (P : Program) (g : Nat) (lb : Array Value) (encs : α → Array Value) (J J' : α → World → Prop) (Jx : Code → α → World → Prop) (Start Fin : World → Prop) (FinX : Code → World → Prop) : Prop :=
  ∀ (l : Nat) (B : World → Prop) (Bx : Code → World → Prop), (∀ W W', B W → KeepsOthers W W' → B W') → (∀ c W W', Bx c W → KeepsOthers W W' → Bx c W') →
    (∀ x W, J x W → B W → YieldAt F (n - 1) P l (encs x) W fun e W' => (e = .returned (.bool true) ∧ J' x W' ∧ B W') ∨ (e = .returned (.bool false) ∧ ∃ c, Jx c x W' ∧ Bx c W')) →
    ∀ W, Start W → B W → CallsIn F n P g (#[.func (.yield l) #[] #[]] ++ lb) W fun e W' => (∃ v, e = .returned v) ∧ ((Fin W' ∧ B W') ∨ (∃ c, FinX c W' ∧ Bx c W'))

def stPost {α : Type} (J' : α → World → Prop) (Jx : Code → α → World → Prop) (x : α) (W : World) : Exit → Act → World → Prop
  | .normal, _, W' => KeepsOthers W W' ∧ J' x W'
  | .ret, _, W' => KeepsOthers W W' ∧ Jx .ret x W'
  | .exit id, _, W' => KeepsOthers W W' ∧ Jx (.exit id) x W'
  | .goto t, _, W' => KeepsOthers W W' ∧ Jx (.goto t) x W'
  | .panic _, _, _ => False
  | .outgrown, _, _ => False

/-- A word that abides a turn of a block that holds no cells. -/
def PutOk (b0 : Nat) (I : World → Prop) : Prop := ∀ (W : World) (l : Nat) (o o' : Obj), I W → b0 ≤ l → W.heap[l]? = some o → o.isCells = false → I (W.putObj l o')

theorem keeps_loop {W W' : World} {l : Nat} {o : Obj} (h : KeepsOthers W W') (hl : W.heap[l]? = some o) (ho : o.isCells = false) : W'.heap[l]? = some o := h.same l o hl ho

theorem wpIn_rangeFunc_st {α : Type} {g : Operand} {ps : Array Tmp} {assign body : Code} {Q : Exit → Act → World → Prop} {a : Act} {w : World}
    (hro : F.round = none) (h1 : 1 ≤ n) {gf : Nat} {lb : Array Value} (hg : a.eval g = .func (.func gf) #[] lb) (hFg : F.fn gf) (eg : ∀ args w, (callFunc gf args).run P w = .ok (.enter gf args) w)
    {encs : α → Array Value} {J J' : α → World → Prop} {Jx : Code → α → World → Prop} {Start Fin : World → Prop} {FinX : Code → World → Prop} (hseq : SeqC F (n - 1) P gf lb encs J J' Jx Start Fin FinX)
    (hps : ∀ x, (encs x).size = ps.size) (hJ : ∀ x, PutOk w.heap.size (J x)) (hJ' : ∀ x, PutOk w.heap.size (J' x)) (hJx : ∀ c x, PutOk w.heap.size (Jx c x)) (hFin : PutOk w.heap.size Fin) (hFinX : ∀ c, PutOk w.heap.size (FinX c))
    (hstart : ∀ r, Start ((w.alloc (.deferred (some []))).alloc (.loop r))) (a₁ : α → Act)
    (hassign : ∀ (l : Nat) (x : α) (W : World) (K : Act → World → Prop), K (a₁ x) W →
      assign.wpIn (F.inRound l) (n - 1 - 1) P (Exit.then K (fun _ _ _ => False)) { tmps := (ps.zip (encs x)).foldl (fun t (p, v) => t.setIfInBounds p v) a.tmps, defers := [] } W)
    (hbody : ∀ (l : Nat) (x : α) (W : World), w.heap.size ≤ l → J x W → body.wpIn (F.inRound l) (n - 1 - 1) P (stPost J' Jx x W) (a₁ x) W)
    (hdone : ∀ (D : Nat) (W : World), w.heap.size ≤ D → Fin W → W.heap[D]? = some (.deferred (some [])) → Q .normal { a with defers := { target := .collected D, args := #[] } :: a.defers } W)
    (hstop : ∀ (D : Nat) (c : Code) (W : World), w.heap.size ≤ D → FinX c W → W.heap[D]? = some (.deferred (some [])) → c.wpIn F n P Q { a with defers := { target := .collected D, args := #[] } :: a.defers } W) :
    (Code.rangeFunc g ps assign body).wpIn F n P Q a w := by
  refine wpIn_rangeFunc ?_
  intro fn hfn
  rw [hro]
  obtain ⟨rec, hrec⟩ : ∃ rec : LoopState → Option Code → Loop, rec = fun st pe => { state := st, pending := pe, fn, tmps := a.tmps, params := ps, assign, body, defers := w.heap.size } := ⟨_, rfl⟩
  obtain ⟨W1, hW1⟩ : ∃ W1, (w.alloc (.deferred (some []))).alloc (.loop (rec .ready none)) = W1 := ⟨_, rfl⟩
  have hL1 : W1.heap[w.heap.size + 1]? = some (.loop (rec .ready none)) := by
    rw [← hW1]; have := World.alloc_heap_new (w.alloc (.deferred (some []))) (.loop (rec .ready none)); rwa [World.size_alloc] at this
  have hK1 : W1.heap[w.heap.size]? = some (.deferred (some [])) := by
    rw [← hW1]; exact (Below.heap_alloc _ _ _ (by simp)).trans (World.alloc_heap_new w _)
  have hS1 : Start W1 := by rw [← hW1]; exact hstart _
  refine ⟨w.heap.size + 1, [{ target := .collected w.heap.size, args := #[] }], W1, { target := .fn (.func gf) lb, args := #[.func (.yield (w.heap.size + 1)) #[] #[]] }, W1, gf,
    #[.func (.yield (w.heap.size + 1)) #[] #[]] ++ lb, W1, ?_, ?_, ?_, ?_, fun _ => h1, ?_⟩
  · rw [← hW1, hrec]; exact run_enterLoop_outer _ _ _ _ _
  · simp only [resolve, hg]
    simp [go_sem]
  · intro f' hf'; simp [Target.leads] at hf'; subst hf'; exact hFg
  · simp [invoke, go_sem, eg]
  · refine (hseq (w.heap.size + 1)
      (fun W => W.heap[w.heap.size + 1]? = some (.loop (rec .ready none)) ∧ W.heap[w.heap.size]? = some (.deferred (some [])))
      (fun c W => W.heap[w.heap.size + 1]? = some (.loop (rec .done (some c))) ∧ W.heap[w.heap.size]? = some (.deferred (some [])))
      (fun W W' h k => ⟨keeps_loop k h.1 rfl, keeps_loop k h.2 rfl⟩) (fun c W W' h k => ⟨keeps_loop k h.1 rfl, keeps_loop k h.2 rfl⟩) ?_ W1 hS1 ⟨hL1, hK1⟩).mono ?_
    · rintro x W hi ⟨hl, hk⟩
      have hlt : w.heap.size + 1 < W.heap.size := (Array.getElem?_eq_some_iff.1 hl).1
      have hy := run_yield (P := P) (args := encs x) hl (by rw [hrec]; exact hps x)
      rw [hrec] at hy
      refine ⟨fn, _, assign, body, hy, roundIn_of_wpIn hfn (hassign _ x W _ ⟨_, run_beginRound hl (by rw [hrec]), ?_⟩)⟩
      have hl2 : (W.putObj (w.heap.size + 1) (.loop { rec .ready none with state := .busy })).heap[w.heap.size + 1]? = some (.loop { rec .ready none with state := .busy }) := World.putObj_heap_same hlt
      have hk2 : (W.putObj (w.heap.size + 1) (.loop { rec .ready none with state := .busy })).heap[w.heap.size]? = some (.deferred (some [])) := (World.putObj_heap_other (by omega)).trans hk
      refine wpIn_mono (hbody _ x _ (by omega) (hJ x _ _ _ _ hi (by omega) hl rfl)) ?_
      have fin : ∀ (jump : Option Code) (W3 : World), KeepsOthers (W.putObj (w.heap.size + 1) (.loop { rec .ready none with state := .busy })) W3 →
          (Instr.endRound (w.heap.size + 1) jump).run P W3 = .ok (.bool jump.isNone) (W3.putObj (w.heap.size + 1) (.loop (rec (if jump.isNone then .ready else .done) jump))) ∧
          W3.heap[w.heap.size + 1]? = some (.loop { rec .ready none with state := .busy }) ∧
          (W3.putObj (w.heap.size + 1) (.loop (rec (if jump.isNone then .ready else .done) jump))).heap[w.heap.size + 1]? = some (.loop (rec (if jump.isNone then .ready else .done) jump)) ∧
          (W3.putObj (w.heap.size + 1) (.loop (rec (if jump.isNone then .ready else .done) jump))).heap[w.heap.size]? = some (.deferred (some [])) := fun jump W3 hk3 => by
        have hl3 := hk3.same _ _ hl2 rfl
        have := run_endRound (P := P) jump hl3
        rw [hrec] at this ⊢
        exact ⟨this, by rw [hrec] at hl3; exact hl3, World.putObj_heap_same (Array.getElem?_eq_some_iff.1 hl3).1, (World.putObj_heap_other (by omega)).trans (hk3.same _ _ hk2 rfl)⟩
      rintro e a3 W3 hp
      cases e with
      | normal =>
        obtain ⟨hk3, hi3⟩ := hp
        obtain ⟨hr, hl3, hl4, hk4⟩ := fin none W3 hk3
        exact ⟨_, _, hr, .inl ⟨rfl, hJ' x _ _ _ _ hi3 (by omega) hl3 rfl, hl4, hk4⟩⟩
      | ret =>
        obtain ⟨hk3, hi3⟩ := hp
        obtain ⟨hr, hl3, hl4, hk4⟩ := fin (some .ret) W3 hk3
        exact ⟨_, _, hr, .inr ⟨rfl, .ret, hJx _ x _ _ _ _ hi3 (by omega) hl3 rfl, hl4, hk4⟩⟩
      | exit id =>
        obtain ⟨hk3, hi3⟩ := hp
        obtain ⟨hr, hl3, hl4, hk4⟩ := fin (some (.exit id)) W3 hk3
        exact ⟨_, _, hr, .inr ⟨rfl, .exit id, hJx _ x _ _ _ _ hi3 (by omega) hl3 rfl, hl4, hk4⟩⟩
      | goto t =>
        obtain ⟨hk3, hi3⟩ := hp
        obtain ⟨hr, hl3, hl4, hk4⟩ := fin (some (.goto t)) W3 hk3
        exact ⟨_, _, hr, .inr ⟨rfl, .goto t, hJx _ x _ _ _ _ hi3 (by omega) hl3 rfl, hl4, hk4⟩⟩
      | panic ch => exact hp.elim
      | outgrown => exact hp.elim
    · rintro e W2 ⟨⟨v, rfl⟩, (⟨hi, hl, hk⟩ | ⟨c, hi, hl, hk⟩)⟩
      · exact ⟨none, _, by have := run_endLoop (P := P) hl (by rw [hrec]; simp); rw [hrec] at this; exact this, hdone _ _ (Nat.le_refl _) (hFin _ _ _ _ hi (by omega) hl rfl) ((World.putObj_heap_other (by omega)).trans hk)⟩
      · exact ⟨some c, _, by have := run_endLoop (P := P) hl (by rw [hrec]; simp); rw [hrec] at this; exact this, hstop _ c _ (Nat.le_refl _) (hFinX c _ _ _ _ hi (by omega) hl rfl) ((World.putObj_heap_other (by omega)).trans hk)⟩
end Go.Proofs.Ythipbeggaeogcaa

/-
  Contract of the iterator of slices.Chunk, where the length is a multiple of the chunk's.
-/
namespace Go.Proofs.Ythipbeggaeogcaa
open Go.RowKit Go.Shelf
attribute [local go_sem] Oper.semAt_some

theorem keeps_belowT {w w' : World} (z : Below w.heap.size w w') : KeepsOthers w w' := ⟨z.size, fun k _ hk _ => (z.block k (Array.getElem?_eq_some_iff.1 hk).1).trans hk⟩

theorem put_cellsT {W : World} {l b : Nat} {o o' : Obj} {cur : Array Value} {t : TypeId} {f : Nat × Nat} (hl : W.heap[l]? = some o) (ho : o.isCells = false) (hb : W.heap[b]? = some (.cells cur t f)) : (W.putObj l o').heap[b]? = some (.cells cur t f) := by
  refine (World.putObj_heap_other ?_).trans hb
  rintro rfl
  rw [hb] at hl; cases hl; cases ho
theorem Blk.putT {W : World} {l g : Nat} {o : Obj} {t : TypeId} {cs : Array Value} (h : Blk W g t cs) (o' : Obj) (hl : W.heap[l]? = some o) (ho : o.isCells = false) : Blk (W.putObj l o') g t cs := put_cellsT hl ho h
theorem Own.putT {W : World} {l : Nat} {o : Obj} {A : Option Addr} {n c s lo : Nat} {e : TypeId} {cs : List Value} (h : Own W lo e s A n c cs) (o' : Obj) (hl : W.heap[l]? = some o) (ho : o.isCells = false) : Own (W.putObj l o') lo e s A n c cs := by
  rcases h.2 with ⟨rfl, h1, h2⟩ | ⟨b, off, cur, rfl, h1, hg, h2⟩
  · exact ⟨h.1, .inl ⟨rfl, h1, h2⟩⟩
  · exact ⟨h.1, .inr ⟨b, off, cur, rfl, h1, put_cellsT hl ho hg, h2⟩⟩
theorem below_putT {W w : World} {B l : Nat} {o : Obj} (h : Below B w W) (hB : B ≤ l) (o' : Obj) (hl : W.heap[l]? = some o) : Below B w (W.putObj l o') :=
  h.trans ((Below.refl B W).grown (grownBy_putObj' W l o') (by have := (Array.getElem?_eq_some_iff.1 hl).1; omega) (fun k e => by cases e; omega))
/-- A row of cells grows: what else there is stays. -/
theorem Own.keepsT {W W2 : World} {A : Option Addr} {n c s lo : Nat} {e : TypeId} {cs : List Value} (h : Own W lo e s A n c cs) (hg : W.grownBy W2 (blk A)) : KeepsOthers W W2 := by
  refine ⟨hg.size, fun b o hb ho => (hg.block b (Array.getElem?_eq_some_iff.1 hb).1 ?_).trans hb⟩
  intro e1
  rcases h.2 with ⟨rfl, _⟩ | ⟨b1, off, cur, rfl, _, hg1, _⟩
  · cases e1
  · cases e1
    rw [hg1] at hb; cases hb; cases ho
/-- An append inside a fence. -/
theorem wpListIn_append_OwnT {F : Fence} {n0 : Nat} {P : Program} {t e : TypeId} {s bytes : Nat} {z : Value} {ops : Array Oper} {rest : List Oper} {o : Oper} {a : Act} {Q : Exit → Act → World → Prop} (hgd : o.guard = none) (sl x : Operand) (ho : o.op = .call { callee := .builtin .append, args := #[sl, x], argTypes := #[t, t] })
    (E : Elem P t e s bytes z) {w : World} {lo : Nat} {A : Option Addr} {n c : Nat} {xs : List Value} (hs : a.eval sl = .slice A n c) (h : Own w lo e s A n c xs)
    {A' : Option Addr} {m c' : Nat} {news : List Value} (hx : a.eval x = .slice A' m c') (hr : Rd w s A' m news) (h1 : ∀ u ∈ news, u.oneCell' = true) (hb : (n + m) * bytes ≤ 140737488355328) (hm : n + m ≤ maxLen) (hlo : lo ≤ w.heap.size)
    (hK : ∀ A2 c2 w2, Own w2 lo e s A2 (n + m) c2 (xs ++ news) → w.grownBy w2 (blk A) → wpListIn F n0 P ops Q rest (a.put o.dst (.slice A2 (n + m) c2)) w2) : wpListIn F n0 P ops Q (o :: rest) a w := by
  refine wpListIn_plain hgd fun K hK' => ?_
  obtain ⟨A2, c2, w2, hrun, h2, h3, h4⟩ := run_append_Own E w o.type h hr (c' := c') h1 hb hm hlo
  unfold Oper.wpIn
  refine ⟨?_, ?_⟩
  · simp [Oper.about, ho, resolve, Target.leads, Sem.run_pure]
  · rw [Oper.semAt_plain F _ _ (by rw [ho]; intro c hc'; cases hc')]
    simp [execOp, ho, resolve, invoke, builtin, hs, hx, hrun, Result.andThen]
    exact hK' _ _ (hK A2 c2 w2 h2 h3)

/-- The boxes that the iterator reads. -/
structure Ck where
  g1 : Nat
  g2 : Nat
  A : Option Addr
  b : Nat
  off : Nat
  N : Nat
  c : Nat
  n : Nat
  m : Nat
def Ck.At (p : Ck) (W : World) : Prop := Blk W p.g1 25 #[.slice p.A p.N p.c] ∧ Blk W p.g2 3 #[.int .i64 (p.n : Int)]
structure Ck.Ok (p : Ck) : Prop where
  hN : p.N = p.m * p.n
  hn : 1 ≤ p.n
  hb : p.N ≤ 1048576
  hc : p.N ≤ p.c
  hA : p.m ≠ 0 → p.A = some ⟨p.b, p.off, none⟩
abbrev Ck.enc (p : Ck) (i : Nat) : Array Value := #[.slice (some ⟨p.b, p.off + i * p.n, none⟩) p.n p.n]
def Ck.J (p : Ck) (D : Nat → World → Prop) (i : Nat) (W : World) : Prop := i < p.m ∧ D i W
def Ck.J' (p : Ck) (D : Nat → World → Prop) (i : Nat) (W : World) : Prop := i < p.m ∧ D (i + 1) W

set_option maxHeartbeats 2000000 in
theorem chunk1_seq (p : Ck) (hp : p.Ok) (D : Nat → World → Prop) (hA : ∀ i W, D i W → p.At W) (hD : ∀ i k W, D i W → D i (World.drewN W k)) (n : Nat) :
    SeqC Fence.wide n Try.prog 193 #[.pointer (some ⟨p.g1, 0, none⟩), .pointer (some ⟨p.g2, 0, none⟩)] p.enc (p.J D) (p.J' D) (fun _ _ _ => False) (D 0) (D p.m) (fun _ _ => False) := by
  intro l B Bx hB hBx hY W h0 hB0
  obtain ⟨hN, hn, hb, hc, hA0⟩ := hp
  have HB := Lib.hid hB
  have HY := Lib.hid hY
  have HA := Lib.hid hA
  have HD := Lib.hid hD
  have HN := Lib.hid hN
  have HA0 := Lib.hid hA0
  clear hB hBx hY hD hA hN hA0
  refine callsIn_of_wp Try.func193 rfl trivial ?_ rfl
  simp only [Try.ntmps193, List.size_toArray, List.length_cons, List.length_nil, Nat.reduceAdd, Nat.reduceSub, Array.replicate_succ, Array.replicate_zero, List.push_toArray, List.append_toArray, List.nil_append, List.cons_append]
  gi_wp2
  gi_loopw [4] (fun s wr => ∃ i q : Nat, s = .int .i64 (q : Int) ∧ Hid (q = i * p.n) ∧ i ≤ p.m ∧ D i wr ∧ B wr) (fun s _ => p.N - (intOf s).toNat)
  case atStart => exact ⟨0, 0, rfl, Lib.hid (by simp), Nat.zero_le _, h0, hB0⟩
  case round =>
    obtain ⟨i, q, rfl, hq, hi, hst, hb1⟩ := hrel
    obtain ⟨A1, A2⟩ := HA.out i wr hst
    have a1 : wr.cell? ⟨p.g1, 0, none⟩ = some (.slice p.A p.N p.c) := A1.cell 0
    have a2 : wr.cell? ⟨p.g2, 0, none⟩ = some (.int .i64 (p.n : Int)) := A2.cell 0
    by_cases hlt : i < p.m
    · rw [HA0.out (by omega)] at a1
      have h1 : q + p.n ≤ p.N := by
        rw [hq.out, HN.out]
        have := Nat.mul_le_mul_right p.n (show i + 1 ≤ p.m from hlt)
        rwa [Nat.succ_mul] at this
      have h2 : q + p.n ≤ 1048576 := by omega
      have hq' : q = i * p.n := hq.out
      have hst1 : D i wr.drew := HD.out i 1 wr hst
      have hb11 : B wr.drew := HB.out _ _ hb1 (keeps_belowT (below_drewN (Below.refl _ _) 1))
      obtain ⟨fn, tmps, assign, body, hy, hR⟩ := HY.out i wr.drew ⟨hlt, hst1⟩ hb11
      dsimp only [Ck.enc] at hy
      rw [← hq'] at hy
      clear hq'
      have e1 : p.off + q - (p.off + q) = 0 := by omega
      gi_wp2
      gi_region
      have a11 : wr.drew.cell? ⟨p.g1, 0, none⟩ = some (.slice (some ⟨p.b, p.off, none⟩) p.N p.c) := a1
      have a21 : wr.drew.cell? ⟨p.g2, 0, none⟩ = some (.int .i64 (p.n : Int)) := a2
      generalize wr.drew = wr1 at *
      gi_wp2
      refine ⟨(fun h => by cases h), hR.mono ?_⟩
      rintro e W3 (⟨rfl, ⟨_, hst3⟩, hb3⟩ | ⟨rfl, c, hF, _⟩)
      · have a23 : W3.cell? ⟨p.g2, 0, none⟩ = some (.int .i64 (p.n : Int)) := (HA.out _ _ hst3).2.cell 0
        have hq1 : Hid (q + p.n = (i + 1) * p.n) := Lib.hid (by rw [hq.out, Nat.succ_mul])
        gi_wp2
        go_roundw
        case rel => exact ⟨i + 1, q + p.n, by go_num, hq1, by omega, hst3, hb3⟩
        case measure => simp [intOf]; omega
      · exact hF.elim
    · have hqN : q = p.N := by rw [hq.out, HN.out, show i = p.m by omega]
      have him : i = p.m := by omega
      subst him
      gi_wp2
      exact bodyPost_end (results_none rfl _ _ _) rfl ⟨⟨_, rfl⟩, .inl ⟨hst, hb1⟩⟩
end Go.Proofs.Ythipbeggaeogcaa
