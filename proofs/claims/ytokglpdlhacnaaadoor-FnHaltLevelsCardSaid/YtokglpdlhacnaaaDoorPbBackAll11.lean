/-
  Contracts of the laws' helpers over Machine: szMachine, toMachine, eqMachine, markMachine.
-/
import Derived.Test.YtokglpdlhacnaaaDoorPbBackAll0
import Derived.Test.YtokglpdlhacnaaaDoorPbBackAll1
import Derived.Test.YtokglpdlhacnaaaDoorPbBackAll8
import Derived.Test.YtokglpdlhacnaaaDoorPbBackAll10
import Derived.BigGuardPart
import Derived.Deep.RegionHeld3
import Derived.Deep.RegionLaw
import Derived.Deep.DeepCutAuto
import Derived.ProofKit
import Derived.OpenShut
import Derived.ChangeOld
import Derived.Deep.Slices
import Derived.Lib.SmallJoins
import Derived.Deep.Strs
namespace Go.Proofs.YtokglpdlhacnaaaDoor
open Go.RowKit

set_option maxHeartbeats 400000 in
theorem szMachine_any (d0 : Int) (d1 : Int) (A0 : Option Addr) (n0 c0 : Nat) (left : Int) (w : World) (h0 : n0 ≤ 9223372036854775807) (g0 : 0 ≤ left) (g1 : left ≤ 1048576) :
    Calls Tryd.prog 19 #[.agg #[.int .i64 d0, .int .i64 d1, .slice A0 n0 c0], .int .i64 left] w (SzP w left ((n0 : Int))) := by
  obtain ⟨W, hW⟩ : ∃ W, W = w.alloc (.cells #[.int .i64 d0, .int .i64 d1, .slice A0 n0 c0] 37) := ⟨_, rfl⟩
  have b0 : Blk W w.heap.size 37 #[.int .i64 d0, .int .i64 d1, .slice A0 n0 c0] := by rw [hW]; exact Blk.new w _ _
  have z0 : Below w.heap.size w W := by rw [hW]; exact (Below.refl _ _).alloc (Nat.le_refl _) _
  have HW := Lib.hid hW
  clear hW
  go_enter Tryd.func19, Tryd.ntmps19
  go_wp2_with fail
  rw [← HW.out]
  refine (szR_p A0 n0 c0 left W h0 (by omega) (by omega)).mono ?_
  rintro e w1 ⟨z1, rfl, l1, u1, e1, b1⟩
  have E1 := Lib.hid e1
  clear e1
  have y1 : Below w.heap.size w w1 := z0.trans (b1.mono z0.size)
  by_cases hneg1 : z1 < 0
  · go_wp2_with fail
    go_ret
    exact ⟨-1, rfl, by omega, by omega, by omega, y1⟩
  go_wp2_with fail
  go_ret
  exact ⟨z1, rfl, by omega, by omega, fun _ => by have t1 := E1.out (by omega); omega, y1⟩

def ToMachine (w : World) (d0 : Int) (d1 : Int) (n0 : Nat) (x0 : List R3) (e : Ending) (w' : World) : Prop :=
  ∃ B0, e = .returned (.agg #[.int .i64 d0, .int .i64 d1, .slice B0 n0 n0]) ∧ Own w' w.heap.size 136 3 B0 n0 n0 (cells3 x0) ∧ Below w.heap.size w w'

set_option maxHeartbeats 1000000 in
theorem toMachine_any (d0 : Int) (d1 : Int) (A0 : Option Addr) (n0 c0 : Nat) (x0 : List R3) (w : World) (r0 : S3 w A0 n0 x0) (h0 : n0 ≤ 1048576) :
    Calls Tryd.prog 21 #[.agg #[.int .i64 d0, .int .i64 d1, .slice A0 n0 c0]] w (ToMachine w d0 d1 n0 x0) := by
  obtain ⟨W, hW⟩ : ∃ W, W = ((w.alloc (.cells #[.int .i64 d0, .int .i64 d1, .slice A0 n0 c0] 37)).alloc (.cells #[.int .i64 0, .int .i64 0, .slice none 0 0] 43)).alloc (.cells #[.int .i64 d0, .int .i64 d1, .slice none 0 0] 43) := ⟨_, rfl⟩
  have s1 : (w.alloc (.cells #[.int .i64 d0, .int .i64 d1, .slice A0 n0 c0] 37)).heap.size = w.heap.size + 1 := by simp
  have s2 : ((w.alloc (.cells #[.int .i64 d0, .int .i64 d1, .slice A0 n0 c0] 37)).alloc (.cells #[.int .i64 0, .int .i64 0, .slice none 0 0] 43)).heap.size = w.heap.size + 1 + 1 := by simp
  have b0 : Blk W w.heap.size 37 #[.int .i64 d0, .int .i64 d1, .slice A0 n0 c0] := by rw [hW]; exact ((Blk.new w _ _).alloc _).alloc _
  have b1 : Blk W (w.heap.size + 1) 43 #[.int .i64 0, .int .i64 0, .slice none 0 0] := by rw [hW, ← s1]; exact (Blk.new _ _ _).alloc _
  have b2 : Blk W (w.heap.size + 1 + 1) 43 #[.int .i64 d0, .int .i64 d1, .slice none 0 0] := by rw [hW, ← s2]; exact Blk.new _ _ _
  have y0 : Below w.heap.size w W := by rw [hW]; exact (((Below.refl _ _).alloc (Nat.le_refl _) _).alloc (by simp) _).alloc (by simp; omega) _
  have hz : w.heap.size + 1 + 1 < W.heap.size := b2.lt
  have HW := Lib.hid hW
  clear hW s1 s2
  go_enter Tryd.func21, Tryd.ntmps21
  go_wp2_with fail
  rw [← HW.out]
  clear HW
  refine (toR _ _ _ x0 _ (r0.below y0) h0).mono ?_
  rintro e w0 ⟨B0, rfl, o0, bz0⟩
  have b0 := b0.below' bz0
  have b1 := b1.below' bz0
  have b2 := b2.below' bz0
  have yc0 : Below w.heap.size w w0 := y0.trans (bz0.mono y0.size)
  have hw0 : W.heap.size ≤ w0.heap.size := by have := bz0.size; omega
  have p0 : w0.cell? ⟨w.heap.size + 1 + 1, 2, none⟩ = some (.slice none 0 0) := b2.cell 2
  have pf0 := b2.frozen 2
  have a0 : w0.cell? ⟨w.heap.size + 1 + 1, 0, none⟩ = some (.int .i64 d0) := b2.cell 0
  have a1 : w0.cell? ⟨w.heap.size + 1 + 1, 1, none⟩ = some (.int .i64 d1) := b2.cell 1
  have c0_ : w0.cell? ⟨w.heap.size + 1, 0, none⟩ = some (.int .i64 0) := b1.cell 0
  have f0_ := b1.frozen 0
  have c1_ : w0.cell? ⟨w.heap.size + 1, 1, none⟩ = some (.int .i64 0) := b1.cell 1
  have f1_ := b1.frozen 1
  have c2_ : w0.cell? ⟨w.heap.size + 1, 2, none⟩ = some (.slice none 0 0) := b1.cell 2
  have f2_ := b1.frozen 2
  go_wp2_with fail
  have dB : Blk ((((w0.setCell ⟨w.heap.size + 1 + 1, 2, none⟩ (.slice B0 n0 n0)).setCell ⟨w.heap.size + 1, 0, none⟩ (.int .i64 d0)).setCell ⟨w.heap.size + 1, 1, none⟩ (.int .i64 d1)).setCell ⟨w.heap.size + 1, 2, none⟩ (.slice B0 n0 n0)) (w.heap.size + 1) 43 #[.int .i64 d0, .int .i64 d1, .slice B0 n0 n0] := (((b1.far (p := ⟨w.heap.size + 1 + 1, 2, none⟩) (by simp) _).set_ 0 _).set_ 1 _).set_ 2 _
  have m0 : Own ((((w0.setCell ⟨w.heap.size + 1 + 1, 2, none⟩ (.slice B0 n0 n0)).setCell ⟨w.heap.size + 1, 0, none⟩ (.int .i64 d0)).setCell ⟨w.heap.size + 1, 1, none⟩ (.int .i64 d1)).setCell ⟨w.heap.size + 1, 2, none⟩ (.slice B0 n0 n0)) W.heap.size 136 3 B0 n0 n0 (cells3 x0) := (((o0.far (fun e => by have := o0.blk_ge _ e; simp at this; omega) _).far (fun e => by have := o0.blk_ge _ e; simp at this; omega) _).far (fun e => by have := o0.blk_ge _ e; simp at this; omega) _).far (fun e => by have := o0.blk_ge _ e; simp at this; omega) _
  have yf : Below w.heap.size w ((((w0.setCell ⟨w.heap.size + 1 + 1, 2, none⟩ (.slice B0 n0 n0)).setCell ⟨w.heap.size + 1, 0, none⟩ (.int .i64 d0)).setCell ⟨w.heap.size + 1, 1, none⟩ (.int .i64 d1)).setCell ⟨w.heap.size + 1, 2, none⟩ (.slice B0 n0 n0)) := (((yc0.setCell (by simp; omega) _).setCell (by simp) _).setCell (by simp) _).setCell (by simp) _
  generalize (((w0.setCell ⟨w.heap.size + 1 + 1, 2, none⟩ (.slice B0 n0 n0)).setCell ⟨w.heap.size + 1, 0, none⟩ (.int .i64 d0)).setCell ⟨w.heap.size + 1, 1, none⟩ (.int .i64 d1)).setCell ⟨w.heap.size + 1, 2, none⟩ (.slice B0 n0 n0) = wf at *
  have g0_ : wf.cell? ⟨w.heap.size + 1, 0, none⟩ = some (.int .i64 d0) := dB.cell 0
  have g1_ : wf.cell? ⟨w.heap.size + 1, 1, none⟩ = some (.int .i64 d1) := dB.cell 1
  have g2_ : wf.cell? ⟨w.heap.size + 1, 2, none⟩ = some (.slice B0 n0 n0) := dB.cell 2
  have hres : ToMachine w d0 d1 n0 x0 (.returned (.agg #[.int .i64 d0, .int .i64 d1, .slice B0 n0 n0])) wf := ⟨B0, rfl, m0.mono (by omega), yf⟩
  exact bodyPost_ret (v := .agg #[.int .i64 d0, .int .i64 d1, .slice B0 n0 n0]) (by simp [results, Tryd.results21, go_sem, g0_, g1_, g2_]) rfl hres

def sameMachineB (d0 d0' : Int) (d1 d1' : Int) (x0 x0' : List R3) : Bool :=
  decide (d0 = d0') && decide (d1 = d1') && same3 x0 x0'
theorem sameMachineB_self (d0 : Int) (d1 : Int) (x0 : List R3) : sameMachineB d0 d0 d1 d1 x0 x0 = true := by simp [sameMachineB, same3]

set_option maxHeartbeats 1000000 in
theorem eqMachine_any (d0 : Int) (d1 : Int) (A0 : Option Addr) (n0 c0 : Nat) (x0 : List R3) (d0' : Int) (d1' : Int) (A0' : Option Addr) (n0' c0' : Nat) (x0' : List R3) (w : World) (r0 : S3 w A0 n0 x0) (r0' : S3 w A0' n0' x0') (h0 : n0 ≤ 1048576) :
    Calls Tryd.prog 23 #[.agg #[.int .i64 d0, .int .i64 d1, .slice A0 n0 c0], .agg #[.int .i64 d0', .int .i64 d1', .slice A0' n0' c0']] w fun e w' => e = .returned (.bool (sameMachineB d0 d0' d1 d1' x0 x0')) ∧ Below w.heap.size w w' := by
  obtain ⟨W, hW⟩ : ∃ W, W = (w.alloc (.cells #[.int .i64 d0, .int .i64 d1, .slice A0 n0 c0] 43)).alloc (.cells #[.int .i64 d0', .int .i64 d1', .slice A0' n0' c0'] 43) := ⟨_, rfl⟩
  have s1 : (w.alloc (.cells #[.int .i64 d0, .int .i64 d1, .slice A0 n0 c0] 43)).heap.size = w.heap.size + 1 := by simp
  have b0 : Blk W w.heap.size 43 #[.int .i64 d0, .int .i64 d1, .slice A0 n0 c0] := by rw [hW]; exact (Blk.new w _ _).alloc _
  have b1 : Blk W (w.heap.size + 1) 43 #[.int .i64 d0', .int .i64 d1', .slice A0' n0' c0'] := by rw [hW, ← s1]; exact Blk.new _ _ _
  have y0 : Below w.heap.size w W := by rw [hW]; exact ((Below.refl _ _).alloc (Nat.le_refl _) _).alloc (by simp) _
  have HW := Lib.hid hW
  clear hW s1
  cases hd_d0 : (d0 != d0')
  · skip
    have HD_d0 := Lib.hid (show d0 = d0' by simpa using hd_d0)
    cases hd_d1 : (d1 != d1')
    · skip
      have HD_d1 := Lib.hid (show d1 = d1' by simpa using hd_d1)
      go_enter Tryd.func23, Tryd.ntmps23
      go_wp2_with fail
      rw [← HW.out]
      clear hd_d0 hd_d1
      refine (eqR _ _ _ _ _ _ x0 x0' _ (r0.below y0) (r0'.below y0) (by omega)).mono ?_
      rintro e w0 ⟨rfl, bz0⟩
      have yy0 : Below w.heap.size w w0 := y0.trans (bz0.mono y0.size)
      have b0 := b0.below' bz0
      have b1 := b1.below' bz0
      cases hs0 : same3 x0 x0'
      · have HS := Lib.hid hs0
        clear hs0
        go_wp2_with fail
        go_ret
        exact ⟨ret_bool (by unfold sameMachineB; rw [HS.out]; simp), yy0⟩
      · skip
        have HS0 := Lib.hid hs0
        clear hs0
        go_wp2_with fail
        go_ret
        exact ⟨ret_bool (by unfold sameMachineB; rw [HS0.out]; simp [HD_d0.out, HD_d1.out]), yy0⟩
    · have HD := Lib.hid (show ¬ d1 = d1' by simpa using hd_d1)
      go_enter Tryd.func23, Tryd.ntmps23
      go_wp2_with fail
      rw [← HW.out]
      go_ret
      exact ⟨ret_bool (by unfold sameMachineB; simp [HD.out]), y0⟩
  · have HD := Lib.hid (show ¬ d0 = d0' by simpa using hd_d0)
    go_enter Tryd.func23, Tryd.ntmps23
    go_wp2_with fail
    rw [← HW.out]
    go_ret
    exact ⟨ret_bool (by unfold sameMachineB; simp [HD.out]), y0⟩

set_option maxHeartbeats 400000 in
theorem markMachine_m (T : List TypeId) (d0 : Int) (d1 : Int) (A0 : Option Addr) (n0 c0 : Nat) (p : Int) (w : World) (lo hi : Nat) (m0 : Mk w lo hi 136 3 A0 n0) (h0 : n0 ≤ 1048576) (tR : 136 ∈ T) (tX : 43 ∉ T) (g0 : 0 ≤ p) (g1 : p ≤ 9223372036800000000) :
    Calls Tryd.prog 28 #[.agg #[.int .i64 d0, .int .i64 d1, .slice A0 n0 c0], .int .i64 p] w (MarkP T w lo hi (n0 * 3) p) := by
  obtain ⟨W, hW⟩ : ∃ W, W = w.alloc (.cells #[.int .i64 d0, .int .i64 d1, .slice A0 n0 c0] 43) := ⟨_, rfl⟩
  have b0 : Blk W w.heap.size 43 #[.int .i64 d0, .int .i64 d1, .slice A0 n0 c0] := by rw [hW]; exact Blk.new w _ _
  have z0 : Below w.heap.size w W := by rw [hW]; exact (Below.refl _ _).alloc (Nat.le_refl _) _
  have HW := Lib.hid hW
  clear hW
  have TR := Lib.hid tR
  have TX := Lib.hid tX
  clear tR tX
  go_enter Tryd.func28, Tryd.ntmps28
  have f0 : MkF T lo hi w W := MkF.of_below z0
  go_wp2_with fail
  rw [← HW.out]
  refine (markR_m T _ _ _ _ _ lo hi (m0.mkf f0) TR.out (by omega) (by omega)).mono ?_
  rintro e w0 ⟨rfl, ff0⟩
  have f1 := f0.trans ff0
  have b0 := b0.mkf ff0 TX.out
  go_wp2_with fail
  go_ret
  exact ⟨ret_int (by omega), f1⟩
end Go.Proofs.YtokglpdlhacnaaaDoor

/-
  Words that the laws' walks share: a box that a region made, contracts of the helpers in one form.
-/
namespace Go.Proofs.YtokglpdlhacnaaaDoor
open Go.RowKit

theorem Own.asI {w : World} {lo n c : Nat} {e : TypeId} {A : Option Addr} {xs : List Int} (h : Own w lo e 1 A n c (ints xs)) : SI w A n xs := h.rd
theorem Own.as3 {w : World} {lo n c : Nat} {e : TypeId} {A : Option Addr} {xs : List R3} (h : Own w lo e 3 A n c (cells3 xs)) : S3 w A n xs := h.rd
/-- A block from lo on that is known whole. -/
def Bx (lo : Nat) (t : TypeId) (cs : Array Value) (g : Nat) (w : World) : Prop := lo ≤ g ∧ Blk w g t cs
theorem Bx.new {lo : Nat} (w : World) (t : TypeId) (cs : Array Value) (h : lo ≤ w.heap.size) : Bx lo t cs w.heap.size (w.alloc (.cells cs t)) := ⟨h, Blk.new w t cs⟩
theorem Bx.below' {lo g : Nat} {t : TypeId} {cs : Array Value} {w w' : World} (h : Bx lo t cs g w) (z : Below w.heap.size w w') : Bx lo t cs g w' := ⟨h.1, h.2.below' z⟩
theorem Bx.drewN {lo g : Nat} {t : TypeId} {cs : Array Value} {w : World} (h : Bx lo t cs g w) (n : Nat) : Bx lo t cs g (w.drewN n) := ⟨h.1, h.2.drewN n⟩
theorem below_of_alloc {w w' : World} {o : Obj} (h : Below (w.alloc o).heap.size (w.alloc o) w') : Below w.heap.size w w' :=
  ((Below.refl _ _).alloc (Nat.le_refl _) o).trans (h.mono (by simp))
theorem eqI_b (A B : Option Addr) (n m c d : Nat) (xs ys : List Int) (w : World) (hx : SI w A n xs) (hy : SI w B m ys) (hn : n ≤ 9223372036854775807) :
    Calls Tryd.prog 14 #[.slice A n c, .slice B m d] w fun e w' => e = .returned (.bool (sameI xs ys)) ∧ Below w.heap.size w w' :=
  (eqI A B n m c d xs ys w hx hy hn).mono fun _ _ ⟨he, q, hq⟩ => ⟨he, hq ▸ below_drewN (Below.refl _ _) q⟩
theorem heldI_b (A : Option Addr) (n c : Nat) (xs : List Int) (m : Int) (w : World) (hx : SI w A n xs) (h0 : 0 ≤ m) (h1 : m + n ≤ 9223372036854775807) : Calls Tryd.prog 18 #[.slice A n c, .int .i64 m] w fun e w' => e = .returned (.int .i64 (heldF m xs)) ∧ Below w.heap.size w w' := (heldI A n c xs m w hx h0 h1).mono fun _ _ ⟨he, hq⟩ => ⟨he, hq ▸ Below.refl _ _⟩
theorem sameII_self (xs : List (List Int)) : sameII xs xs = true := by simp [sameII]
end Go.Proofs.YtokglpdlhacnaaaDoor

/-
  From the reading of an argument to the words of the walks, and from a walk to a row's post. No program is in sight.
-/
namespace Go.Proofs.YtokglpdlhacnaaaDoor
open Go.ChangeShapes Go.WideShapes Go.ChangeAt Go.RowKit Go.Deep

section
variable {H : Type} {enc : TypeId × Value → H} {P : Program} {w : World} {base : Nat} {spare : Nat → Bool} {held : Bool}

theorem addr_none {w : World} {a : Addr} {k : Nat} {v : Value} (h : w.cell? (a.add k) = some v) : a = ⟨a.block, a.off, none⟩ ∨ 0 < k := by
  by_cases hk : k = 0
  · subst hk
    have h1 : (a.add 0) = a := by simp [Addr.add]
    rw [h1] at h
    have := World.cell?_spot h
    left; cases a; simp_all
  · right; omega

/-- A slice of numbers that came in. -/
theorem si_of_trod {t e : TypeId} {fuel : Nat} {v : Value} {x : DataW H × List MemPlace} (ht : P.underlying t = some (.slice e)) (he : P.underlying e = some (.int .i64)) (hc : P.cellsOf e = 1) (h : DataW.trod enc P w base (fun _ => true) held fuel t [v] = some x) :
    ∃ A n c xs, v = .slice A n c ∧ SI w A n xs ∧ n ≤ c ∧ c ≤ 9223372036854775807 ∧ ∀ z ∈ xs, -9223372036854775808 ≤ z ∧ z ≤ 9223372036854775807 := by
  rcases open_ints ht he hc h with ⟨hcs, _⟩ | ⟨a, len, cap, zs, hcs, _, hl, hm, hz, _, hcell, hwf⟩
  · simp at hcs; subst hcs
    exact ⟨none, 0, 0, [], rfl, Rd.nil, by omega, by omega, by simp⟩
  · simp at hcs; subst hcs
    simp at hz
    have hm' : cap ≤ 9223372036854775807 := by simp only [maxLen] at hm; omega
    refine ⟨some a, len, cap, zs.take len, rfl, ⟨by rw [length_ints]; simp; omega, fun hn => ?_⟩, hl, hm', fun z hz' => ?_⟩
    · rw [length_ints] at hn
      simp at hn
      have h0 := hcell 0 (by omega)
      have hs : a = ⟨a.block, a.off, none⟩ := by
        rcases addr_none h0 with h1 | h1
        · exact h1
        · omega
      refine ⟨a.block, a.off, by rw [← hs], fun k hk => ?_⟩
      rw [length_ints] at hk
      simp at hk
      have hk' := hcell k (by omega)
      rw [hs, add_lit] at hk'
      rw [ints_get, hk']
      simp [List.getD, List.getElem?_eq_getElem (show k < zs.length by omega)]
    · have := hwf z (List.mem_of_mem_take hz')
      simpa [Lit.wf, IntKind.min, IntKind.max, IntKind.signed, IntKind.bits] using this

/-- A slice of slices of numbers that came in. -/
theorem sii_of_trod {t e q : TypeId} {fuel : Nat} {v : Value} {x : DataW H × List MemPlace} (ht : P.underlying t = some (.slice e)) (he : P.underlying e = some (.slice q)) (hq : P.underlying q = some (.int .i64)) (ce : P.cellsOf e = 1) (cq : P.cellsOf q = 1)
    (h : DataW.trod enc P w base (fun _ => true) held fuel t [v] = some x) :
    ∃ A n c ts, v = .slice A n c ∧ SII w A n ts ∧ n ≤ c ∧ c ≤ 9223372036854775807 ∧ (∀ t ∈ ts, t.xs.length ≤ t.c ∧ t.c ≤ 9223372036854775807) ∧ ∀ t ∈ ts, ∀ z ∈ t.xs, -9223372036854775808 ≤ z ∧ z ≤ 9223372036854775807 := by
  rcases open_slice1 ht ce h with ⟨hcs, _⟩ | ⟨a, len, cap, m, n, V, D, Pl, hcs, _, hl, hm, hmm, _, hi⟩
  · simp at hcs; subst hcs
    exact ⟨none, 0, 0, [], rfl, ⟨Rd.nil, by simp⟩, by omega, by omega, by simp, by simp⟩
  · simp at hcs; subst hcs
    simp at hmm; subst hmm
    have hm' : m ≤ 9223372036854775807 := by simp only [maxLen] at hm; omega
    have each : ∀ i, i < m → ∃ t : Sl, V i = t.val ∧ SI w t.A t.xs.length t.xs ∧ (t.xs.length ≤ t.c ∧ t.c ≤ 9223372036854775807) ∧ ∀ z ∈ t.xs, -9223372036854775808 ≤ z ∧ z ≤ 9223372036854775807 := by
      intro i him
      obtain ⟨A, k, c, xs, hV, hS, h1, h2, h3⟩ := si_of_trod he hq cq (hi i him).2
      have hk : xs.length = k := hS.len
      subst hk
      exact ⟨⟨A, c, xs⟩, hV, hS, ⟨h1, h2⟩, h3⟩
    have hall : ∃ T : Nat → Sl, ∀ i, i < m → V i = (T i).val ∧ SI w (T i).A (T i).xs.length (T i).xs ∧ ((T i).xs.length ≤ (T i).c ∧ (T i).c ≤ 9223372036854775807) ∧ ∀ z ∈ (T i).xs, -9223372036854775808 ≤ z ∧ z ≤ 9223372036854775807 :=
      ⟨fun i => if h : i < m then (each i h).choose else ⟨none, 0, []⟩, fun i him => by simp only [him, dif_pos]; exact (each i him).choose_spec⟩
    obtain ⟨T, hT⟩ := hall
    refine ⟨some a, len, m, (List.range len).map T, rfl, ⟨⟨by simp, fun hn => ?_⟩, fun t ht' => ?_⟩, hl, hm', fun t ht' => ?_, fun t ht' => ?_⟩
    · simp at hn
      have h0 := (hi 0 (by omega)).1
      have hs : a = ⟨a.block, a.off, none⟩ := by
        rcases addr_none h0 with h1 | h1
        · exact h1
        · omega
      refine ⟨a.block, a.off, by rw [← hs], fun k hk => ?_⟩
      simp at hk
      have hk' := (hi k (by omega)).1
      rw [hs, add_lit, (hT k (by omega)).1] at hk'
      rw [hk']; simp
    · obtain ⟨i, hi', rfl⟩ := List.mem_map.1 ht'
      exact (hT i (by have := List.mem_range.1 hi'; omega)).2.1
    · obtain ⟨i, hi', rfl⟩ := List.mem_map.1 ht'
      exact (hT i (by have := List.mem_range.1 hi'; omega)).2.2.1
    · obtain ⟨i, hi', rfl⟩ := List.mem_map.1 ht'
      exact (hT i (by have := List.mem_range.1 hi'; omega)).2.2.2
end

section
variable {H : Type} {enc : TypeId × Value → H} {P : Program}
theorem trodAll_stays (hl : laidOutB P = true) {W W' : World} {sp : Nat → Bool} (hb : Below W.heap.size W W') : ∀ {ts : List TypeId} {vs : List Value} {ds : List (DataW H)} {ps : List MemPlace}, (∀ t ∈ ts, P.readableRec t = true ∧ t < P.types.size) →
    DataW.TrodAll enc P W 0 (fun _ => true) true ts vs ds ps → (∀ x ∈ ps, x.block < W.heap.size) → (∀ x ∈ ps, sp x.block = true) → DataW.TrodAll enc P W' 0 sp true ts vs ds ps
  | [], vs, ds, ps, _, h, _, _ => by
    obtain ⟨rfl, rfl, rfl⟩ := trodAll_nil h
    exact trodAll_mk0
  | t :: ts, vs, ds, ps, hr, h, hlt, hs => by
    obtain ⟨v, vs', d, ds', p, q, rfl, rfl, rfl, h0, h1⟩ := trodAll_cons h
    exact trodAll_cons_mk (WideElems.Trod_stays hl (hr t (by simp)).1 (hr t (by simp)).2 h0 (fun x hx => hb.same (hlt x (by simp [hx]))) (fun x hx => hs x (by simp [hx])))
      (trodAll_stays hl hb (fun t' ht' => hr t' (by simp [ht'])) h1 (fun x hx => hlt x (by simp [hx])) (fun x hx => hs x (by simp [hx])))

/-- A law's post: it returned true, nothing that was there has turned. -/
theorem law_post {f : Func} {s : ChangeSpec} {b : TypeId} {W W' : World} {args : Array Value} {ds : List (DataW H)} {before : List MemPlace} (hl : laidOutB P = true) (hr : ∀ t ∈ f.params.toList, P.readableRec t = true ∧ t < P.types.size)
    (hvars : s.vars = []) (hres : f.resultTypes = #[b]) (hbool : P.underlying b = some .bool) (h1 : (s.fn H (ds ++ [])).results = [.lit (.bool true)]) (h2 : (s.fn H (ds ++ [])).args = ds) (h3 : (s.fn H (ds ++ [])).vars = [])
    (hW : DataW.Whole enc P f.params.toList s.vars false W args.toList ds [] before) (hb : Below W.heap.size W W') :
    s.post enc P f false true false false W args (.bool true) W' := by
  have hlt : ∀ p ∈ before, p.block < W.heap.size := fun p hp => hW.lt p hp
  have hold : ∀ p ∈ before, (fun b => decide (b < W.heap.size)) p.block = true := fun p hp => by simpa using hlt p hp
  obtain ⟨p, q, hA, hV, hps, hfz, hnd⟩ := id hW
  rw [hvars] at hV
  obtain ⟨_, rfl⟩ := trodVars_none hV
  simp only [List.append_nil] at hps
  subst hps
  refine ⟨ds, [], before, [], before, [], hW, ?_, ?_, ?_, World.keptBut_mono (fun p hp => ⟨hp, ?_⟩) (hb.frame (· ∈ before)), fun h => by cases h⟩
  · rw [h1, hres]
    exact trodAll_mk1 (shut_bool hbool true)
  · rw [h2]
    exact trodAll_stays hl hb hr hA hlt hold
  · rw [h3, hvars]; rfl
  · simp [hp]
end
end Go.Proofs.YtokglpdlhacnaaaDoor

/-
  From the reading of an argument that is a slice of triples to the words of the walks. No program is in sight.
-/
namespace Go.Proofs.YtokglpdlhacnaaaDoor
open Go.ChangeShapes Go.WideShapes Go.ChangeAt Go.RowKit Go.Deep

theorem addr_add_add (a : Addr) (i j : Nat) (w : World) (v : Value) (h : w.cell? ((a.add i).add j) = some v) : w.cell? (a.add (i + j)) = some v := by
  rw [← h]
  congr 1
  unfold Addr.add
  by_cases hi : i = 0 <;> by_cases hj : j = 0 <;> simp_all <;> omega

section
variable {H : Type} {enc : TypeId × Value → H} {P : Program} {w : World} {base : Nat} {held : Bool}
/-- A slice of triples that came in. -/
theorem s3_of_trod {t e q : TypeId} {f0 f1 f2 : Field} {fuel : Nat} {v : Value} {x : DataW H × List MemPlace} (ht : P.underlying t = some (.slice e)) (he : P.underlying e = some (.struct #[f0, f1, f2])) (t0 : f0.type = q) (t1 : f1.type = q) (t2 : f2.type = q) (o0 : f0.offset = 0) (o1 : f1.offset = 1) (o2 : f2.offset = 2) (hq : P.underlying q = some (.int .i64)) (ce : P.cellsOf e = 3) (cq : P.cellsOf q = 1)
    (h : DataW.trod enc P w base (fun _ => true) held fuel t [v] = some x) :
    ∃ A n c rs, v = .slice A n c ∧ S3 w A n rs ∧ n ≤ c ∧ c ≤ 9223372036854775807 := by
  rcases open_slice ht h with ⟨hcs, _⟩ | ⟨a, len, cap, m, n, D, Pl, hcs, _, hl, hm, hmm, _, hi⟩
  · simp at hcs; subst hcs
    exact ⟨none, 0, 0, [], rfl, Rd.nil, by omega, by omega⟩
  · simp at hcs; subst hcs
    simp at hmm; subst hmm
    have hm' : m ≤ 9223372036854775807 := by simp only [maxLen] at hm; omega
    have each : ∀ i, i < m → ∃ r : R3, w.cell? (a.add (i * 3 + 0)) = some (.int .i64 r.a) ∧ w.cell? (a.add (i * 3 + 1)) = some (.int .i64 r.b) ∧ w.cell? (a.add (i * 3 + 2)) = some (.int .i64 r.c) := by
      intro i him
      obtain ⟨cs', hc, htr⟩ := hi i him
      rw [ce] at hc
      obtain ⟨_, hlen, hcell⟩ := World.cells?_some hc
      obtain ⟨y0, y1, y2, n', _, _, h0, h1, h2⟩ := trod_struct3 he htr
      rw [t0, o0, cq] at h0
      rw [t1, o1, cq] at h1
      rw [t2, o2, cq] at h2
      match cs', hlen, hcell, h0, h1, h2 with
      | [c0, c1, c2], _, hcell, h0, h1, h2 =>
        simp at h0 h1 h2
        obtain ⟨z0, e0, _, _⟩ := DataW.trod_int hq h0
        obtain ⟨z1, e1, _, _⟩ := DataW.trod_int hq h1
        obtain ⟨z2, e2, _, _⟩ := DataW.trod_int hq h2
        simp only [List.cons.injEq, and_true] at e0 e1 e2
        subst e0 e1 e2
        exact ⟨⟨z0, z1, z2⟩, addr_add_add _ _ _ _ _ (by simpa using hcell 0 (by omega)), addr_add_add _ _ _ _ _ (by simpa using hcell 1 (by omega)), addr_add_add _ _ _ _ _ (by simpa using hcell 2 (by omega))⟩
    have hall : ∃ T : Nat → R3, ∀ i, i < m → w.cell? (a.add (i * 3 + 0)) = some (.int .i64 (T i).a) ∧ w.cell? (a.add (i * 3 + 1)) = some (.int .i64 (T i).b) ∧ w.cell? (a.add (i * 3 + 2)) = some (.int .i64 (T i).c) :=
      ⟨fun i => if h : i < m then (each i h).choose else ⟨0, 0, 0⟩, fun i him => by simp only [him, dif_pos]; exact (each i him).choose_spec⟩
    obtain ⟨T, hT⟩ := hall
    refine ⟨some a, len, m, (List.range len).map T, rfl, ⟨by rw [length_cells3]; simp, fun hn => ?_⟩, hl, hm'⟩
    rw [length_cells3] at hn
    simp at hn
    have h0 := (hT 0 (by omega)).1
    have hs : a = ⟨a.block, a.off, none⟩ := by
      rcases addr_none h0 with h1 | h1
      · exact h1
      · omega
    refine ⟨a.block, a.off, by rw [← hs], fun k hk => ?_⟩
    have hk2 := hk
    rw [length_cells3] at hk2
    simp at hk2
    obtain ⟨i, j, hj, rfl⟩ : ∃ i j, j < 3 ∧ k = i * 3 + j := ⟨k / 3, k % 3, by omega, by omega⟩
    have hg : ((List.range len).map T)[i]? = some (T i) := by simp [show i < len by omega]
    obtain ⟨g0, g1, g2⟩ := cells3_get _ _ _ hg
    obtain ⟨q0, q1, q2⟩ := hT i (by omega)
    rw [hs, add_lit] at q0 q1 q2
    match j, hj with
    | 0, _ => rw [q0, ← g0]; exact List.getElem?_eq_getElem _
    | 1, _ => rw [q1, ← g1]; exact List.getElem?_eq_getElem _
    | 2, _ => rw [q2, ← g2]; exact List.getElem?_eq_getElem _
end
end Go.Proofs.YtokglpdlhacnaaaDoor

/-
  What the backward search's laws stand on.
-/
namespace Go.Proofs.YtokglpdlhacnaaaDoor
theorem backAll : True := trivial
end Go.Proofs.YtokglpdlhacnaaaDoor
