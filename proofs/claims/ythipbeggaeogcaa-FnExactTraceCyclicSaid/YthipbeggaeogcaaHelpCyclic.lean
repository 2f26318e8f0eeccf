/-
  Contracts of the laws' helpers over Cyclic: szCyclic, toCyclic, eqCyclic, markCyclic.
-/
import Derived.Test.YthipbeggaeogcaaHelpP
import Derived.BigGuardPart
import Derived.Test.YthipbeggaeogcaaHelpQ
namespace Go.Proofs.Ythipbeggaeogcaa
open Go.RowKit

set_option maxHeartbeats 400000 in
theorem szCyclic_any  (A0 : Option Addr) (n0 c0 : Nat) (x0 : List Sl) (left : Int) (w : World) (h0 : n0 ≤ 9223372036854775807) (r0 : SII w A0 n0 x0) (hr0 : ∀ t ∈ x0, t.xs.length ≤ 9223372036854775807) (g0 : 0 ≤ left) (g1 : left ≤ 1048576) :
    Calls Try.prog 14 #[.agg #[.slice A0 n0 c0], .int .i64 left] w (SzP w left (((n0 + total x0 : Nat) : Int))) := by
  obtain ⟨W, hW⟩ : ∃ W, W = w.alloc (.cells #[.slice A0 n0 c0] 24) := ⟨_, rfl⟩
  have b0 : Blk W w.heap.size 24 #[.slice A0 n0 c0] := by rw [hW]; exact Blk.new w _ _
  have z0 : Below w.heap.size w W := by rw [hW]; exact (Below.refl _ _).alloc (Nat.le_refl _) _
  have HW := Lib.hid hW
  clear hW
  go_enter Try.func14, Try.ntmps14
  go_wp2_with fail
  rw [← HW.out]
  refine (szII_p A0 n0 c0 x0 left W (r0.below z0) h0 hr0 (by omega) (by omega)).mono ?_
  rintro e w1 ⟨z1, rfl, l1, u1, e1, b1⟩
  have E1 := Lib.hid e1
  clear e1
  have y1 : Below w.heap.size w w1 := z0.trans (b1.mono z0.size)
  by_cases hneg1 : z1 < 0
  · go_wp2_with fail
    go_ret
    exact ⟨-1, rfl, by omega, by omega, by omega, y1⟩
  go_wp2_with fail
  go_ret
  exact ⟨z1, rfl, by omega, by omega, fun _ => by have t1 := E1.out (by omega); omega, y1⟩

def ToCyclic (w : World)  (n0 : Nat) (x0 : List (List Int)) (e : Ending) (w' : World) : Prop :=
  ∃ B0 us0, e = .returned (.agg #[.slice B0 n0 n0]) ∧ OII w' w.heap.size 25 2 B0 n0 n0 us0 ∧ nums us0 = x0 ∧ Below w.heap.size w w'

set_option maxHeartbeats 1000000 in
theorem toCyclic_any  (A0 : Option Addr) (n0 c0 : Nat) (x0 : List Sl) (w : World) (r0 : SII w A0 n0 x0) (h0 : n0 ≤ 1048576) (hr0 : ∀ t ∈ x0, t.xs.length ≤ 1048576) :
    Calls Try.prog 17 #[.agg #[.slice A0 n0 c0]] w (ToCyclic w  n0 (nums x0)) := by
  obtain ⟨W, hW⟩ : ∃ W, W = ((w.alloc (.cells #[.slice A0 n0 c0] 24)).alloc (.cells #[.slice none 0 0] 33)).alloc (.cells #[.slice none 0 0] 33) := ⟨_, rfl⟩
  have s1 : (w.alloc (.cells #[.slice A0 n0 c0] 24)).heap.size = w.heap.size + 1 := by simp
  have s2 : ((w.alloc (.cells #[.slice A0 n0 c0] 24)).alloc (.cells #[.slice none 0 0] 33)).heap.size = w.heap.size + 1 + 1 := by simp
  have b0 : Blk W w.heap.size 24 #[.slice A0 n0 c0] := by rw [hW]; exact ((Blk.new w _ _).alloc _).alloc _
  have b1 : Blk W (w.heap.size + 1) 33 #[.slice none 0 0] := by rw [hW, ← s1]; exact (Blk.new _ _ _).alloc _
  have b2 : Blk W (w.heap.size + 1 + 1) 33 #[.slice none 0 0] := by rw [hW, ← s2]; exact Blk.new _ _ _
  have y0 : Below w.heap.size w W := by rw [hW]; exact (((Below.refl _ _).alloc (Nat.le_refl _) _).alloc (by simp) _).alloc (by simp; omega) _
  have hz : w.heap.size + 1 + 1 < W.heap.size := b2.lt
  have HW := Lib.hid hW
  clear hW s1 s2
  go_enter Try.func17, Try.ntmps17
  go_wp2_with fail
  rw [← HW.out]
  clear HW
  refine (toII _ _ _ x0 _ (r0.below y0) h0 hr0).mono ?_
  rintro e w0 ⟨B0, us0, rfl, o0, hnu0, hcu0, bz0⟩
  have HN0 := Lib.hid hnu0
  clear hnu0 hcu0
  have b0 := b0.below' bz0
  have b1 := b1.below' bz0
  have b2 := b2.below' bz0
  have yc0 : Below w.heap.size w w0 := y0.trans (bz0.mono y0.size)
  have hw0 : W.heap.size ≤ w0.heap.size := by have := bz0.size; omega
  have p0 : w0.cell? ⟨w.heap.size + 1 + 1, 0, none⟩ = some (.slice none 0 0) := b2.cell 0
  have pf0 := b2.frozen 0
  have c0_ : w0.cell? ⟨w.heap.size + 1, 0, none⟩ = some (.slice none 0 0) := b1.cell 0
  have f0_ := b1.frozen 0
  go_wp2_with fail
  have dB : Blk ((w0.setCell ⟨w.heap.size + 1 + 1, 0, none⟩ (.slice B0 n0 n0)).setCell ⟨w.heap.size + 1, 0, none⟩ (.slice B0 n0 n0)) (w.heap.size + 1) 33 #[.slice B0 n0 n0] := (b1.far (p := ⟨w.heap.size + 1 + 1, 0, none⟩) (by simp) _).set_ 0 _
  have m0 : OII ((w0.setCell ⟨w.heap.size + 1 + 1, 0, none⟩ (.slice B0 n0 n0)).setCell ⟨w.heap.size + 1, 0, none⟩ (.slice B0 n0 n0)) W.heap.size 25 2 B0 n0 n0 us0 := (o0.far (by intro b h; simp; omega) _).far (by intro b h; simp; omega) _
  have yf : Below w.heap.size w ((w0.setCell ⟨w.heap.size + 1 + 1, 0, none⟩ (.slice B0 n0 n0)).setCell ⟨w.heap.size + 1, 0, none⟩ (.slice B0 n0 n0)) := (yc0.setCell (by simp; omega) _).setCell (by simp) _
  generalize (w0.setCell ⟨w.heap.size + 1 + 1, 0, none⟩ (.slice B0 n0 n0)).setCell ⟨w.heap.size + 1, 0, none⟩ (.slice B0 n0 n0) = wf at *
  have g0_ : wf.cell? ⟨w.heap.size + 1, 0, none⟩ = some (.slice B0 n0 n0) := dB.cell 0
  have hres : ToCyclic w  n0 (nums x0) (.returned (.agg #[.slice B0 n0 n0])) wf := ⟨B0, us0, rfl, ⟨m0.1.mono (by omega), fun u hu => (m0.2.1 u hu).mono (by omega), m0.2.2⟩, HN0.out, yf⟩
  exact bodyPost_ret (v := .agg #[.slice B0 n0 n0]) (by simp [results, Try.results17, go_sem, g0_]) rfl hres

def sameCyclicB  (x0 x0' : List (List Int)) : Bool :=
  sameII x0 x0'
theorem sameCyclicB_self  (x0 : List (List Int)) : sameCyclicB  x0 x0 = true := by simp [sameCyclicB, sameII]

set_option maxHeartbeats 1000000 in
theorem eqCyclic_any  (A0 : Option Addr) (n0 c0 : Nat) (x0 : List Sl)  (A0' : Option Addr) (n0' c0' : Nat) (x0' : List Sl) (w : World) (r0 : SII w A0 n0 x0) (r0' : SII w A0' n0' x0') (h0 : n0 ≤ 1048576) (hr0 : ∀ t ∈ x0, t.xs.length ≤ 1048576) :
    Calls Try.prog 21 #[.agg #[.slice A0 n0 c0], .agg #[.slice A0' n0' c0']] w fun e w' => e = .returned (.bool (sameCyclicB  (nums x0) (nums x0'))) ∧ Below w.heap.size w w' := by
  obtain ⟨W, hW⟩ : ∃ W, W = (w.alloc (.cells #[.slice A0 n0 c0] 33)).alloc (.cells #[.slice A0' n0' c0'] 33) := ⟨_, rfl⟩
  have s1 : (w.alloc (.cells #[.slice A0 n0 c0] 33)).heap.size = w.heap.size + 1 := by simp
  have b0 : Blk W w.heap.size 33 #[.slice A0 n0 c0] := by rw [hW]; exact (Blk.new w _ _).alloc _
  have b1 : Blk W (w.heap.size + 1) 33 #[.slice A0' n0' c0'] := by rw [hW, ← s1]; exact Blk.new _ _ _
  have y0 : Below w.heap.size w W := by rw [hW]; exact ((Below.refl _ _).alloc (Nat.le_refl _) _).alloc (by simp) _
  have HW := Lib.hid hW
  clear hW s1
  go_enter Try.func21, Try.ntmps21
  go_wp2_with fail
  rw [← HW.out]
  refine (eqII _ _ _ _ _ _ x0 x0' _ (r0.below y0) (r0'.below y0) (by omega) (fun t ht => by have := hr0 t ht; omega)).mono ?_
  rintro e w0' ⟨rfl, q0, rfl⟩
  have bz0 : Below W.heap.size W (W.drewN q0) := below_drewN (Below.refl _ _) _
  generalize W.drewN q0 = w0 at *
  have yy0 : Below w.heap.size w w0 := y0.trans (bz0.mono y0.size)
  have b0 := b0.below' bz0
  have b1 := b1.below' bz0
  cases hs0 : sameII (nums x0) (nums x0')
  · have HS := Lib.hid hs0
    clear hs0
    go_wp2_with fail
    go_ret
    exact ⟨ret_bool (by unfold sameCyclicB; rw [HS.out]), yy0⟩
  · skip
    have HS0 := Lib.hid hs0
    clear hs0
    go_wp2_with fail
    go_ret
    exact ⟨ret_bool (by unfold sameCyclicB; rw [HS0.out]), yy0⟩

set_option maxHeartbeats 400000 in
theorem markCyclic_m (T : List TypeId)  (A0 : Option Addr) (n0 c0 : Nat) (x0 : List Sl) (p : Int) (w : World) (lo hi : Nat) (m0 : MkII w lo hi 25 2 A0 n0 c0 x0) (h0 : n0 ≤ 1048576) (ht0 : total x0 ≤ 1048576) (tI : 2 ∈ T) (tII : 25 ∉ T) (tX : 33 ∉ T) (g0 : 0 ≤ p) (g1 : p ≤ 9223372036800000000) :
    Calls Try.prog 22 #[.agg #[.slice A0 n0 c0], .int .i64 p] w (MarkP T w lo hi (total x0) p) := by
  obtain ⟨W, hW⟩ : ∃ W, W = w.alloc (.cells #[.slice A0 n0 c0] 33) := ⟨_, rfl⟩
  have b0 : Blk W w.heap.size 33 #[.slice A0 n0 c0] := by rw [hW]; exact Blk.new w _ _
  have z0 : Below w.heap.size w W := by rw [hW]; exact (Below.refl _ _).alloc (Nat.le_refl _) _
  have HW := Lib.hid hW
  clear hW
  have TI := Lib.hid tI
  have TII := Lib.hid tII
  have TX := Lib.hid tX
  clear tI tII tX
  go_enter Try.func22, Try.ntmps22
  have f0 : MkF T lo hi w W := MkF.of_below z0
  go_wp2_with fail
  rw [← HW.out]
  refine (markII_m T _ _ _ x0 _ _ lo hi (m0.mkf f0 TII.out) TI.out TII.out (by omega) (by omega) (by omega)).mono ?_
  rintro e w0 ⟨rfl, ff0⟩
  have f1 := f0.trans ff0
  have b0 := b0.mkf ff0 TX.out
  go_wp2_with fail
  go_ret
  exact ⟨ret_int (by omega), f1⟩
end Go.Proofs.Ythipbeggaeogcaa
