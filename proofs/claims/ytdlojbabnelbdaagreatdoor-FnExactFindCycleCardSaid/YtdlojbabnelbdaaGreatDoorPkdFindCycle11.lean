/-
  What the size helpers of the laws come to, in one form.
-/
import Derived.Test.YtdlojbabnelbdaaGreatDoorPkdFindCycle1
import Derived.Test.YtdlojbabnelbdaaGreatDoorPkdFindCycle7
import Derived.Test.YtdlojbabnelbdaaGreatDoorPkdFindCycle8
import Derived.Test.YtdlojbabnelbdaaGreatDoorPkdFindCycle10
import Derived.BigGuardPart
import Derived.Test.YtdlojbabnelbdaaGreatDoorRows
import Derived.LaidMore
import Derived.Stop.Joined
import Derived.Test.YtdlojbabnelbdaaGreatDoorCards
import Derived.Test.YtdlojbabnelbdaaGreatDoorTie
import Derived.SevenTiedAt
namespace Go.Proofs.YtdlojbabnelbdaaGreatDoor
open Go.RowKit
def SzP (w : World) (left tot : Int) (e : Ending) (w' : World) : Prop := ∃ z : Int, e = .returned (.int .i64 z) ∧ -1 ≤ z ∧ z ≤ left ∧ (0 ≤ z → z = left - tot) ∧ Below w.heap.size w w'
theorem szF_p {left : Int} {n : Nat} (h0 : 0 ≤ left) : -1 ≤ szF left n ∧ szF left n ≤ left ∧ (0 ≤ szF left n → szF left n = left - n) := by
  unfold szF; split <;> omega
theorem szR_p (A : Option Addr) (n c : Nat) (left : Int) (w : World) (hn : n ≤ 9223372036854775807) (h0 : 0 ≤ left) (h1 : left ≤ 1048576) : Calls Tryz.prog 13 #[.slice A n c, .int .i64 left] w (SzP w left n) := (szR A n c left w hn h0 h1).mono fun _e _w' ⟨he, hw⟩ => ⟨_, he, (szF_p h0).1, (szF_p h0).2.1, (szF_p h0).2.2, hw ▸ Below.refl _ _⟩
end Go.Proofs.YtdlojbabnelbdaaGreatDoor

/-
  Contracts of the laws' helpers over Machine: szMachine, toMachine, eqMachine, markMachine.
-/
namespace Go.Proofs.YtdlojbabnelbdaaGreatDoor
open Go.RowKit

set_option maxHeartbeats 400000 in
theorem szMachine_any (d0 : Int) (d1 : Int) (A0 : Option Addr) (n0 c0 : Nat) (left : Int) (w : World) (h0 : n0 ≤ 9223372036854775807) (g0 : 0 ≤ left) (g1 : left ≤ 1048576) :
    Calls Tryz.prog 4 #[.agg #[.int .i64 d0, .int .i64 d1, .slice A0 n0 c0], .int .i64 left] w (SzP w left ((n0 : Int))) := by
  obtain ⟨W, hW⟩ : ∃ W, W = w.alloc (.cells #[.int .i64 d0, .int .i64 d1, .slice A0 n0 c0] 24) := ⟨_, rfl⟩
  have b0 : Blk W w.heap.size 24 #[.int .i64 d0, .int .i64 d1, .slice A0 n0 c0] := by rw [hW]; exact Blk.new w _ _
  have z0 : Below w.heap.size w W := by rw [hW]; exact (Below.refl _ _).alloc (Nat.le_refl _) _
  have HW := Lib.hid hW
  clear hW
  go_enter Tryz.func4, Tryz.ntmps4
  go_wp2_with fail
  rw [← HW.out]
  refine (szR_p A0 n0 c0 left W h0 (by omega) (by omega)).mono ?_
  rintro e w1 ⟨z1, rfl, l1, u1, e1, b1⟩
  have E1 := Lib.hid e1
  clear e1
  have y1 : Below w.heap.size w w1 := z0.trans (b1.mono z0.size)
  by_cases hneg1 : z1 < 0
  · go_wp2_with fail
    go_ret
    exact ⟨-1, rfl, by omega, by omega, by omega, y1⟩
  go_wp2_with fail
  go_ret
  exact ⟨z1, rfl, by omega, by omega, fun _ => by have t1 := E1.out (by omega); omega, y1⟩

def ToMachine (w : World) (d0 : Int) (d1 : Int) (n0 : Nat) (x0 : List R3) (e : Ending) (w' : World) : Prop :=
  ∃ B0, e = .returned (.agg #[.int .i64 d0, .int .i64 d1, .slice B0 n0 n0]) ∧ Own w' w.heap.size 78 3 B0 n0 n0 (cells3 x0) ∧ Below w.heap.size w w'

set_option maxHeartbeats 1000000 in
theorem toMachine_any (d0 : Int) (d1 : Int) (A0 : Option Addr) (n0 c0 : Nat) (x0 : List R3) (w : World) (r0 : S3 w A0 n0 x0) (h0 : n0 ≤ 1048576) :
    Calls Tryz.prog 6 #[.agg #[.int .i64 d0, .int .i64 d1, .slice A0 n0 c0]] w (ToMachine w d0 d1 n0 x0) := by
  obtain ⟨W, hW⟩ : ∃ W, W = ((w.alloc (.cells #[.int .i64 d0, .int .i64 d1, .slice A0 n0 c0] 24)).alloc (.cells #[.int .i64 0, .int .i64 0, .slice none 0 0] 34)).alloc (.cells #[.int .i64 d0, .int .i64 d1, .slice none 0 0] 34) := ⟨_, rfl⟩
  have s1 : (w.alloc (.cells #[.int .i64 d0, .int .i64 d1, .slice A0 n0 c0] 24)).heap.size = w.heap.size + 1 := by simp
  have s2 : ((w.alloc (.cells #[.int .i64 d0, .int .i64 d1, .slice A0 n0 c0] 24)).alloc (.cells #[.int .i64 0, .int .i64 0, .slice none 0 0] 34)).heap.size = w.heap.size + 1 + 1 := by simp
  have b0 : Blk W w.heap.size 24 #[.int .i64 d0, .int .i64 d1, .slice A0 n0 c0] := by rw [hW]; exact ((Blk.new w _ _).alloc _).alloc _
  have b1 : Blk W (w.heap.size + 1) 34 #[.int .i64 0, .int .i64 0, .slice none 0 0] := by rw [hW, ← s1]; exact (Blk.new _ _ _).alloc _
  have b2 : Blk W (w.heap.size + 1 + 1) 34 #[.int .i64 d0, .int .i64 d1, .slice none 0 0] := by rw [hW, ← s2]; exact Blk.new _ _ _
  have y0 : Below w.heap.size w W := by rw [hW]; exact (((Below.refl _ _).alloc (Nat.le_refl _) _).alloc (by simp) _).alloc (by simp; omega) _
  have hz : w.heap.size + 1 + 1 < W.heap.size := b2.lt
  have HW := Lib.hid hW
  clear hW s1 s2
  go_enter Tryz.func6, Tryz.ntmps6
  go_wp2_with fail
  rw [← HW.out]
  clear HW
  refine (toR _ _ _ x0 _ (r0.below y0) h0).mono ?_
  rintro e w0 ⟨B0, rfl, o0, bz0⟩
  have b0 := b0.below' bz0
  have b1 := b1.below' bz0
  have b2 := b2.below' bz0
  have yc0 : Below w.heap.size w w0 := y0.trans (bz0.mono y0.size)
  have hw0 : W.heap.size ≤ w0.heap.size := by have := bz0.size; omega
  have p0 : w0.cell? ⟨w.heap.size + 1 + 1, 2, none⟩ = some (.slice none 0 0) := b2.cell 2
  have pf0 := b2.frozen 2
  have a0 : w0.cell? ⟨w.heap.size + 1 + 1, 0, none⟩ = some (.int .i64 d0) := b2.cell 0
  have a1 : w0.cell? ⟨w.heap.size + 1 + 1, 1, none⟩ = some (.int .i64 d1) := b2.cell 1
  have c0_ : w0.cell? ⟨w.heap.size + 1, 0, none⟩ = some (.int .i64 0) := b1.cell 0
  have f0_ := b1.frozen 0
  have c1_ : w0.cell? ⟨w.heap.size + 1, 1, none⟩ = some (.int .i64 0) := b1.cell 1
  have f1_ := b1.frozen 1
  have c2_ : w0.cell? ⟨w.heap.size + 1, 2, none⟩ = some (.slice none 0 0) := b1.cell 2
  have f2_ := b1.frozen 2
  go_wp2_with fail
  have dB : Blk ((((w0.setCell ⟨w.heap.size + 1 + 1, 2, none⟩ (.slice B0 n0 n0)).setCell ⟨w.heap.size + 1, 0, none⟩ (.int .i64 d0)).setCell ⟨w.heap.size + 1, 1, none⟩ (.int .i64 d1)).setCell ⟨w.heap.size + 1, 2, none⟩ (.slice B0 n0 n0)) (w.heap.size + 1) 34 #[.int .i64 d0, .int .i64 d1, .slice B0 n0 n0] := (((b1.far (p := ⟨w.heap.size + 1 + 1, 2, none⟩) (by simp) _).set_ 0 _).set_ 1 _).set_ 2 _
  have m0 : Own ((((w0.setCell ⟨w.heap.size + 1 + 1, 2, none⟩ (.slice B0 n0 n0)).setCell ⟨w.heap.size + 1, 0, none⟩ (.int .i64 d0)).setCell ⟨w.heap.size + 1, 1, none⟩ (.int .i64 d1)).setCell ⟨w.heap.size + 1, 2, none⟩ (.slice B0 n0 n0)) W.heap.size 78 3 B0 n0 n0 (cells3 x0) := (((o0.far (fun e => by have := o0.blk_ge _ e; simp at this; omega) _).far (fun e => by have := o0.blk_ge _ e; simp at this; omega) _).far (fun e => by have := o0.blk_ge _ e; simp at this; omega) _).far (fun e => by have := o0.blk_ge _ e; simp at this; omega) _
  have yf : Below w.heap.size w ((((w0.setCell ⟨w.heap.size + 1 + 1, 2, none⟩ (.slice B0 n0 n0)).setCell ⟨w.heap.size + 1, 0, none⟩ (.int .i64 d0)).setCell ⟨w.heap.size + 1, 1, none⟩ (.int .i64 d1)).setCell ⟨w.heap.size + 1, 2, none⟩ (.slice B0 n0 n0)) := (((yc0.setCell (by simp; omega) _).setCell (by simp) _).setCell (by simp) _).setCell (by simp) _
  generalize (((w0.setCell ⟨w.heap.size + 1 + 1, 2, none⟩ (.slice B0 n0 n0)).setCell ⟨w.heap.size + 1, 0, none⟩ (.int .i64 d0)).setCell ⟨w.heap.size + 1, 1, none⟩ (.int .i64 d1)).setCell ⟨w.heap.size + 1, 2, none⟩ (.slice B0 n0 n0) = wf at *
  have g0_ : wf.cell? ⟨w.heap.size + 1, 0, none⟩ = some (.int .i64 d0) := dB.cell 0
  have g1_ : wf.cell? ⟨w.heap.size + 1, 1, none⟩ = some (.int .i64 d1) := dB.cell 1
  have g2_ : wf.cell? ⟨w.heap.size + 1, 2, none⟩ = some (.slice B0 n0 n0) := dB.cell 2
  have hres : ToMachine w d0 d1 n0 x0 (.returned (.agg #[.int .i64 d0, .int .i64 d1, .slice B0 n0 n0])) wf := ⟨B0, rfl, m0.mono (by omega), yf⟩
  exact bodyPost_ret (v := .agg #[.int .i64 d0, .int .i64 d1, .slice B0 n0 n0]) (by simp [results, Tryz.results6, go_sem, g0_, g1_, g2_]) rfl hres

def sameMachineB (d0 d0' : Int) (d1 d1' : Int) (x0 x0' : List R3) : Bool :=
  decide (d0 = d0') && decide (d1 = d1') && same3 x0 x0'
theorem sameMachineB_self (d0 : Int) (d1 : Int) (x0 : List R3) : sameMachineB d0 d0 d1 d1 x0 x0 = true := by simp [sameMachineB, same3]

set_option maxHeartbeats 1000000 in
theorem eqMachine_any (d0 : Int) (d1 : Int) (A0 : Option Addr) (n0 c0 : Nat) (x0 : List R3) (d0' : Int) (d1' : Int) (A0' : Option Addr) (n0' c0' : Nat) (x0' : List R3) (w : World) (r0 : S3 w A0 n0 x0) (r0' : S3 w A0' n0' x0') (h0 : n0 ≤ 1048576) :
    Calls Tryz.prog 9 #[.agg #[.int .i64 d0, .int .i64 d1, .slice A0 n0 c0], .agg #[.int .i64 d0', .int .i64 d1', .slice A0' n0' c0']] w fun e w' => e = .returned (.bool (sameMachineB d0 d0' d1 d1' x0 x0')) ∧ Below w.heap.size w w' := by
  obtain ⟨W, hW⟩ : ∃ W, W = (w.alloc (.cells #[.int .i64 d0, .int .i64 d1, .slice A0 n0 c0] 34)).alloc (.cells #[.int .i64 d0', .int .i64 d1', .slice A0' n0' c0'] 34) := ⟨_, rfl⟩
  have s1 : (w.alloc (.cells #[.int .i64 d0, .int .i64 d1, .slice A0 n0 c0] 34)).heap.size = w.heap.size + 1 := by simp
  have b0 : Blk W w.heap.size 34 #[.int .i64 d0, .int .i64 d1, .slice A0 n0 c0] := by rw [hW]; exact (Blk.new w _ _).alloc _
  have b1 : Blk W (w.heap.size + 1) 34 #[.int .i64 d0', .int .i64 d1', .slice A0' n0' c0'] := by rw [hW, ← s1]; exact Blk.new _ _ _
  have y0 : Below w.heap.size w W := by rw [hW]; exact ((Below.refl _ _).alloc (Nat.le_refl _) _).alloc (by simp) _
  have HW := Lib.hid hW
  clear hW s1
  cases hd_d0 : (d0 != d0')
  · skip
    have HD_d0 := Lib.hid (show d0 = d0' by simpa using hd_d0)
    cases hd_d1 : (d1 != d1')
    · skip
      have HD_d1 := Lib.hid (show d1 = d1' by simpa using hd_d1)
      go_enter Tryz.func9, Tryz.ntmps9
      go_wp2_with fail
      rw [← HW.out]
      clear hd_d0 hd_d1
      refine (eqR _ _ _ _ _ _ x0 x0' _ (r0.below y0) (r0'.below y0) (by omega)).mono ?_
      rintro e w0 ⟨rfl, bz0⟩
      have yy0 : Below w.heap.size w w0 := y0.trans (bz0.mono y0.size)
      have b0 := b0.below' bz0
      have b1 := b1.below' bz0
      cases hs0 : same3 x0 x0'
      · have HS := Lib.hid hs0
        clear hs0
        go_wp2_with fail
        go_ret
        exact ⟨ret_bool (by unfold sameMachineB; rw [HS.out]; simp), yy0⟩
      · skip
        have HS0 := Lib.hid hs0
        clear hs0
        go_wp2_with fail
        go_ret
        exact ⟨ret_bool (by unfold sameMachineB; rw [HS0.out]; simp [HD_d0.out, HD_d1.out]), yy0⟩
    · have HD := Lib.hid (show ¬ d1 = d1' by simpa using hd_d1)
      go_enter Tryz.func9, Tryz.ntmps9
      go_wp2_with fail
      rw [← HW.out]
      go_ret
      exact ⟨ret_bool (by unfold sameMachineB; simp [HD.out]), y0⟩
  · have HD := Lib.hid (show ¬ d0 = d0' by simpa using hd_d0)
    go_enter Tryz.func9, Tryz.ntmps9
    go_wp2_with fail
    rw [← HW.out]
    go_ret
    exact ⟨ret_bool (by unfold sameMachineB; simp [HD.out]), y0⟩

set_option maxHeartbeats 400000 in
theorem markMachine_m (T : List TypeId) (d0 : Int) (d1 : Int) (A0 : Option Addr) (n0 c0 : Nat) (p : Int) (w : World) (lo hi : Nat) (m0 : Mk w lo hi 78 3 A0 n0) (h0 : n0 ≤ 1048576) (tR : 78 ∈ T) (tX : 34 ∉ T) (g0 : 0 ≤ p) (g1 : p ≤ 9223372036800000000) :
    Calls Tryz.prog 10 #[.agg #[.int .i64 d0, .int .i64 d1, .slice A0 n0 c0], .int .i64 p] w (MarkP T w lo hi (n0 * 3) p) := by
  obtain ⟨W, hW⟩ : ∃ W, W = w.alloc (.cells #[.int .i64 d0, .int .i64 d1, .slice A0 n0 c0] 34) := ⟨_, rfl⟩
  have b0 : Blk W w.heap.size 34 #[.int .i64 d0, .int .i64 d1, .slice A0 n0 c0] := by rw [hW]; exact Blk.new w _ _
  have z0 : Below w.heap.size w W := by rw [hW]; exact (Below.refl _ _).alloc (Nat.le_refl _) _
  have HW := Lib.hid hW
  clear hW
  have TR := Lib.hid tR
  have TX := Lib.hid tX
  clear tR tX
  go_enter Tryz.func10, Tryz.ntmps10
  have f0 : MkF T lo hi w W := MkF.of_below z0
  go_wp2_with fail
  rw [← HW.out]
  refine (markR_m T _ _ _ _ _ lo hi (m0.mkf f0) TR.out (by omega) (by omega)).mono ?_
  rintro e w0 ⟨rfl, ff0⟩
  have f1 := f0.trans ff0
  have b0 := b0.mkf ff0 TX.out
  go_wp2_with fail
  go_ret
  exact ⟨ret_int (by omega), f1⟩
end Go.Proofs.YtdlojbabnelbdaaGreatDoor

/-
  Contracts of the laws' helpers over [][]int64: szInt64SS, toInt64SS, eqInt64SS, markInt64SS.
-/
namespace Go.Proofs.YtdlojbabnelbdaaGreatDoor
open Go.RowKit

theorem elII : Elem Tryz.prog 27 26 1 24 (.slice none 0 0) := ⟨Tryz.underlying27, by kernel_rfl, rfl, by decide⟩

set_option maxHeartbeats 400000 in
theorem eqII (A B : Option Addr) (n m c d : Nat) (ts us : List Sl) (w : World) (hx : SII w A n ts) (hy : SII w B m us) (hn : n ≤ 9223372036854775807) (hns : ∀ t ∈ ts, t.xs.length ≤ 9223372036854775807) :
    Calls Tryz.prog 25 #[.slice A n c, .slice B m d] w fun e w' => e = .returned (.bool (sameII (nums ts) (nums us))) ∧ ∃ q, w' = w.drewN q := by
  by_cases hnm : n = m
  · subst hnm
    go_enter Tryz.func25, Tryz.ntmps25
    go_wp2
    go_loopw [5] (fun i wr => ∃ k q : Nat, k ≤ n ∧ i = .int .i64 k ∧ Hid ((nums ts).take k = (nums us).take k) ∧ wr = w.drewN q) (fun i _ => n - (intOf i).toNat)
    case atStart => exact ⟨0, 0, by omega, rfl, rfl, rfl⟩
    case round =>
      obtain ⟨k, q, hk, rfl, he, rfl⟩ := hrel
      by_cases hlt : k < n
      · obtain ⟨t, b, off, hT, htm, rfl, _, hc, hr⟩ := hx.pick hlt
        obtain ⟨u, b', off', hU, hum, rfl, _, hc', hr'⟩ := hy.pick hlt
        have hrl := hns t htm
        go_wp2
        go_quiet ((go_at_call 24; exact quiet_add (eqI _ _ _ _ _ _ _ _ _ (hr.drewN _) (hr'.drewN _) hrl)))
        go_wp2
        · go_ret
          exact ⟨ret_bool (sameII_ne hT.out hU.out (by assumption)), _, World.drewN_drewN _ _ _⟩
        · exact ⟨⟨k + 1, _, by omega, by go_num, nums_next hT.out hU.out he.out (by assumption), rfl⟩, by simp [intOf]; omega⟩
      · go_wp2
        go_ret
        exact ⟨ret_bool (sameII_eq (by omega) hx.len hy.len he.out), _, rfl⟩
  · have hne : ((n : Int) != (m : Int)) = true := by simp; omega
    go_enter Tryz.func25, Tryz.ntmps25
    go_wp2
    go_ret
    exact ⟨ret_bool (by have := hx.len; have := hy.len; unfold sameII; symm; rw [decide_eq_false_iff_not]; intro h; have := congrArg List.length h; simp [nums] at this; omega), 0, rfl⟩

def ToII (w : World) (n : Nat) (xss : List (List Int)) (e : Ending) (w' : World) : Prop :=
  ∃ A us, e = .returned (.slice A n n) ∧ OII w' w.heap.size 26 2 A n n us ∧ nums us = xss ∧ (∀ u ∈ us, u.c = u.xs.length) ∧ Below w.heap.size w w'

theorem total_take {ts : List Sl} {t : Sl} {k : Nat} (hT : ts[k]? = some t) : total (ts.take (k + 1)) = total (ts.take k) + t.xs.length := by
  obtain ⟨h, rfl⟩ := List.getElem?_eq_some_iff.1 hT
  unfold total; rw [List.take_succ_eq_append_getElem h, List.map_append, List.sum_append]; simp
theorem total_take_le (ts : List Sl) (k : Nat) : total (ts.take k) ≤ total ts := by
  have e : total ts = total (ts.take k) + total (ts.drop k) := by unfold total; rw [← List.sum_append, ← List.map_append, List.take_append_drop]
  omega

set_option maxHeartbeats 400000 in
theorem markII_m (T : List TypeId) (A : Option Addr) (n c : Nat) (ts : List Sl) (m : Int) (w : World) (lo hi : Nat) (hx : MkII w lo hi 26 2 A n c ts) (hT : 2 ∈ T) (hT2 : 26 ∉ T) (hn : n ≤ 9223372036854775807) (h0 : 0 ≤ m) (h1 : m + total ts ≤ 9223372036854775807) :
    Calls Tryz.prog 29 #[.slice A n c, .int .i64 m] w (MarkP T w lo hi (total ts) m) := by
  have hl : ts.length = n := by have := hx.1.1; simp at this; omega
  have HL := Lib.hid hl
  have HT := Lib.hid hT
  have HT2 := Lib.hid hT2
  clear hl hT hT2
  go_enter Tryz.func29, Tryz.ntmps29
  go_wp2
  go_loopw [1, 5] (fun q i wr => ∃ k : Nat, k ≤ n ∧ i = .int .i64 k ∧ q = .int .i64 (m + total (ts.take k)) ∧ MkII wr lo hi 26 2 A n c ts ∧ MkF T lo hi w wr) (fun _ i _ => n - (intOf i).toNat)
  case atStart => exact ⟨0, by omega, rfl, by simp [total], hx, MkF.refl _ _ _ _⟩
  case round =>
    obtain ⟨k, hk, rfl, rfl, ho, ht⟩ := hrel
    by_cases hlt : k < n
    · have hkl : k < ts.length := by have := HL.out; omega
      obtain ⟨t, hT⟩ : ∃ t, ts[k]? = some t := ⟨ts[k], List.getElem?_eq_getElem hkl⟩
      have hmem : t ∈ ts := List.mem_of_getElem? hT
      have HTO := Lib.hid (total_take hT)
      have hle := total_take_le ts (k + 1)
      obtain ⟨b, off, rfl, _, _, hc, _⟩ := ho.1.at_ (k := k) (by simpa using hkl)
      have hcv : wr.cell? ⟨b, off + k, none⟩ = some (.slice t.A t.xs.length t.c) := by rw [hc]; obtain ⟨h, rfl⟩ := List.getElem?_eq_some_iff.1 hT; simp [Sl.val]
      have hle2 : (total (ts.take k) : Int) + t.xs.length ≤ total ts := by have := HTO.out; omega
      clear hc hT hle
      go_wp2_with (go_at_call 28; refine (markI_m T _ _ _ _ _ lo hi (ho.2 t hmem) HT.out (by omega) (by omega)).mono ?_; rintro e w3 ⟨rfl, ht3⟩)
      refine ⟨⟨k + 1, by omega, by go_num, ?_, ho.mkf ht3 HT2.out, ht.trans ht3⟩, by simp [intOf]; omega⟩
      rw [HTO.out]; go_num
    · go_wp2
      go_ret
      refine ⟨ret_int ?_, ht⟩
      rw [List.take_of_length_le (by have := HL.out; omega)]
end Go.Proofs.YtdlojbabnelbdaaGreatDoor

/-
  What the size helper over [][]int64 comes to, in one form; totals of rows.
-/
namespace Go.Proofs.YtdlojbabnelbdaaGreatDoor
open Go.RowKit
theorem szRows_tot : ∀ (rows : List Nat) (left : Int), 0 ≤ left → -1 ≤ szRows left rows ∧ szRows left rows ≤ left ∧ (0 ≤ szRows left rows → szRows left rows = left - rows.sum)
  | [], left, h => by simp [szRows]; omega
  | n :: r, left, h => by
    rw [szRows]
    split
    · omega
    · rename_i hn
      have h2 := szRows_tot r (left - n) (by omega)
      simp only [List.sum_cons]
      omega
theorem row_total {ts : List Sl} {t : Sl} (h : t ∈ ts) : t.xs.length ≤ total ts := by
  unfold total
  obtain ⟨a, b, rfl⟩ := List.append_of_mem h
  simp; omega
theorem total_of_nums (ts : List Sl) : total ts = ((nums ts).map List.length).sum := by simp [total, nums, Function.comp_def]
theorem total_same {ts us : List Sl} (h : nums us = nums ts) : total us = total ts := by rw [total_of_nums, total_of_nums, h]
theorem rows_le {ts us : List Sl} (h : nums us = nums ts) {b : Nat} (hb : ∀ t ∈ ts, t.xs.length ≤ b) : ∀ u ∈ us, u.xs.length ≤ b := by
  intro u hu
  have h1 : u.xs ∈ nums us := List.mem_map.2 ⟨u, hu, rfl⟩
  rw [h] at h1
  obtain ⟨t, ht, e⟩ := List.mem_map.1 h1
  rw [← e]; exact hb t ht
end Go.Proofs.YtdlojbabnelbdaaGreatDoor

/-
  Contracts of the laws' helpers over Proof: szProof, toProof, eqProof, markProof.
-/
namespace Go.Proofs.YtdlojbabnelbdaaGreatDoor
open Go.RowKit

def ToProof (w : World) (d0 : Int) (n0 : Nat) (x0 : List Int) (n1 : Nat) (x1 : List (List Int)) (e : Ending) (w' : World) : Prop :=
  ∃ B0 B1 us1, e = .returned (.agg #[.int .i64 d0, .slice B0 n0 n0, .slice B1 n1 n1]) ∧ Own w' w.heap.size 2 1 B0 n0 n0 (ints x0) ∧ OII w' w.heap.size 26 2 B1 n1 n1 us1 ∧ nums us1 = x1 ∧ Below w.heap.size w w'

def sameProofB (d0 d0' : Int) (x0 x0' : List Int) (x1 x1' : List (List Int)) : Bool :=
  decide (d0 = d0') && sameI x0 x0' && sameII x1 x1'
theorem sameProofB_self (d0 : Int) (x0 : List Int) (x1 : List (List Int)) : sameProofB d0 d0 x0 x0 x1 x1 = true := by simp [sameProofB, sameI, sameII]

set_option maxHeartbeats 1000000 in
theorem eqProof_any (d0 : Int) (A0 : Option Addr) (n0 c0 : Nat) (x0 : List Int) (A1 : Option Addr) (n1 c1 : Nat) (x1 : List Sl) (d0' : Int) (A0' : Option Addr) (n0' c0' : Nat) (x0' : List Int) (A1' : Option Addr) (n1' c1' : Nat) (x1' : List Sl) (w : World) (r0 : SI w A0 n0 x0) (r0' : SI w A0' n0' x0') (h0 : n0 ≤ 1048576) (r1 : SII w A1 n1 x1) (r1' : SII w A1' n1' x1') (h1 : n1 ≤ 1048576) (hr1 : ∀ t ∈ x1, t.xs.length ≤ 1048576) :
    Calls Tryz.prog 8 #[.agg #[.int .i64 d0, .slice A0 n0 c0, .slice A1 n1 c1], .agg #[.int .i64 d0', .slice A0' n0' c0', .slice A1' n1' c1']] w fun e w' => e = .returned (.bool (sameProofB d0 d0' x0 x0' (nums x1) (nums x1'))) ∧ Below w.heap.size w w' := by
  obtain ⟨W, hW⟩ : ∃ W, W = (w.alloc (.cells #[.int .i64 d0, .slice A0 n0 c0, .slice A1 n1 c1] 29)).alloc (.cells #[.int .i64 d0', .slice A0' n0' c0', .slice A1' n1' c1'] 29) := ⟨_, rfl⟩
  have s1 : (w.alloc (.cells #[.int .i64 d0, .slice A0 n0 c0, .slice A1 n1 c1] 29)).heap.size = w.heap.size + 1 := by simp
  have b0 : Blk W w.heap.size 29 #[.int .i64 d0, .slice A0 n0 c0, .slice A1 n1 c1] := by rw [hW]; exact (Blk.new w _ _).alloc _
  have b1 : Blk W (w.heap.size + 1) 29 #[.int .i64 d0', .slice A0' n0' c0', .slice A1' n1' c1'] := by rw [hW, ← s1]; exact Blk.new _ _ _
  have y0 : Below w.heap.size w W := by rw [hW]; exact ((Below.refl _ _).alloc (Nat.le_refl _) _).alloc (by simp) _
  have HW := Lib.hid hW
  clear hW s1
  cases hd_d0 : (d0 != d0')
  · skip
    have HD_d0 := Lib.hid (show d0 = d0' by simpa using hd_d0)
    go_enter Tryz.func8, Tryz.ntmps8
    go_wp2_with fail
    rw [← HW.out]
    clear hd_d0
    refine (eqI _ _ _ _ _ _ x0 x0' _ (r0.below y0) (r0'.below y0) (by omega)).mono ?_
    rintro e w0' ⟨rfl, q0, rfl⟩
    have bz0 : Below W.heap.size W (W.drewN q0) := below_drewN (Below.refl _ _) _
    generalize W.drewN q0 = w0 at *
    have yy0 : Below w.heap.size w w0 := y0.trans (bz0.mono y0.size)
    have b0 := b0.below' bz0
    have b1 := b1.below' bz0
    have k0 : w0.cell? ⟨w.heap.size, 2, none⟩ = some (.slice A1 n1 c1) := b0.cell 2
    have k0' : w0.cell? ⟨w.heap.size + 1, 2, none⟩ = some (.slice A1' n1' c1') := b1.cell 2
    cases hs0 : sameI x0 x0'
    · have HS := Lib.hid hs0
      clear hs0
      go_wp2_with fail
      go_ret
      exact ⟨ret_bool (by unfold sameProofB; rw [HS.out]; simp), yy0⟩
    · skip
      have HS0 := Lib.hid hs0
      clear hs0
      go_wp2_with fail
      refine (eqII _ _ _ _ _ _ x1 x1' _ (r1.below yy0) (r1'.below yy0) (by omega) (fun t ht => by have := hr1 t ht; omega)).mono ?_
      rintro e w1' ⟨rfl, q1, rfl⟩
      have bz1 : Below w0.heap.size w0 (w0.drewN q1) := below_drewN (Below.refl _ _) _
      generalize w0.drewN q1 = w1 at *
      have yy1 : Below w.heap.size w w1 := yy0.trans (bz1.mono yy0.size)
      have b0 := b0.below' bz1
      have b1 := b1.below' bz1
      cases hs1 : sameII (nums x1) (nums x1')
      · have HS := Lib.hid hs1
        clear hs1
        go_wp2_with fail
        go_ret
        exact ⟨ret_bool (by unfold sameProofB; rw [HS.out]; simp), yy1⟩
      · skip
        have HS1 := Lib.hid hs1
        clear hs1
        go_wp2_with fail
        go_ret
        exact ⟨ret_bool (by unfold sameProofB; rw [HS0.out, HS1.out]; simp [HD_d0.out]), yy1⟩
  · have HD := Lib.hid (show ¬ d0 = d0' by simpa using hd_d0)
    go_enter Tryz.func8, Tryz.ntmps8
    go_wp2_with fail
    rw [← HW.out]
    go_ret
    exact ⟨ret_bool (by unfold sameProofB; simp [HD.out]), y0⟩

set_option maxHeartbeats 400000 in
theorem markProof_m (T : List TypeId) (d0 : Int) (A0 : Option Addr) (n0 c0 : Nat) (A1 : Option Addr) (n1 c1 : Nat) (x1 : List Sl) (p : Int) (w : World) (lo hi : Nat) (m0 : Mk w lo hi 2 1 A0 n0) (h0 : n0 ≤ 1048576) (m1 : MkII w lo hi 26 2 A1 n1 c1 x1) (h1 : n1 ≤ 1048576) (ht1 : total x1 ≤ 1048576) (tI : 2 ∈ T) (tII : 26 ∉ T) (tX : 29 ∉ T) (g0 : 0 ≤ p) (g1 : p ≤ 9223372036800000000) :
    Calls Tryz.prog 11 #[.agg #[.int .i64 d0, .slice A0 n0 c0, .slice A1 n1 c1], .int .i64 p] w (MarkP T w lo hi (n0 + total x1) p) := by
  obtain ⟨W, hW⟩ : ∃ W, W = w.alloc (.cells #[.int .i64 d0, .slice A0 n0 c0, .slice A1 n1 c1] 29) := ⟨_, rfl⟩
  have b0 : Blk W w.heap.size 29 #[.int .i64 d0, .slice A0 n0 c0, .slice A1 n1 c1] := by rw [hW]; exact Blk.new w _ _
  have z0 : Below w.heap.size w W := by rw [hW]; exact (Below.refl _ _).alloc (Nat.le_refl _) _
  have HW := Lib.hid hW
  clear hW
  have TI := Lib.hid tI
  have TII := Lib.hid tII
  have TX := Lib.hid tX
  clear tI tII tX
  go_enter Tryz.func11, Tryz.ntmps11
  have f0 : MkF T lo hi w W := MkF.of_below z0
  go_wp2_with fail
  rw [← HW.out]
  refine (markI_m T _ _ _ _ _ lo hi (m0.mkf f0) TI.out (by omega) (by omega)).mono ?_
  rintro e w0 ⟨rfl, ff0⟩
  have f1 := f0.trans ff0
  have b0 := b0.mkf ff0 TX.out
  have q0 : w0.cell? ⟨w.heap.size, 2, none⟩ = some (.slice A1 n1 c1) := b0.cell 2
  go_wp2_with fail
  refine (markII_m T _ _ _ x1 _ _ lo hi (m1.mkf f1 TII.out) TI.out TII.out (by omega) (by omega) (by omega)).mono ?_
  rintro e w1 ⟨rfl, ff1⟩
  have f2 := f1.trans ff1
  have b0 := b0.mkf ff1 TX.out
  go_wp2_with fail
  go_ret
  exact ⟨ret_int (by omega), f2⟩
end Go.Proofs.YtdlojbabnelbdaaGreatDoor

/-
  Marks that are read again, for a proof without words.
-/
namespace Go.Proofs.YtdlojbabnelbdaaGreatDoor
open Go.RowKit

set_option maxHeartbeats 400000 in
theorem markII_0 (A : Option Addr) (c : Nat) (m : Int) (w : World) : Calls Tryz.prog 29 #[.slice A 0 c, .int .i64 m] w fun e w' => e = .returned (.int .i64 m) ∧ w = w' := by
  go_enter Tryz.func29, Tryz.ntmps29
  go_wp2
  go_loop [1, 5] (fun q i => q = .int .i64 m ∧ i = .int .i64 0) (fun _ _ => 0)
  case atStart => exact ⟨rfl, rfl⟩
  case round =>
    obtain ⟨rfl, rfl⟩ := hrel
    go_wp2
    go_ret
    exact ⟨rfl, rfl⟩
set_option maxHeartbeats 400000 in
theorem heldII_0 (A : Option Addr) (c : Nat) (m : Int) (w : World) : Calls Tryz.prog 31 #[.slice A 0 c, .int .i64 m] w fun e w' => e = .returned (.int .i64 m) ∧ w = w' := by
  go_enter Tryz.func31, Tryz.ntmps31
  go_wp2
  go_loop [1, 5] (fun q i => q = .int .i64 m ∧ i = .int .i64 0) (fun _ _ => 0)
  case atStart => exact ⟨rfl, rfl⟩
  case round =>
    obtain ⟨rfl, rfl⟩ := hrel
    go_wp2
    go_ret
    exact ⟨rfl, rfl⟩

def MarkProof0 (w : World) (lo hi : Nat) (A : Option Addr) (n c : Nat) (p : Int) (e : Ending) (w' : World) : Prop :=
  e = .returned (.int .i64 (p + n)) ∧ OwnE w' lo 2 A n c (marks p n) ∧ Tch lo hi w w'

set_option maxHeartbeats 400000 in
theorem markProof_0 (d0 : Int) (A : Option Addr) (n c : Nat) (xs : List Int) (R : Option Addr) (d : Nat) (p : Int) (w : World) (lo hi : Nat) (o : Own w lo 2 1 A n c (ints xs)) (k0 : ∀ b, blk A = some b → b < hi) (hhi : hi ≤ w.heap.size) (h0 : n ≤ 1048576) (g0 : 0 ≤ p) (g1 : p ≤ 1000000000) :
    Calls Tryz.prog 11 #[.agg #[.int .i64 d0, .slice A n c, .slice R 0 d], .int .i64 p] w (MarkProof0 w lo hi A n c p) := by
  obtain ⟨W, hW_⟩ : ∃ W, W = w.alloc (.cells #[.int .i64 d0, .slice A n c, .slice R 0 d] 29) := ⟨_, rfl⟩
  have b0 : Blk W w.heap.size 29 #[.int .i64 d0, .slice A n c, .slice R 0 d] := by rw [hW_]; exact Blk.new w _ _
  have z0 : Below w.heap.size w W := by rw [hW_]; exact (Below.refl _ _).alloc (Nat.le_refl _) _
  have HW := Lib.hid hW_
  clear hW_
  have K0 := Lib.hid k0
  clear k0
  go_enter Tryz.func11, Tryz.ntmps11
  go_wp2_with fail
  rw [← HW.out]
  refine (markI _ _ _ xs _ _ lo hi (.inr (o.below z0)) K0.out (by omega) (by omega)).mono ?_
  rintro e w0 ⟨rfl, oo, t0, s0⟩
  have b0 := b0.touch t0 (.inr hhi)
  have q0 : w0.cell? ⟨w.heap.size, 2, none⟩ = some (.slice R 0 d) := b0.cell 2
  go_wp2_with fail
  refine (markII_0 _ _ _ _).mono ?_
  rintro e w1 ⟨rfl, rfl⟩
  go_wp2_with fail
  go_ret
  exact ⟨rfl, oo, (Tch.of_below z0).trans t0⟩

set_option maxHeartbeats 400000 in
theorem heldProof_0 (d0 : Int) (A : Option Addr) (n c : Nat) (R : Option Addr) (d : Nat) (p : Int) (w : World) (r0 : SI w A n (marks p n)) (h0 : n ≤ 1048576) (g0 : 0 ≤ p) (g1 : p ≤ 1000000000) :
    Calls Tryz.prog 12 #[.agg #[.int .i64 d0, .slice A n c, .slice R 0 d], .int .i64 p] w fun e w' => e = .returned (.int .i64 (p + n)) ∧ Below w.heap.size w w' := by
  obtain ⟨W, hW_⟩ : ∃ W, W = w.alloc (.cells #[.int .i64 d0, .slice A n c, .slice R 0 d] 29) := ⟨_, rfl⟩
  have b0 : Blk W w.heap.size 29 #[.int .i64 d0, .slice A n c, .slice R 0 d] := by rw [hW_]; exact Blk.new w _ _
  have z0 : Below w.heap.size w W := by rw [hW_]; exact (Below.refl _ _).alloc (Nat.le_refl _) _
  have HW := Lib.hid hW_
  clear hW_
  have q0 : W.cell? ⟨w.heap.size, 2, none⟩ = some (.slice R 0 d) := b0.cell 2
  have i1 : ¬ (p + (n : Int) < 0) := by omega
  go_enter Tryz.func12, Tryz.ntmps12
  go_wp2_with fail
  rw [← HW.out]
  refine (heldI _ _ _ (marks p n) _ _ (r0.below z0) (by omega) (by omega)).mono ?_
  rintro e w0 ⟨rfl, rfl⟩
  rw [heldF_marks]
  go_wp2_with fail
  refine (heldII_0 _ _ _ _).mono ?_
  rintro e w0 ⟨rfl, rfl⟩
  go_wp2_with fail
  go_ret
  exact ⟨rfl, z0⟩

theorem eqProof_0 (d0 : Int) (A : Option Addr) (n c : Nat) (xs : List Int) (R : Option Addr) (d : Nat) (A' : Option Addr) (c' : Nat) (R' : Option Addr) (d' : Nat) (w : World) (r0 : SI w A n xs) (r1 : SI w A' n xs) (h0 : n ≤ 1048576) :
    Calls Tryz.prog 8 #[.agg #[.int .i64 d0, .slice A n c, .slice R 0 d], .agg #[.int .i64 d0, .slice A' n c', .slice R' 0 d']] w fun e w' => e = .returned (.bool true) ∧ Below w.heap.size w w' := by
  have h := eqProof_any d0 A n c xs R 0 d [] d0 A' n c' xs R' 0 d' [] w r0 r1 h0 ⟨Rd.nil, fun _ h => by cases h⟩ ⟨Rd.nil, fun _ h => by cases h⟩ (by omega) (fun _ h => by cases h)
  rw [sameProofB_self] at h
  exact h
end Go.Proofs.YtdlojbabnelbdaaGreatDoor

/-
  The walk of the law FnExactFindCycle: it returns true, and nothing that was there before has turned.
-/
namespace Go.Proofs.YtdlojbabnelbdaaGreatDoor
open Go.RowKit

set_option maxRecDepth 100000 in
set_option maxHeartbeats 16000000 in
theorem lawFindCycle (sy0 st0 : Int) (A0 : Option Addr) (n0 k0 : Nat) (rs0 : List R3) (b1 : Int) (w : World) (hr0 : S3 w A0 n0 rs0)  (hb0 : n0 ≤ 9223372036854775807)  (ht : Tab w) :
    Calls Tryz.prog 3 #[.agg #[.int .i64 sy0, .int .i64 st0, .slice A0 n0 k0], .int .i64 b1] w fun e w' => e = .returned (.bool true) ∧ Below w.heap.size w w' := by
  obtain ⟨W0, hW0⟩ : ∃ W, W = w.alloc (.cells #[.int .i64 sy0, .int .i64 st0, .slice A0 n0 k0] 24) := ⟨_, rfl⟩
  have bb0 : Blk W0 w.heap.size 24 #[.int .i64 sy0, .int .i64 st0, .slice A0 n0 k0] := by rw [hW0]; exact Blk.new w _ _
  have z0 : Below w.heap.size w W0 := by rw [hW0]; exact (Below.refl _ _).alloc (Nat.le_refl _) _
  have HW0 := Lib.hid hW0
  clear hW0
  go_enter Tryz.func3, Tryz.ntmps3
  go_wp2_with fail
  rw [← HW0.out]
  refine (szMachine_any _ _ _ _ _ _ _ hb0 (by omega) (by omega)).mono ?_
  rintro e W1 ⟨v1, rfl, va1, vb1, vc1, z1⟩
  have VC1 := Lib.hid vc1
  clear vc1
  have yw_W1 : Below w.heap.size w W1 := z0.trans (z1.mono z0.size)
  by_cases hneg1 : v1 < 0
  · go_wp2_with fail
    go_ret
    exact ⟨rfl, yw_W1⟩
  have hsm : n0 ≤ 1048576 := by
    have t1 := VC1.out (by omega)
    omega
  have p0 := hsm
  clear VC1
  have uc2 : W1.cell? ⟨w.heap.size, 0, none⟩ = some (.int .i64 sy0) := (bb0.below' z1).cell 0
  have uc3 : W1.cell? ⟨w.heap.size, 1, none⟩ = some (.int .i64 st0) := (bb0.below' z1).cell 1
  have uc4 : W1.cell? ⟨w.heap.size, 2, none⟩ = some (.slice A0 n0 k0) := (bb0.below' z1).cell 2
  go_wp2_with fail
  refine (toMachine_any _ _ _ _ _ rs0 _ (hr0.below yw_W1) p0).mono ?_
  rintro e W5 ⟨B5, rfl, o5, z5⟩
  clear uc2 uc3 uc4
  go_wp2_with fail
  have yw_W5 : Below w.heap.size w W5 := yw_W1.trans (z5.mono yw_W1.size)
  refine (specFindCycle_any _ _ _ _ _ rs0 _ _ o5.as3 p0).mono ?_
  obtain ⟨res, hres⟩ : ∃ res, res = findCycF sy0 st0 rs0 b1 := ⟨_, rfl⟩
  rw [← hres]
  have HRES := Lib.hid hres
  clear hres
  rintro e W6 ⟨L6, c6, R6, d6, rfl, oL6, z6⟩
  obtain ⟨W7, hW7⟩ : ∃ W, W = W6.alloc (.cells #[.int .i64 res.1.1, .slice L6 res.1.2.length c6, .slice R6 0 d6] 29) := ⟨_, rfl⟩
  have bx6 : Blk W7 W6.heap.size 29 #[.int .i64 res.1.1, .slice L6 res.1.2.length c6, .slice R6 0 d6] := by rw [hW7]; exact Blk.new W6 _ _
  have z7 : Below W6.heap.size W6 W7 := by rw [hW7]; exact (Below.refl _ _).alloc (Nat.le_refl _) _
  have HW7 := Lib.hid hW7
  clear hW7
  go_upto_region 6 with fail
  rw [← HW7.out]
  have hlen : res.1.2.length ≤ 1048576 := by rw [HRES.out]; exact findCycF_len sy0 st0 rs0 b1
  have lx0 := hlen
  have yW0_W5 : Below W0.heap.size W0 W5 := z1.trans (z5.mono z1.size)
  have yW0_W6 : Below W0.heap.size W0 W6 := yW0_W5.trans (z6.mono yW0_W5.size)
  have yW0_W7 : Below W0.heap.size W0 W7 := yW0_W6.trans (z7.mono yW0_W6.size)
  have uc8 : W7.cell? ⟨w.heap.size, 0, none⟩ = some (.int .i64 sy0) := (bb0.below' yW0_W7).cell 0
  have uc9 : W7.cell? ⟨w.heap.size, 1, none⟩ = some (.int .i64 st0) := (bb0.below' yW0_W7).cell 1
  have uc10 : W7.cell? ⟨w.heap.size, 2, none⟩ = some (.slice A0 n0 k0) := (bb0.below' yW0_W7).cell 2
  go_wp2_with fail
  have yw_W6 : Below w.heap.size w W6 := yw_W5.trans (z6.mono yw_W5.size)
  have yw_W7 : Below w.heap.size w W7 := yw_W6.trans (z7.mono yw_W6.size)
  refine (toMachine_any _ _ _ _ _ rs0 _ (hr0.below yw_W7) p0).mono ?_
  rintro e W11 ⟨B11, rfl, o11, z11⟩
  clear uc8 uc9 uc10
  obtain ⟨W12, hW12⟩ : ∃ W, W = W11.alloc (.cells #[.int .i64 sy0, .int .i64 st0, .slice B11 n0 n0] 34) := ⟨_, rfl⟩
  have cb0 : Blk W12 W11.heap.size 34 #[.int .i64 sy0, .int .i64 st0, .slice B11 n0 n0] := by rw [hW12]; exact Blk.new W11 _ _
  have z12 : Below W11.heap.size W11 W12 := by rw [hW12]; exact (Below.refl _ _).alloc (Nat.le_refl _) _
  have HW12 := Lib.hid hW12
  clear hW12
  have uc13 : W12.cell? ⟨W11.heap.size, 0, none⟩ = some (.int .i64 sy0) := cb0.cell 0
  have uc14 : W12.cell? ⟨W11.heap.size, 1, none⟩ = some (.int .i64 st0) := cb0.cell 1
  have uc15 : W12.cell? ⟨W11.heap.size, 2, none⟩ = some (.slice B11 n0 n0) := cb0.cell 2
  go_upto_region 7 with fail
  rw [← HW12.out]
  go_wp2_with fail
  have yw_W11 : Below w.heap.size w W11 := yw_W7.trans (z11.mono yw_W7.size)
  have yw_W12 : Below w.heap.size w W12 := yw_W11.trans (z12.mono yw_W11.size)
  refine (findCycleI_any _ _ _ _ _ rs0 _ _ (o11.below z12).as3 p0 (ht.below yw_W12)).mono ?_
  rw [← HRES.out]
  rintro e W16 ⟨L16, c16, R16, d16, rfl, oL16, z16⟩
  clear uc13 uc14 uc15
  obtain ⟨W17, hW17⟩ : ∃ W, W = W16.alloc (.cells #[.int .i64 res.1.1, .slice L16 res.1.2.length c16, .slice R16 0 d16] 29) := ⟨_, rfl⟩
  have ib : Blk W17 W16.heap.size 29 #[.int .i64 res.1.1, .slice L16 res.1.2.length c16, .slice R16 0 d16] := by rw [hW17]; exact Blk.new W16 _ _
  have z17 : Below W16.heap.size W16 W17 := by rw [hW17]; exact (Below.refl _ _).alloc (Nat.le_refl _) _
  have HW17 := Lib.hid hW17
  clear hW17
  go_upto_region 8 with fail
  rw [← HW17.out]
  have uc18 : W17.cell? ⟨W16.heap.size, 0, none⟩ = some (.int .i64 res.1.1) := ib.cell 0
  have uc19 : W17.cell? ⟨W16.heap.size, 1, none⟩ = some (.slice L16 res.1.2.length c16) := ib.cell 1
  have uc20 : W17.cell? ⟨W16.heap.size, 2, none⟩ = some (.slice R16 0 d16) := ib.cell 2
  have yW7_W12 : Below W7.heap.size W7 W12 := z11.trans (z12.mono z11.size)
  have yW7_W16 : Below W7.heap.size W7 W16 := yW7_W12.trans (z16.mono yW7_W12.size)
  have yW7_W17 : Below W7.heap.size W7 W17 := yW7_W16.trans (z17.mono yW7_W16.size)
  have uc21 : W17.cell? ⟨W6.heap.size, 0, none⟩ = some (.int .i64 res.1.1) := (bx6.below' yW7_W17).cell 0
  have uc22 : W17.cell? ⟨W6.heap.size, 1, none⟩ = some (.slice L6 res.1.2.length c6) := (bx6.below' yW7_W17).cell 1
  have uc23 : W17.cell? ⟨W6.heap.size, 2, none⟩ = some (.slice R6 0 d6) := (bx6.below' yW7_W17).cell 2
  have yW6_W11 : Below W6.heap.size W6 W11 := z7.trans (z11.mono z7.size)
  have yW6_W12 : Below W6.heap.size W6 W12 := yW6_W11.trans (z12.mono yW6_W11.size)
  have yW6_W16 : Below W6.heap.size W6 W16 := yW6_W12.trans (z16.mono yW6_W12.size)
  have yW6_W17 : Below W6.heap.size W6 W17 := yW6_W16.trans (z17.mono yW6_W16.size)
  go_wp2_with fail
  refine (eqProof_0 _ _ _ _ res.1.2 _ _ _ _ _ _ _ (oL16.below z17).asI (oL6.below yW6_W17).asI lx0).mono ?_
  rintro e W24 ⟨rfl, z24⟩
  skip
  clear uc18 uc19 uc20 uc21 uc22 uc23
  have yW12_W17 : Below W12.heap.size W12 W17 := z16.trans (z17.mono z16.size)
  have yW12_W24 : Below W12.heap.size W12 W24 := yW12_W17.trans (z24.mono yW12_W17.size)
  have uc25 : W24.cell? ⟨W11.heap.size, 0, none⟩ = some (.int .i64 sy0) := (cb0.below' yW12_W24).cell 0
  have uc26 : W24.cell? ⟨W11.heap.size, 1, none⟩ = some (.int .i64 st0) := (cb0.below' yW12_W24).cell 1
  have uc27 : W24.cell? ⟨W11.heap.size, 2, none⟩ = some (.slice B11 n0 n0) := (cb0.below' yW12_W24).cell 2
  have yW0_W11 : Below W0.heap.size W0 W11 := yW0_W7.trans (z11.mono yW0_W7.size)
  have yW0_W12 : Below W0.heap.size W0 W12 := yW0_W11.trans (z12.mono yW0_W11.size)
  have yW0_W16 : Below W0.heap.size W0 W16 := yW0_W12.trans (z16.mono yW0_W12.size)
  have yW0_W17 : Below W0.heap.size W0 W17 := yW0_W16.trans (z17.mono yW0_W16.size)
  have yW0_W24 : Below W0.heap.size W0 W24 := yW0_W17.trans (z24.mono yW0_W17.size)
  have uc28 : W24.cell? ⟨w.heap.size, 0, none⟩ = some (.int .i64 sy0) := (bb0.below' yW0_W24).cell 0
  have uc29 : W24.cell? ⟨w.heap.size, 1, none⟩ = some (.int .i64 st0) := (bb0.below' yW0_W24).cell 1
  have uc30 : W24.cell? ⟨w.heap.size, 2, none⟩ = some (.slice A0 n0 k0) := (bb0.below' yW0_W24).cell 2
  have yw_W16 : Below w.heap.size w W16 := yw_W12.trans (z16.mono yw_W12.size)
  have yw_W17 : Below w.heap.size w W17 := yw_W16.trans (z17.mono yw_W16.size)
  have yw_W24 : Below w.heap.size w W24 := yw_W17.trans (z24.mono yw_W17.size)
  have yW11_W16 : Below W11.heap.size W11 W16 := z12.trans (z16.mono z12.size)
  have yW11_W17 : Below W11.heap.size W11 W17 := yW11_W16.trans (z17.mono yW11_W16.size)
  have yW11_W24 : Below W11.heap.size W11 W24 := yW11_W17.trans (z24.mono yW11_W17.size)
  go_wp2_with fail
  go_region_held3 (fun w' => w'.cell? ⟨W11.heap.size, 0, none⟩ = some (.int .i64 sy0) ∧ w'.cell? ⟨W11.heap.size, 1, none⟩ = some (.int .i64 st0) ∧ w'.cell? ⟨W11.heap.size, 2, none⟩ = some (.slice B11 n0 n0) ∧ w'.cell? ⟨w.heap.size, 0, none⟩ = some (.int .i64 sy0) ∧ w'.cell? ⟨w.heap.size, 1, none⟩ = some (.int .i64 st0) ∧ w'.cell? ⟨w.heap.size, 2, none⟩ = some (.slice A0 n0 k0))
    (first
      | (go_keep; done)
      | (exact ⟨((cb0.below' yW12_W24).below' zz32).cell 0, ((cb0.below' yW12_W24).below' zz32).cell 1, ((cb0.below' yW12_W24).below' zz32).cell 2, ((bb0.below' yW0_W24).below' zz32).cell 0, ((bb0.below' yW0_W24).below' zz32).cell 1, ((bb0.below' yW0_W24).below' zz32).cell 2⟩)
      | (exact ⟨((cb0.below' yW12_W24).below' zz31).cell 0, ((cb0.below' yW12_W24).below' zz31).cell 1, ((cb0.below' yW12_W24).below' zz31).cell 2, ((bb0.below' yW0_W24).below' zz31).cell 0, ((bb0.below' yW0_W24).below' zz31).cell 1, ((bb0.below' yW0_W24).below' zz31).cell 2⟩))
    (first
      | (go_at_call 6; refine (toMachine_any _ _ _ _ _ rs0 _ ((hr0.below yw_W24).drewN 1) p0).mono ?_; rintro e W31 ⟨B31, rfl, o31, z31⟩; have zz31 : Below W24.heap.size W24 W31 := below_undrew z31)
      | (go_at_call 9; refine (eqMachine_any _ _ _ _ _ rs0 _ _ _ _ _ rs0 _ ((o11.below yW11_W24).below zz31).rd o31.rd p0).mono ?_; rintro e W32 ⟨rfl, z32⟩; have zz32 : Below W24.heap.size W24 W32 := zz31.trans (z32.mono zz31.size)))
  rw [sameMachineB_self]
  clear uc25 uc26 uc27 uc28 uc29 uc30
  clear o31 z31 zz31 z32
  have TM0 : Hid (78 ∈ [78]) := Lib.hid (by decide)
  have TN_Machine : Hid (34 ∉ [78]) := Lib.hid (by decide)
  have TL_Machine : Hid (24 ∉ [78]) := Lib.hid (by decide)
  have TN_Proof : Hid (29 ∉ [78]) := Lib.hid (by decide)
  have hs_W1 : W0.heap.size ≤ W1.heap.size := z1.size
  have hs_W5 : W1.heap.size ≤ W5.heap.size := z5.size
  have hs_W6 : W5.heap.size ≤ W6.heap.size := z6.size
  have hs_W7 : W6.heap.size ≤ W7.heap.size := z7.size
  have hs_W11 : W7.heap.size ≤ W11.heap.size := z11.size
  have hs_W12 : W11.heap.size ≤ W12.heap.size := z12.size
  have hs_W16 : W12.heap.size ≤ W16.heap.size := z16.size
  have hs_W17 : W16.heap.size ≤ W17.heap.size := z17.size
  have hs_W24 : W17.heap.size ≤ W24.heap.size := z24.size
  have hs_W32 : W24.heap.size ≤ W32.heap.size := zz32.size
  have yW11_W32 : Below W11.heap.size W11 W32 := yW11_W24.trans (zz32.mono yW11_W24.size)
  have m0 : Mk W32 W7.heap.size W12.heap.size 78 3 B11 n0 := (((o11.below yW11_W32)).mono (by omega)).mk (fun b hb => by have := o11.blk_lt b hb; omega)
  have yW0_W32 : Below W0.heap.size W0 W32 := yW0_W24.trans (zz32.mono yW0_W24.size)
  have yW12_W32 : Below W12.heap.size W12 W32 := yW12_W24.trans (zz32.mono yW12_W24.size)
  have yw_W32 : Below w.heap.size w W32 := yw_W24.trans (zz32.mono yw_W24.size)
  have yW16_W24 : Below W16.heap.size W16 W24 := z17.trans (z24.mono z17.size)
  have yW16_W32 : Below W16.heap.size W16 W32 := yW16_W24.trans (zz32.mono yW16_W24.size)
  have yW6_W24 : Below W6.heap.size W6 W24 := yW6_W17.trans (z24.mono yW6_W17.size)
  have yW6_W32 : Below W6.heap.size W6 W32 := yW6_W24.trans (zz32.mono yW6_W24.size)
  have io0 := (oL16.below yW16_W32)
  have so0 := (oL6.below yW6_W32)
  have yW17_W32 : Below W17.heap.size W17 W32 := z24.trans (zz32.mono z24.size)
  have yW7_W24 : Below W7.heap.size W7 W24 := yW7_W17.trans (z24.mono yW7_W17.size)
  have yW7_W32 : Below W7.heap.size W7 W32 := yW7_W24.trans (zz32.mono yW7_W24.size)
  have ibm := (ib.below' yW17_W32)
  have sbm := (bx6.below' yW7_W32)
  have bm0 := (bb0.below' yW0_W32)
  have cm0 := (cb0.below' yW12_W32)
  have cq0 := cm0
  have uc33 : W32.cell? ⟨W11.heap.size, 0, none⟩ = some (.int .i64 sy0) := cq0.cell 0
  have uc34 : W32.cell? ⟨W11.heap.size, 1, none⟩ = some (.int .i64 st0) := cq0.cell 1
  have uc35 : W32.cell? ⟨W11.heap.size, 2, none⟩ = some (.slice B11 n0 n0) := cq0.cell 2
  go_wp2_with fail
  refine (markMachine_m [78] _ _ _ _ _ _ _ W7.heap.size W12.heap.size m0 p0 TM0.out TN_Machine.out (by omega) (by omega)).mono ?_
  rintro e W36 ⟨rfl, f36⟩
  clear uc33 uc34 uc35
  have io0 := io0.mkf_far f36 (fun b hb => .inr (oL16.blk_ge b hb))
  have so0 := so0.mkf_far f36 (fun b hb => .inl (by have := oL6.blk_lt b hb; omega))
  have ibm := ibm.mkf f36 TN_Proof.out
  have sbm := sbm.mkf f36 TN_Proof.out
  have bm0 := bm0.mkf f36 TL_Machine.out
  have yM : Below w.heap.size w W36 := yw_W32.trans (f36.below yw_W7.size yw_W32.size)
  have hs_W36 : W32.heap.size ≤ W36.heap.size := f36.size
  clear f36
  have uc37 : W36.cell? ⟨W16.heap.size, 0, none⟩ = some (.int .i64 res.1.1) := ibm.cell 0
  have uc38 : W36.cell? ⟨W16.heap.size, 1, none⟩ = some (.slice L16 res.1.2.length c16) := ibm.cell 1
  have uc39 : W36.cell? ⟨W16.heap.size, 2, none⟩ = some (.slice R16 0 d16) := ibm.cell 2
  have uc40 : W36.cell? ⟨W6.heap.size, 0, none⟩ = some (.int .i64 res.1.1) := sbm.cell 0
  have uc41 : W36.cell? ⟨W6.heap.size, 1, none⟩ = some (.slice L6 res.1.2.length c6) := sbm.cell 1
  have uc42 : W36.cell? ⟨W6.heap.size, 2, none⟩ = some (.slice R6 0 d6) := sbm.cell 2
  have gneg : ¬ ((1 : Int) + ((n0 * 3 : Nat) : Int) < 0) := by omega
  go_wp2_with fail
  refine (eqProof_0 _ _ _ _ res.1.2 _ _ _ _ _ _ _ io0.asI so0.asI lx0).mono ?_
  rintro e W43 ⟨rfl, z43⟩
  skip
  clear uc37 uc38 uc39 uc40 uc41 uc42
  clear gneg
  have hs_W43 : W36.heap.size ≤ W43.heap.size := z43.size
  have uc44 : W43.cell? ⟨W16.heap.size, 0, none⟩ = some (.int .i64 res.1.1) := (ibm.below' z43).cell 0
  have uc45 : W43.cell? ⟨W16.heap.size, 1, none⟩ = some (.slice L16 res.1.2.length c16) := (ibm.below' z43).cell 1
  have uc46 : W43.cell? ⟨W16.heap.size, 2, none⟩ = some (.slice R16 0 d16) := (ibm.below' z43).cell 2
  go_wp2_with fail
  refine (markProof_0 _ _ _ _ res.1.2 _ _ _ _ W12.heap.size W16.heap.size (io0.below z43) (fun b hb => oL16.blk_lt b hb) (by omega) lx0 (by omega) (by omega)).mono ?_
  rintro e W47 ⟨rfl, eL, t47⟩
  clear uc44 uc45 uc46
  have so0 := (so0.below z43).touch t47 (fun b hb => .inl (by have := oL6.blk_lt b hb; omega))
  have bm0 := (bm0.below' z43).touch t47 (.inl (by have := bb0.lt; omega))
  have ibm := (ibm.below' z43).touch t47 (.inr (Nat.le_refl _))
  have sbm := (sbm.below' z43).touch t47 (.inl (by have := bx6.lt; omega))
  have yw_W43 : Below w.heap.size w W43 := yM.trans (z43.mono yM.size)
  have hlow : w.heap.size ≤ W12.heap.size := by have := yw_W7.size; omega
  have yN : Below w.heap.size w W47 := yw_W43.trans (t47.below hlow yw_W43.size)
  have hs_W47 : W43.heap.size ≤ W47.heap.size := t47.size
  clear t47
  have uc48 : W47.cell? ⟨W16.heap.size, 0, none⟩ = some (.int .i64 res.1.1) := ibm.cell 0
  have uc49 : W47.cell? ⟨W16.heap.size, 1, none⟩ = some (.slice L16 res.1.2.length c16) := ibm.cell 1
  have uc50 : W47.cell? ⟨W16.heap.size, 2, none⟩ = some (.slice R16 0 d16) := ibm.cell 2
  go_wp2_with fail
  refine (heldProof_0 _ _ _ _ _ _ _ _ eL.si lx0 (by omega) (by omega)).mono ?_
  rintro e W51 ⟨rfl, z51⟩
  clear uc48 uc49 uc50
  have gneg : ¬ ((1 : Int) + (res.1.2.length : Int) < 0) := by omega
  have uc52 : W51.cell? ⟨w.heap.size, 0, none⟩ = some (.int .i64 sy0) := (bm0.below' z51).cell 0
  have uc53 : W51.cell? ⟨w.heap.size, 1, none⟩ = some (.int .i64 st0) := (bm0.below' z51).cell 1
  have uc54 : W51.cell? ⟨w.heap.size, 2, none⟩ = some (.slice A0 n0 k0) := (bm0.below' z51).cell 2
  have yw_W51 : Below w.heap.size w W51 := yN.trans (z51.mono yN.size)
  go_wp2_with fail
  refine (toMachine_any _ _ _ _ _ rs0 _ (hr0.below yw_W51) p0).mono ?_
  rintro e W55 ⟨B55, rfl, o55, z55⟩
  clear uc52 uc53 uc54
  go_wp2_with fail
  have yw_W55 : Below w.heap.size w W55 := yw_W51.trans (z55.mono yw_W51.size)
  refine (findCycleI_any _ _ _ _ _ rs0 _ _ o55.as3 p0 (ht.below yw_W55)).mono ?_
  rw [← HRES.out]
  rintro e W56 ⟨L56, c56, R56, d56, rfl, oL56, z56⟩
  obtain ⟨W57, hW57⟩ : ∃ W, W = W56.alloc (.cells #[.int .i64 res.1.1, .slice L56 res.1.2.length c56, .slice R56 0 d56] 29) := ⟨_, rfl⟩
  have hbx : Blk W57 W56.heap.size 29 #[.int .i64 res.1.1, .slice L56 res.1.2.length c56, .slice R56 0 d56] := by rw [hW57]; exact Blk.new W56 _ _
  have z57 : Below W56.heap.size W56 W57 := by rw [hW57]; exact (Below.refl _ _).alloc (Nat.le_refl _) _
  have HW57 := Lib.hid hW57
  clear hW57
  go_upto_region 25 with fail
  rw [← HW57.out]
  have uc58 : W57.cell? ⟨W56.heap.size, 0, none⟩ = some (.int .i64 res.1.1) := hbx.cell 0
  have uc59 : W57.cell? ⟨W56.heap.size, 1, none⟩ = some (.slice L56 res.1.2.length c56) := hbx.cell 1
  have uc60 : W57.cell? ⟨W56.heap.size, 2, none⟩ = some (.slice R56 0 d56) := hbx.cell 2
  have yW47_W55 : Below W47.heap.size W47 W55 := z51.trans (z55.mono z51.size)
  have yW47_W56 : Below W47.heap.size W47 W56 := yW47_W55.trans (z56.mono yW47_W55.size)
  have yW47_W57 : Below W47.heap.size W47 W57 := yW47_W56.trans (z57.mono yW47_W56.size)
  have uc61 : W57.cell? ⟨W6.heap.size, 0, none⟩ = some (.int .i64 res.1.1) := (sbm.below' yW47_W57).cell 0
  have uc62 : W57.cell? ⟨W6.heap.size, 1, none⟩ = some (.slice L6 res.1.2.length c6) := (sbm.below' yW47_W57).cell 1
  have uc63 : W57.cell? ⟨W6.heap.size, 2, none⟩ = some (.slice R6 0 d6) := (sbm.below' yW47_W57).cell 2
  go_wp2_with fail
  refine (eqProof_0 _ _ _ _ res.1.2 _ _ _ _ _ _ _ (oL56.below z57).asI (so0.below yW47_W57).asI lx0).mono ?_
  rintro e W64 ⟨rfl, z64⟩
  skip
  clear uc58 uc59 uc60 uc61 uc62 uc63
  have yW47_W64 : Below W47.heap.size W47 W64 := yW47_W57.trans (z64.mono yW47_W57.size)
  have uc65 : W64.cell? ⟨W16.heap.size, 0, none⟩ = some (.int .i64 res.1.1) := (ibm.below' yW47_W64).cell 0
  have uc66 : W64.cell? ⟨W16.heap.size, 1, none⟩ = some (.slice L16 res.1.2.length c16) := (ibm.below' yW47_W64).cell 1
  have uc67 : W64.cell? ⟨W16.heap.size, 2, none⟩ = some (.slice R16 0 d16) := (ibm.below' yW47_W64).cell 2
  go_wp2_with fail
  refine (heldProof_0 _ _ _ _ _ _ _ _ (eL.below yW47_W64).si lx0 (by omega) (by omega)).mono ?_
  rintro e W68 ⟨rfl, z68⟩
  clear uc65 uc66 uc67
  have yw_W56 : Below w.heap.size w W56 := yw_W55.trans (z56.mono yw_W55.size)
  have yw_W57 : Below w.heap.size w W57 := yw_W56.trans (z57.mono yw_W56.size)
  have yw_W64 : Below w.heap.size w W64 := yw_W57.trans (z64.mono yw_W57.size)
  have yw_W68 : Below w.heap.size w W68 := yw_W64.trans (z68.mono yw_W64.size)
  go_wp2_with fail
  go_ret
  exact ⟨rfl, yw_W68⟩
end Go.Proofs.YtdlojbabnelbdaaGreatDoor

/-
  For every input, FnExactFindCycle returns true, and each argument reads afterwards as it read before. The three listed tables of the library hold what the program's text lays.
-/
namespace Go.Proofs.YtdlojbabnelbdaaGreatDoor.lawFindCycleRow
open Go.ChangeShapes Go.WideShapes Go.ChangeAt Go.RowKit Go.Joins Go.Proofs.YtdlojbabnelbdaaGreatDoor

theorem own : ownKnob Tryz.prog.godebug = none := by kernel_rfl
theorem laidOut : laidOutB Tryz.prog = true := by kernel_rfl
theorem readable : ∀ t ∈ Tryz.f3.params.toList, Tryz.prog.readableRec t = true ∧ t < Tryz.prog.types.size := by
  have h : (Tryz.f3.params.toList.all fun t => Tryz.prog.readableRec t && decide (t < Tryz.prog.types.size)) = true := by kernel_rfl
  intro t ht
  have := List.all_eq_true.1 h t ht
  simpa using this

/-- The heap that the program's own start leaves meets the condition. -/
theorem door_met (os : Os) (args : Array Value) : laidMetH Tryz.prog Rows.fnExactFindCycleRow.laid ((World.doorLaid Tryz.prog 400 os).forCall (fun _ _ => 0) ⟨#[], args, []⟩).memory :=
  laidMetH_of_parts3 (fuel := 8) (laidMet_of_run' 8 (by kernel_rfl) (by kernel_rfl)) (by kernel_rfl) (by kernel_rfl)
/-- What the condition gives the walk. -/
theorem tab_of {W : World} (h : laidMetH Tryz.prog Rows.fnExactFindCycleRow.laid W) : Tab W := by
  rw [MakeChecks.laidMetH_plain _ _ _ (by kernel_rfl)] at h
  obtain ⟨ps, ⟨g0, t0, cs0, f0, p0, q0, _, _, _, _, ⟨g1, t1, cs1, f1, p1, q1, _, _, _, _, ⟨g2, t2, cs2, f2, p2, q2, hg2, ht2, hv2, hd2, _, _⟩, _⟩, _⟩, _, _⟩ := h
  have hg : Tryz.prog.globalNamed "internal/strconv.uint64pow10" = some 0 := by kernel_rfl
  have hty : (Tryz.prog.globals[0]?).map (·.type) = some 136 := by kernel_rfl
  obtain rfl := Option.some.inj (hg.symm.trans hg2)
  obtain rfl := Option.some.inj (hty.symm.trans ht2)
  unfold Tab Lib.TabIs
  rw [hv2]
  have hc := Lib.cells_of_tab (zs := Lib.pow10Tab) (k := .u64) Tryz.underlying136 Tryz.underlying127 (by kernel_rfl) (by kernel_rfl) hd2
  rw [← hc]

set_option maxRecDepth 100000 in
theorem lifted (os : Os) (started : os.Started) (H : Type) (enc : TypeId × Value → H) :
    ReturnsInHanded {} Tryz.checked os 3 .any (fun w args => (Rows.fnExactFindCycleSpec.pre enc Tryz.prog Tryz.f3 [] false w args ∧ laidMetH Tryz.prog Rows.fnExactFindCycleRow.laid w) ∧ sizedMet enc Tryz.prog Tryz.f3 (OpenSpec.ofChange Rows.fnExactFindCycleSpec) false w args)
      (Rows.fnExactFindCycleSpec.post enc Tryz.prog Tryz.f3 false true false false) := by
  refine returnsInHanded_of_change_and (C := Tryz.checked) (X := fun w _ => laidMetH Tryz.prog Rows.fnExactFindCycleRow.laid w) (fun _ _ _ hh h => h.of_heap hh) own started (by kernel_rfl) Tryz.func3
    (ChangeSpec.witness_shaped (enc := enc) (C := Tryz.checked) (os := os) (X := fun w _ => laidMetH Tryz.prog Rows.fnExactFindCycleRow.laid w) false (World.doorLaid Tryz.prog 400 os) #[.agg #[.int .i64 0, .int .i64 0, .slice none 0 0], .int .i64 0] 8 rfl (World.shaped_of_RefB (by kernel_rfl) (by kernel_rfl)) (by kernel_rfl) (by kernel_rfl) (by kernel_rfl) (door_met os _)) ?_
  intro W base args ds gs before hval0 hW _ _ hL _
  have hval : ∀ (j : Nat) t v, Tryz.f3.params[j]? = some t → args[j]? = some v → Value.okWide Tryz.prog W .any base t v := hval0
  have hW' := hW
  obtain ⟨p, q, hA0, hV, hbef, hfz, hnd⟩ := hW
  have hA : DataW.TrodAll enc Tryz.prog W 0 (fun _ => true) true Tryz.f3.params.toList args.toList ds p := hA0
  rw [Tryz.params3] at hA hval
  obtain ⟨v0, vs0, d0, ds0, p0, q0, hargs, rfl, rfl, h0, r0⟩ := trodAll_cons hA
  obtain ⟨v1, vs1, d1, ds1, p1, q1, rfl, rfl, rfl, h1, r1⟩ := trodAll_cons r0
  obtain ⟨rfl, rfl, rfl⟩ := trodAll_nil r1
  obtain rfl : args = #[v0, v1] := by cases args; simp_all
  obtain ⟨rfl, rfl⟩ := trodVars_none hV
  obtain ⟨c00, c01, c02, y00, y01, y02, nn0, rfl, _, _, e00, e01, e02⟩ := open_agg3 Tryz.underlying24 (by kernel_rfl) (by kernel_rfl) (hval 0 24 v0 rfl rfl) h0
  obtain ⟨z00, ez, _, _⟩ := DataW.trod_int Tryz.underlying2 e00
  simp only [List.cons.injEq, and_true] at ez
  subst ez
  obtain ⟨z01, ez, _, _⟩ := DataW.trod_int Tryz.underlying2 e01
  simp only [List.cons.injEq, and_true] at ez
  subst ez
  obtain ⟨A02, n02, k02, x02, rfl, S02, l02, m02⟩ := s3_of_trod Tryz.underlying22 Tryz.underlying80 rfl rfl rfl rfl rfl rfl Tryz.underlying2 (by kernel_rfl) (by kernel_rfl) e02
  obtain ⟨b1, rfl⟩ := okWide_int Tryz.underlying2 (hval 1 2 v1 rfl rfl)
  refine (lawFindCycle z00 z01 A02 n02 k02 x02 b1 W S02 (by omega) (tab_of hL)).mono fun e W' ⟨he, hb⟩ => ?_
  subst he
  exact ⟨_, rfl, law_post laidOut readable rfl (by kernel_rfl) Tryz.underlying4 rfl rfl rfl hW' hb⟩

theorem row_holds : Rows.FnExactFindCycleSaid :=
  OpenClaim.holds_of_wide 3 Tryz.f3 rfl rfl rfl rfl rfl rfl rfl ⟨rfl, rfl, rfl, rfl, rfl⟩ rfl rfl rfl rfl rfl (by kernel_rfl) Tryz.func3 (by kernel_rfl)
    (of_decide_eq_true (by kernel_rfl)) (by unfold Func.isWrapper; first | (rw [if_pos (by decide +kernel)]; kernel_rfl) | (rw [if_neg (by decide +kernel)]; exact ⟨rfl, rfl⟩))
    (fun os started H enc _ => lifted os started H enc)
end Go.Proofs.YtdlojbabnelbdaaGreatDoor.lawFindCycleRow

/-
  The tied card of FnExactFindCycle: for every input it returns true, and each argument reads afterwards as it read before; the three listed tables are tied to the program's text.
-/
namespace Go.Proofs.YtdlojbabnelbdaaGreatDoor.cardFindCycle
open Go Go.Proofs.YtdlojbabnelbdaaGreatDoor

theorem proved : Rows.FnExactFindCycleCardSaid :=
  Claim7.holds_tied_plain_at .later [] Rows.fnExactFindCycleCard.laidKinds true Rows.fnExactFindCycleCard.stood.harness false
    lawFindCycleRow.row_holds (fun _ h => by cases h) (by kernel_rfl) (fun _ h => by cases h) fnExactFindCycle_row_tie rfl ⟨rfl, rfl⟩ (by kernel_rfl) rfl
    (fun f fn hf hfn => by
      obtain rfl : f = 3 := Option.some.inj ((show Tryz.prog.funcNamed Rows.fnExactFindCycleRow.func = some 3 by kernel_rfl).symm.trans hf) |>.symm
      obtain rfl : fn = Tryz.f3 := (Option.some.inj (Tryz.func3.symm.trans hfn)).symm
      exact ⟨by kernel_rfl, fun j t ht => by
        rw [Tryz.params3] at ht
        have hm : t ∈ [24, 2] := by simpa using Array.mem_of_getElem? ht
        have hall : ([24, 2].all fun u => !Tryz.prog.wantsStandIn u) = true := by kernel_rfl
        exact (show Tryz.prog.wantsStandIn t = false by simpa using List.all_eq_true.1 hall t hm)⟩)
    (by kernel_rfl)
end Go.Proofs.YtdlojbabnelbdaaGreatDoor.cardFindCycle
