/-
  The reference's source of choices: next, pick, one.
-/
import Derived.Test.YtfheepjfpgiaoaaByts
import Derived.Test.YtfheepjfpgiaoaaKb
import Derived.Deep.DeepCutAuto
import Derived.BigRegion
import Derived.BigQuiet
import Derived.Lib.VarintBits
namespace Go.Proofs.Ytfheepjfpgiaoaa
open Go.ChangeShapes Go.WideShapes Go.ChangeAt Go.RowKit Go.Joins Go.Deep

/-- A source in memory: bytes, a place of at most T, a seed. -/
def Src (b : Nat) (A : Option Addr) (n c T : Nat) (W : World) : Prop := ∃ (a : Nat) (s : Int), a ≤ T ∧ 0 ≤ s ∧ s ≤ 18446744073709551615 ∧ Blk W b 204 #[.slice A n c, .int .i64 (a : Int), .int .u64 s]
theorem Src.le {b : Nat} {A : Option Addr} {n c T T' : Nat} {W : World} (h : Src b A n c T W) (ht : T ≤ T') : Src b A n c T' W := by
  obtain ⟨a, s, h1, h2⟩ := h
  exact ⟨a, s, by omega, h2⟩
theorem Src.below {b : Nat} {A : Option Addr} {n c T : Nat} {W W' : World} (h : Src b A n c T W) (z : Below W.heap.size W W') : Src b A n c T W' := by
  obtain ⟨a, s, h1, h2, h3, h4⟩ := h
  exact ⟨a, s, h1, h2, h3, h4.below' z⟩
theorem Src.alloc {b : Nat} {A : Option Addr} {n c T : Nat} {W : World} (h : Src b A n c T W) (o : Obj) : Src b A n c T (W.alloc o) := by
  obtain ⟨a, s, h1, h2, h3, h4⟩ := h
  exact ⟨a, s, h1, h2, h3, h4.alloc o⟩
theorem Src.set_at {b : Nat} {A : Option Addr} {n c T k : Nat} {W : World} (h : Src b A n c T W) (hk : k ≠ b) (j : Nat) (u : Value) : Src b A n c T (W.setCell ⟨k, j, none⟩ u) := by
  obtain ⟨a, s, h1, h2, h3, h4⟩ := h
  exact ⟨a, s, h1, h2, h3, (Below.heap_setCell W ⟨k, j, none⟩ u b (by dsimp only; omega)).trans h4⟩
/-- A number from 0 to hi - 1 was chosen. -/
def Got (b : Nat) (A : Option Addr) (n c T : Nat) (hi : Int) (w : World) (e : Ending) (w' : World) : Prop :=
  ∃ x : Int, e = .returned (.int .i64 x) ∧ 0 ≤ x ∧ x < hi ∧ Src b A n c T w' ∧ Kb b w w'
theorem u64_range (x : Int) : 0 ≤ IntKind.u64.wrap x ∧ IntKind.u64.wrap x ≤ 18446744073709551615 := by
  rw [IntKind.wrap_u64]; omega
theorem and255 (x : Int) (h0 : 0 ≤ x) (h1 : x < 18446744073709551616) : 0 ≤ bits BinOp.and IntKind.u64 x 255 ∧ bits BinOp.and IntKind.u64 x 255 < 256 := by
  have h := bits_mask .u64 64 (by decide) wraps_u64 8 (by decide) x h0 (by omega)
  have e : bits BinOp.and IntKind.u64 x 255 = x % 256 := by simpa using h
  rw [e]
  omega
theorem next_low (s : Int) : 0 ≤ wrap64 (bits BinOp.and IntKind.u64 (IntKind.u64.wrap s / 1099511627776) 255) ∧ wrap64 (bits BinOp.and IntKind.u64 (IntKind.u64.wrap s / 1099511627776) 255) < 256 := by
  obtain ⟨h1, h2⟩ := u64_range s
  obtain ⟨h3, h4⟩ := and255 (IntKind.u64.wrap s / 1099511627776) (by omega) (by omega)
  rw [IntWalk.wrap64_in _ (by constructor <;> omega)]
  exact ⟨h3, h4⟩
theorem next_done {b a n c T : Nat} {A : Option Addr} {s s' x : Int} {w w1 : World} {j k : Nat} (hb : Blk w b 204 #[.slice A n c, .int .i64 (a : Int), .int .u64 s]) (ha : a ≤ T) (hx0 : 0 ≤ x) (hx1 : x < 256)
    (hw : w1 = (((w.drewN j).setCell ⟨b, 1, none⟩ (.int .i64 ((a : Int) + 1))).setCell ⟨b, 2, none⟩ (.int .u64 (IntKind.u64.wrap s'))).drewN k) : Got b A n c (T + 1) 256 w (.returned (.int .i64 x)) w1 := by
  subst hw
  obtain ⟨h1, h2⟩ := u64_range s'
  exact ⟨x, rfl, hx0, hx1, ⟨a + 1, _, by omega, h1, h2, ((hb.drewN j).set_ 1 (.int .i64 ((a : Int) + 1))).set_ 2 (.int .u64 (IntKind.u64.wrap s'))⟩, ((((Kb.refl b w).drewN j).set_ 1 _).set_ 2 _).drewN k⟩
set_option maxHeartbeats 2000000 in
theorem next_any (b : Nat) (A : Option Addr) (n c T : Nat) (xs : List Int) (w : World) (hx : SBy w A n xs) (hA : ∀ k, blk A = some k → k ≠ b) (hs : Src b A n c T w) (hT : T ≤ 1000000000) (hn : n ≤ 9223372036854775807) :
    Calls Try.prog 161 #[.pointer (some ⟨b, 0, none⟩)] w (Got b A n c (T + 1) 256 w) := by
  obtain ⟨a, s, haT, hs0, hs1, hb⟩ := hs
  have k0 : w.cell? ⟨b, 0, none⟩ = some (.slice A n c) := hb.cell 0
  have k1 : w.cell? ⟨b, 1, none⟩ = some (.int .i64 (a : Int)) := hb.cell 1
  have k2 : w.cell? ⟨b, 2, none⟩ = some (.int .u64 s) := hb.cell 2
  have f1 := hb.frozen 1
  have f2 := hb.frozen 2
  have HB := Lib.hid hb
  have HX := Lib.hid hx
  have HA := Lib.hid hA
  have HT := Lib.hid haT
  have i0 : (a : Int) + 1 ≤ 1000000001 := by omega
  clear hb hx hA haT
  by_cases h : a < n
  · obtain ⟨b', off, rfl, _, hc⟩ := HX.out.at_ h
    obtain ⟨y, hy⟩ : ∃ y, y = xs[a]'(by rw [HX.out.len]; exact h) := ⟨_, rfl⟩
    have hy2 := HX.out.2 _ (List.getElem_mem (l := xs) (n := a) (by rw [HX.out.len]; exact h))
    rw [← hy] at hc hy2
    clear hy
    have i1 : (0 : Int) ≤ (a : Int) := by omega
    have i2 : (a : Int) < (n : Int) := by omega
    have i3 : (a : Int) + 1 ≤ (n : Int) := by omega
    have hne : b' ≠ b := HA.out b' rfl
    go_enter Try.func161, Try.ntmps161
    go_upto_region 2 with fail
    go_quiet (fail)
    go_upto_region 3 with fail
    go_quiet (fail)
    go_upto_region 6 with fail
    go_quiet (fail)
    go_wp2_with fail
    go_ret
    exact next_done HB.out HT.out (by omega) (by omega) rfl
  · have i2 : ¬ (a : Int) < (n : Int) := by omega
    have i3 : ¬ (a : Int) + 1 ≤ (n : Int) := by omega
    go_enter Try.func161, Try.ntmps161
    go_upto_region 2 with fail
    go_quiet (fail)
    go_upto_region 6 with fail
    go_quiet (fail)
    go_wp2_with fail
    go_ret
    exact next_done HB.out HT.out (next_low _).1 (next_low _).2 rfl
theorem SBy.kb {b : Nat} {w w' : World} {A : Option Addr} {n : Nat} {xs : List Int} (h : SBy w A n xs) (k : Kb b w w') (hA : ∀ x, blk A = some x → x ≠ b) : SBy w' A n xs :=
  ⟨h.1.keep fun p hp he => World.cell?_of_block (k.block p.block hp (hA _ he.symm)), h.2⟩
set_option maxHeartbeats 2000000 in
theorem pick_any (b : Nat) (A : Option Addr) (n c T : Nat) (xs : List Int) (m : Int) (w : World) (hx : SBy w A n xs) (hA : ∀ k, blk A = some k → k ≠ b) (hs : Src b A n c T w) (hT : T ≤ 900000000) (hn : n ≤ 9223372036854775807) (hm : m ≤ 60000) (hm0 : -60000 ≤ m) :
    Calls Try.prog 80 #[.pointer (some ⟨b, 0, none⟩), .int .i64 m] w (Got b A n c (T + 2) (max m 1) w) := by
  have HX := Lib.hid hx
  have HA := Lib.hid hA
  have HS := Lib.hid hs
  clear hx hA hs
  by_cases h1 : m ≤ 1
  · go_enter Try.func80, Try.ntmps80
    go_wp2_with fail
    go_ret
    exact ⟨0, rfl, by omega, by omega, HS.out.le (by omega), Kb.refl b w⟩
  have h0 : ¬ m = 0 := by omega
  by_cases h2 : m ≤ 200
  · go_enter Try.func80, Try.ntmps80
    go_wp2_with (go_at_call 161; refine (next_any b A n c T xs _ HX.out HA.out HS.out (by omega) hn).mono ?_; rintro e1 w1 ⟨x, rfl, hx0, hx1, hs1, hk1⟩)
    go_ret
    exact ⟨x % m, rfl, Int.emod_nonneg _ h0, by have := Int.emod_lt_of_pos x (show 0 < m by omega); omega, hs1.le (by omega), hk1⟩
  · go_enter Try.func80, Try.ntmps80
    go_upto_region 4 with (go_at_call 161; refine (next_any b A n c T xs _ HX.out HA.out HS.out (by omega) hn).mono ?_; rintro e1 w1 ⟨x, rfl, hx0, hx1, hs1, hk1⟩)
    have HX1 := Lib.hid (HX.out.kb hk1 HA.out)
    have HS1 := Lib.hid hs1
    have HK1 := Lib.hid hk1
    clear hs1 hk1
    go_wp2_with (go_at_call 161; refine (next_any b A n c (T + 1) xs _ HX1.out HA.out HS1.out (by omega) hn).mono ?_; rintro e2 w2 ⟨y, rfl, hy0, hy1, hs2, hk2⟩)
    go_ret
    exact ⟨(x * 256 + y) % m, rfl, Int.emod_nonneg _ h0, by have := Int.emod_lt_of_pos (x * 256 + y) (show 0 < m by omega); omega, hs2, HK1.out.trans hk2⟩
theorem one_any (b : Nat) (A : Option Addr) (n c T : Nat) (xs : List Int) (m : Int) (w : World) (hx : SBy w A n xs) (hA : ∀ k, blk A = some k → k ≠ b) (hs : Src b A n c T w) (hT : T ≤ 900000000) (hn : n ≤ 9223372036854775807) (hm : m ≤ 60000) (hm0 : -60000 ≤ m) :
    Calls Try.prog 157 #[.pointer (some ⟨b, 0, none⟩), .int .i64 m] w (fun e w' => ∃ y : Bool, e = .returned (.bool y) ∧ Src b A n c (T + 2) w' ∧ Kb b w w') := by
  go_enter Try.func157, Try.ntmps157
  go_wp2_with (go_at_call 80; refine (pick_any b A n c T xs m _ hx hA hs hT hn hm hm0).mono ?_; rintro e1 w1 ⟨x, rfl, hx0, hx1, hs1, hk1⟩)
  go_ret
  exact ⟨decide (x = 0), rfl, hs1, hk1⟩
set_option maxHeartbeats 1000000 in
/-- A new source. -/
theorem from_any (A : Option Addr) (n c : Nat) (w : World) : Calls Try.prog 78 #[.slice A n c] w (fun e w' => e = .returned (.pointer (some ⟨w.heap.size, 0, none⟩)) ∧ Src w.heap.size A n c 0 w' ∧ Below w.heap.size w w') := by
  obtain ⟨W, hW_⟩ : ∃ W, W = w.alloc (.cells #[.slice A n c, .int .i64 0, .int .u64 0] 204) := ⟨_, rfl⟩
  have b0 : Blk W w.heap.size 204 #[.slice A n c, .int .i64 0, .int .u64 0] := by rw [hW_]; exact Blk.new w _ _
  have y0 : Below w.heap.size w W := by rw [hW_]; exact (Below.refl _ _).alloc (Nat.le_refl _) _
  have HW := Lib.hid hW_
  clear hW_
  go_enter Try.func78, Try.ntmps78
  go_wp2_with fail
  rw [← HW.out]
  go_ret
  exact ⟨rfl, ⟨0, 0, Nat.le_refl _, by omega, by omega, b0⟩, y0⟩
end Go.Proofs.Ytfheepjfpgiaoaa
