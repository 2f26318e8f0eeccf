/-
  Contracts of impl's setTo, BranchWhile$1, enclosed; slices.Clone over []Expr; copyWhile, shortWhile.
-/
import Derived.Test.YtfheepjfpgiaoaaBrP
import Derived.Test.YtfheepjfpgiaoaaCmOps
import Derived.Test.YtfheepjfpgiaoaaExI
import Derived.Deep.DeepCutAuto
import Derived.Lib.AppendZeros
import Derived.Test.YtfheepjfpgiaoaaWhF
import Derived.Deep.RegionHeld3
namespace Go.Proofs.Ytfheepjfpgiaoaa
open Go.RowKit

set_option maxHeartbeats 1000000 in
theorem setTo_any (k : Int) (A : Option Addr) (n c : Nat) (w : World) : Calls Try.prog 88 #[.int .i64 k, .slice A n c] w fun e w' => e = .returned (.agg #[.int .i64 0, .int .i64 k, .int .i64 0, .slice A n c]) ∧ Below w.heap.size w w' := by
  obtain ⟨W, hW_⟩ : ∃ W, W = w.alloc (.cells #[.int .i64 0, .int .i64 0, .int .i64 0, .slice none 0 0] 99) := ⟨_, rfl⟩
  have b0 : Blk W w.heap.size 99 #[.int .i64 0, .int .i64 0, .int .i64 0, .slice none 0 0] := by rw [hW_]; exact Blk.new w _ _
  have y0 : Below w.heap.size w W := by rw [hW_]; exact (Below.refl _ _).alloc (Nat.le_refl _) _
  have HW := Lib.hid hW_
  clear hW_
  have HD := Lib.hid ((((b0.set_ 0 (.int .i64 0)).set_ 1 (.int .i64 k)).set_ 2 (.int .i64 0)).set_ 3 (.slice A n c))
  have HB : Hid (Below w.heap.size w ((((W.setCell ⟨w.heap.size, 0, none⟩ (.int .i64 0)).setCell ⟨w.heap.size, 1, none⟩ (.int .i64 k)).setCell ⟨w.heap.size, 2, none⟩ (.int .i64 0)).setCell ⟨w.heap.size, 3, none⟩ (.slice A n c))) := Lib.hid ((((y0.setCell (Nat.le_refl _) _).setCell (Nat.le_refl _) _).setCell (Nat.le_refl _) _).setCell (Nat.le_refl _) _)
  have u0 : W.cell? ⟨w.heap.size, 0, none⟩ = some (.int .i64 0) := b0.cell 0
  have u1 : W.cell? ⟨w.heap.size, 1, none⟩ = some (.int .i64 0) := b0.cell 1
  have u2 : W.cell? ⟨w.heap.size, 2, none⟩ = some (.int .i64 0) := b0.cell 2
  have u3 : W.cell? ⟨w.heap.size, 3, none⟩ = some (.slice none 0 0) := b0.cell 3
  have f0 := b0.frozen 0
  have f1 := b0.frozen 1
  have f2 := b0.frozen 2
  have f3 := b0.frozen 3
  clear b0 y0
  go_enter Try.func88, Try.ntmps88
  go_upto_region 1 with fail
  rw [← HW.out]
  go_wp2_with fail
  have d1 := HD.out
  exact bodyPost_ret (v := .agg #[.int .i64 0, .int .i64 k, .int .i64 0, .slice A n c]) (by simp [results, Try.results88, go_sem, d1.cell 0, d1.cell 1, d1.cell 2, d1.cell 3]) rfl ⟨rfl, HB.out⟩
/-- What is read of a command, of an expression's elements, of commands. -/
def CmdV (c : Cmd) (v : Value) (w : World) : Prop := ∃ t : Ce, t.cmd = c ∧ v = .agg #[.int .i64 t.k, .int .i64 t.v, .int .i64 t.l, .slice t.A t.e.length t.c] ∧ S2 w t.A t.e.length t.e
def HasX (rs : List R2) (v : Value) (w : World) : Prop := ∃ A c, v = .slice A rs.length c ∧ S2 w A rs.length rs
def HasR (cs : List Cmd) (v : Value) (w : World) : Prop := ∃ A c ts, v = .slice A (List.length ts) c ∧ cmds ts = cs ∧ SC w A ts.length ts
theorem CmdV.stay {c : Cmd} (v : Value) (w1 w2 : World) (h : CmdV c v w1) (z : Below w1.heap.size w1 w2) : CmdV c v w2 := by
  obtain ⟨t, e, h1, h2⟩ := h
  exact ⟨t, e, h1, h2.below z⟩
theorem HasX.stay {rs : List R2} (v : Value) (w1 w2 : World) (h : HasX rs v w1) (z : Below w1.heap.size w1 w2) : HasX rs v w2 := by
  obtain ⟨A, c, e, h1⟩ := h
  exact ⟨A, c, e, h1.below z⟩
theorem HasR.stay {cs : List Cmd} (v : Value) (w1 w2 : World) (h : HasR cs v w1) (z : Below w1.heap.size w1 w2) : HasR cs v w2 := by
  obtain ⟨A, c, ts, e, h1, h2⟩ := h
  exact ⟨A, c, ts, e, h1, h2.below z⟩
theorem lit_s2 (w : World) (cs : Array Value) (rs : List R2) (h : cs.toList = cells2 rs) (hl : rs.length ≤ 1000) : S2 (w.alloc (.cells cs 118)) (some ⟨w.heap.size, 0, none⟩) rs.length rs := by
  have hs : cs.size = rs.length * 2 := by rw [← length_cells2, ← h]; simp
  have o := Own.lit w cs 118 rs.length 2 w.heap.size hs (by simp only [maxLen]; omega) (Nat.le_refl _)
  rw [h] at o
  exact o.rd
set_option maxHeartbeats 1000000 in
theorem variable_any (k : Int) (w : World) : Calls Try.prog 85 #[.int .i64 k] w fun e w' => ∃ v, e = .returned v ∧ HasX [⟨1, k⟩] v w' ∧ Below w.heap.size w w' := by
  go_enter Try.func85, Try.ntmps85
  go_wp2_with fail
  go_ret
  exact ⟨_, rfl, ⟨_, 1, rfl, lit_s2 w #[.int .i64 1, .int .i64 k] [⟨1, k⟩] rfl (by simp)⟩, (Below.refl _ _).alloc (Nat.le_refl _) _⟩
theorem sizeCmd_any (A : Option Addr) (n c : Nat) (w : World) (_hn : n ≤ 9223372036854775807) :
    Calls Try.prog 173 #[.slice A n c] w fun e w' => e = .returned (.int .i64 n) ∧ w = w' := by
  go_enter Try.func173, Try.ntmps173
  go_wp2_with fail
  go_ret
  exact ⟨rfl, rfl⟩
set_option maxRecDepth 100000 in
set_option maxHeartbeats 4000000 in
theorem enclosed_any (E : Option Addr) (m d : Nat) (rs : List R2) (A : Option Addr) (n c : Nat) (ts : List Ce) (w : World) (he : S2 w E m rs) (hx : SC w A n ts) (hn : n ≤ 10000) :
    Calls Try.prog 89 #[.slice E m d, .slice A n c] w fun e w' => ∃ v, e = .returned v ∧ HasR (⟨1, 0, (n : Int), rs⟩ :: cmds ts) v w' ∧ Below w.heap.size w w' := by
  obtain ⟨W1, hW1⟩ : ∃ W1, W1 = w.alloc (.cells #[.int .i64 1, .int .i64 0, .int .i64 (n : Int), .slice E m d] 99) := ⟨_, rfl⟩
  have z1 : Below w.heap.size w W1 := by rw [hW1]; exact (Below.refl _ _).alloc (Nat.le_refl _) _
  have o1 : Own W1 w.heap.size 99 4 (some ⟨w.heap.size, 0, none⟩) 1 1 [.int .i64 1, .int .i64 0, .int .i64 (n : Int), .slice E m d] := by rw [hW1]; exact Own.lit w #[.int .i64 1, .int .i64 0, .int .i64 (n : Int), .slice E m d] _ 1 4 w.heap.size rfl (by simp [maxLen]) (Nat.le_refl _)
  have HW := Lib.hid hW1
  have HX := Lib.hid (hx.below z1)
  have HX0 := Lib.hid hx
  have HE := Lib.hid he
  have hw1 := z1.size
  have HZ1 := Lib.hid z1
  clear hW1 hx he z1
  go_enter Try.func89, Try.ntmps89
  go_wp2_with (first | (go_at_call 173; refine (sizeCmd_any A n c w (by omega)).mono ?_; rintro e w' ⟨rfl, rfl⟩) | (at_builtin; rw [← HW.out]; refine wpList_append_Own rfl (.tmp 9) (.tmp 10) rfl elCm (lo := w.heap.size) rfl o1 rfl HX.out.1 (Ce.one ts) (by omega) (by simp only [maxLen]; omega) hw1 ?_; intro A5 c5 w5 o5 hg5 _; have HO5 := Lib.hid o5; have HG5 := Lib.hid hg5))
  go_ret
  have z5 : Below w.heap.size w w5 := o1.below_of HZ1.out HG5.out hw1
  have hl := HX0.out.len
  have hm := HE.out.len
  subst hl; subst hm
  refine ⟨_, rfl, ⟨A5, c5, ⟨1, 0, (ts.length : Int), E, d, rs⟩ :: ts, ?_, rfl, ?_, ?_⟩, z5⟩
  · simp; omega
  · have h := HO5.out.rd
    have e : (⟨1, 0, (ts.length : Int), E, d, rs⟩ :: ts : List Ce).length = 1 + ts.length := by simp; omega
    rw [e]; simpa [Ce.cells] using h
  · intro t ht
    rcases List.mem_cons.1 ht with rfl | ht
    · exact HE.out.below z5
    · exact (HX0.out.2 t ht).below z5
end Go.Proofs.Ytfheepjfpgiaoaa

/-
  Contracts of slices.Clone over []Expr; copyWhile$1, mapped, copyWhile, shortWhile.
-/
namespace Go.Proofs.Ytfheepjfpgiaoaa
open Go.RowKit

set_option maxHeartbeats 1000000 in
theorem cloneE_any (A : Option Addr) (n c : Nat) (rs : List R2) (w : World) (hx : S2 w A n rs) (hn : n ≤ 1048576) :
    Calls Try.prog 235 #[.slice A n c] w fun e w' => ∃ A2 c2, e = .returned (.slice A2 n c2) ∧ Own w' w.heap.size 118 2 A2 n c2 (cells2 rs) ∧ Below w.heap.size w w' := by
  have HL := Lib.hid hx.len
  have hnil := fun (w : World) (a : Option Addr) (n c : Nat) => Lib.run_eql_slice_nil (P := Try.prog) w 37 118 a n c 0 0 Try.underlying37
  rcases A with _ | ad
  · have hn0 : n = 0 := by
      rcases Nat.eq_zero_or_pos n with h | h
      · exact h
      · obtain ⟨_, _, _, _, _, e, _⟩ := hx.pick h; cases e
    subst hn0
    have hx0 : rs = [] := List.eq_nil_of_length_eq_zero HL.out
    subst hx0
    go_enter Try.func235, Try.ntmps235
    go_wp2
    go_ret
    exact ⟨none, 0, rfl, Own.nil, Below.refl _ _⟩
  · go_enter Try.func235, Try.ntmps235
    go_wp2_with (at_builtin; refine wpList_append_Own rfl (.tmp 5) (.tmp 6) rfl elEx (lo := w.heap.size) rfl (Own.lit0 w _ 2) rfl (Rd.alloc hx _) (cells2_one rs) (by omega) (by simp only [maxLen]; omega) (by simp) ?_; intro A2 c2 w2 ho2 hg2 _)
    go_ret
    have hbb := (Own.lit0 w 118 2).below_of ((Below.refl _ _).alloc (Nat.le_refl _) _) hg2 (by simp)
    simp only [List.nil_append, Nat.zero_add] at ho2
    exact ⟨A2, c2, by simp, ho2, hbb⟩
set_option maxRecDepth 100000 in
set_option maxHeartbeats 4000000 in
theorem copy1_any (k v l : Int) (A : Option Addr) (n c : Nat) (rs : List R2) (w : World) (hx : S2 w A n rs) (hn : n ≤ 10000) :
    Calls Try.prog 234 #[.agg #[.int .i64 k, .int .i64 v, .int .i64 l, .slice A n c]] w fun e w' => ∃ A2 c2, e = .returned (.agg #[.int .i64 k, .int .i64 v, .int .i64 l, .slice A2 n c2]) ∧ Own w' w.heap.size 118 2 A2 n c2 (cells2 rs) ∧ Below w.heap.size w w' := by
  obtain ⟨W, hW_⟩ : ∃ W, W = (w.alloc (.cells #[.int .i64 k, .int .i64 v, .int .i64 l, .slice A n c] 99)).alloc (.cells #[.int .i64 0, .int .i64 0, .int .i64 0, .slice none 0 0] 99) := ⟨_, rfl⟩
  have s_1 : (w.alloc (.cells #[.int .i64 k, .int .i64 v, .int .i64 l, .slice A n c] 99)).heap.size = w.heap.size + 1 := by simp
  have b0 : Blk W w.heap.size 99 #[.int .i64 k, .int .i64 v, .int .i64 l, .slice A n c] := by rw [hW_]; exact (Blk.new w _ _).alloc _
  have b1 : Blk W (w.heap.size + 1) 99 #[.int .i64 0, .int .i64 0, .int .i64 0, .slice none 0 0] := by rw [hW_, ← s_1]; exact Blk.new _ _ _
  have y0 : Below w.heap.size w W := by rw [hW_]; exact ((Below.refl _ _).alloc (Nat.le_refl _) _).alloc (by simp) _
  have HW := Lib.hid hW_
  clear hW_ s_1
  have u0 : W.cell? ⟨w.heap.size, 0, none⟩ = some (.int .i64 k) := b0.cell 0
  have u1 : W.cell? ⟨w.heap.size, 1, none⟩ = some (.int .i64 v) := b0.cell 1
  have u2 : W.cell? ⟨w.heap.size, 2, none⟩ = some (.int .i64 l) := b0.cell 2
  have u3 : W.cell? ⟨w.heap.size, 3, none⟩ = some (.slice A n c) := b0.cell 3
  have HCL := Lib.hid (cloneE_any A n c rs W (hx.below y0) (by omega))
  have HY0 := Lib.hid y0
  have hb1 := b1.lt
  clear hx y0
  go_enter Try.func234, Try.ntmps234
  go_upto_region 1 with fail
  rw [← HW.out]
  clear HW
  go_wp2_with fail
  refine HCL.out.mono ?_
  rintro e w1 ⟨A2, c2, rfl, o1, z1⟩
  have b0' := b0.below' z1
  have b1' := b1.below' z1
  have f3 := b0'.frozen 3
  clear HCL u0 u1 u2 u3
  obtain ⟨W2, hW2⟩ : ∃ W2, W2 = w1.setCell ⟨w.heap.size, 3, none⟩ (.slice A2 n c2) := ⟨_, rfl⟩
  have c0 : Blk W2 w.heap.size 99 #[.int .i64 k, .int .i64 v, .int .i64 l, .slice A2 n c2] := by rw [hW2]; exact b0'.set_ 3 _
  have c1 : Blk W2 (w.heap.size + 1) 99 #[.int .i64 0, .int .i64 0, .int .i64 0, .slice none 0 0] := by rw [hW2]; exact b1'.far (p := ⟨w.heap.size, 3, none⟩) (by simp) _
  have z2 : Below w.heap.size w W2 := by rw [hW2]; exact (HY0.out.trans (z1.mono HY0.out.size)).setCell (Nat.le_refl _) _
  have o2 : Own W2 w.heap.size 118 2 A2 n c2 (cells2 rs) := by rw [hW2]; exact (o1.far (p := ⟨w.heap.size, 3, none⟩) (b0'.apt o1 (by decide)) _).mono HY0.out.size
  have HO2 := Lib.hid (((((o2.far (p := ⟨w.heap.size + 1, 0, none⟩) (c1.apt o2 (by decide)) (.int .i64 k))).far (p := ⟨w.heap.size + 1, 1, none⟩) (c1.apt o2 (by decide)) (.int .i64 v)).far (p := ⟨w.heap.size + 1, 2, none⟩) (c1.apt o2 (by decide)) (.int .i64 l)).far (p := ⟨w.heap.size + 1, 3, none⟩) (c1.apt o2 (by decide)) (.slice A2 n c2))
  have HD := Lib.hid ((((c1.set_ 0 (.int .i64 k)).set_ 1 (.int .i64 v)).set_ 2 (.int .i64 l)).set_ 3 (.slice A2 n c2))
  have HZ := Lib.hid ((((z2.setCell (p := ⟨w.heap.size + 1, 0, none⟩) (Nat.le_succ _) (.int .i64 k)).setCell (p := ⟨w.heap.size + 1, 1, none⟩) (Nat.le_succ _) (.int .i64 v)).setCell (p := ⟨w.heap.size + 1, 2, none⟩) (Nat.le_succ _) (.int .i64 l)).setCell (p := ⟨w.heap.size + 1, 3, none⟩) (Nat.le_succ _) (.slice A2 n c2))
  have x0 : w1.cell? ⟨w.heap.size, 0, none⟩ = some (.int .i64 k) := b0'.cell 0
  have x1 : w1.cell? ⟨w.heap.size, 1, none⟩ = some (.int .i64 v) := b0'.cell 1
  have x2 : w1.cell? ⟨w.heap.size, 2, none⟩ = some (.int .i64 l) := b0'.cell 2
  have x3 : w1.cell? ⟨w.heap.size, 3, none⟩ = some (.slice A n c) := b0'.cell 3
  have y0 : w1.cell? ⟨(w.heap.size + 1), 0, none⟩ = some (.int .i64 0) := b1'.cell 0
  have y1 : w1.cell? ⟨(w.heap.size + 1), 1, none⟩ = some (.int .i64 0) := b1'.cell 1
  have y2 : w1.cell? ⟨(w.heap.size + 1), 2, none⟩ = some (.int .i64 0) := b1'.cell 2
  have y3 : w1.cell? ⟨(w.heap.size + 1), 3, none⟩ = some (.slice none 0 0) := b1'.cell 3
  have g0 := b1'.frozen 0
  have g1 := b1'.frozen 1
  have g2 := b1'.frozen 2
  have g3 := b1'.frozen 3
  clear b0 b1 b0' b1' o1 z1 c0 c1 z2 o2
  subst hW2
  go_wp2_with fail
  have d1 := HD.out
  exact bodyPost_ret (v := .agg #[.int .i64 k, .int .i64 v, .int .i64 l, .slice A2 n c2]) (by simp [results, Try.results234, go_sem, d1.cell 0, d1.cell 1, d1.cell 2, d1.cell 3]) rfl ⟨A2, c2, rfl, HO2.out, HZ.out⟩
set_option maxRecDepth 100000 in
set_option maxHeartbeats 4000000 in
theorem mapped_any (A : Option Addr) (n c : Nat) (ts : List Ce) (w : World) (hx : SC w A n ts) (hn : n ≤ 10000) (hr : ∀ t ∈ ts, t.e.length ≤ 10000) :
    Calls Try.prog 233 #[.slice A n c, .func (.func 234) #[] #[]] w (NewC w (cmds ts)) := by
  have hcall := Try.call234
  obtain ⟨W, hW_⟩ : ∃ W_, W_ = w.alloc (.cells #[] 99) := ⟨_, rfl⟩
  have b0 : Blk W w.heap.size 99 #[] := by rw [hW_]; exact Blk.new w _ _
  have z0 : Below w.heap.size w W := by rw [hW_]; exact (Below.refl _ _).alloc (Nat.le_refl _) _
  have HW := Lib.hid hW_
  clear hW_
  have HO0 : Hid (OC W w.heap.size (some ⟨w.heap.size, 0, none⟩) 0 0 []) := Lib.hid ⟨by rw [HW.out]; exact Own.lit0 w _ 4, by simp⟩
  have HZ0 := Lib.hid z0
  have HL := Lib.hid hx.len
  have HX := Lib.hid hx
  have HR := Lib.hid hr
  clear z0 b0 hx hr
  go_enter Try.func233, Try.ntmps233
  go_upto_region 2 with fail
  rw [← HW.out]
  clear HW
  go_wp2_with fail
  go_loopw [5, 11] (fun s5 s11 wr => ∃ (k : Nat) (D : Option Addr) (d : Nat) (us : List Ce), k ≤ n ∧ s11 = .int .i64 (k : Int) ∧ s5 = .slice D k d ∧ Hid (cmds us = (cmds ts).take k) ∧ Hid (OC wr w.heap.size D k d us) ∧ Hid (Below w.heap.size w wr)) (fun _ s11 _ => n - (intOf s11).toNat)
  case atStart => exact ⟨0, _, 0, [], Nat.zero_le _, rfl, rfl, Lib.hid rfl, HO0, HZ0⟩
  case round =>
    obtain ⟨k, D, d, us, hk, rfl, rfl, HE, HO, HZ⟩ := hrel
    clear HO0 HZ0
    by_cases hkn : k < n
    rotate_left
    · obtain rfl : k = n := by omega
      have i1 : ¬ ((k : Int) < (k : Int)) := by omega
      go_wp2_with fail
      go_ret
      have hl : us.length = k := HO.out.len
      refine ⟨D, d, us, by rw [hl]; rfl, ?_, by rw [hl]; exact HO.out, HZ.out⟩
      rw [HE.out, List.take_of_length_le (by rw [cmds_len, HL.out]; exact Nat.le_refl _)]
    have i1 : (k : Int) < (n : Int) := by omega
    have i0 : (0 : Int) ≤ (k : Int) := by omega
    obtain ⟨t, b, off, HT, htm, rfl, hbl, q0, q1, q2, q3, hre⟩ := (HX.out.below HZ.out).pick hkn
    have htl := HR.out t htm
    obtain ⟨tk, tv, tl, tA, tc, te⟩ := t
    dsimp only at q0 q1 q2 q3 hre htl
    obtain ⟨W1, hW_⟩ : ∃ W_, W_ = wr.alloc (.cells #[.int .i64 tk, .int .i64 tv, .int .i64 tl, .slice tA te.length tc] 99) := ⟨_, rfl⟩
    have b1 : Blk W1 wr.heap.size 99 #[.int .i64 tk, .int .i64 tv, .int .i64 tl, .slice tA te.length tc] := by rw [hW_]; exact Blk.new wr _ _
    have z1 : Below wr.heap.size wr W1 := by rw [hW_]; exact (Below.refl _ _).alloc (Nat.le_refl _) _
    have HW1 := Lib.hid hW_
    clear hW_
    have x0 : W1.cell? ⟨wr.heap.size, 0, none⟩ = some (.int .i64 tk) := b1.cell 0
    have x1 : W1.cell? ⟨wr.heap.size, 1, none⟩ = some (.int .i64 tv) := b1.cell 1
    have x2 : W1.cell? ⟨wr.heap.size, 2, none⟩ = some (.int .i64 tl) := b1.cell 2
    have x3 : W1.cell? ⟨wr.heap.size, 3, none⟩ = some (.slice tA te.length tc) := b1.cell 3
    go_upto_region 5 with fail
    rw [← HW1.out]
    have hw : w.heap.size ≤ wr.heap.size := HZ.out.size
    have hw1 := z1.size
    have HO1 := Lib.hid (HO.out.below z1)
    have HZ1 := Lib.hid (HZ.out.trans (z1.mono hw))
    have HR1 := Lib.hid (hre.below z1)
    clear q0 q1 q2 q3 HW1 z1 b1 hre HO HZ
    go_wp2_with fail
    refine (copy1_any tk tv tl tA te.length tc te W1 HR1.out htl).mono ?_
    rintro e w2 ⟨A2, c2, rfl, o2, z2⟩
    have HOA := Lib.hid ((HO1.out.below z2).alloc (.cells #[.int .i64 tk, .int .i64 tv, .int .i64 tl, .slice A2 te.length c2] 99))
    have HEA := Lib.hid ((o2.mono (show w.heap.size ≤ W1.heap.size by omega)).alloc (.cells #[.int .i64 tk, .int .i64 tv, .int .i64 tl, .slice A2 te.length c2] 99))
    have HZ2 := Lib.hid (HZ1.out.trans (z2.mono (by omega)))
    have hw2 := HZ2.out.size
    clear o2 z2 HO1 HZ1 HR1 x0 x1 x2 x3
    go_wp2_with (at_builtin; refine wpList_append_Own rfl (.tmp 15) (.tmp 19) rfl elCm (lo := w.heap.size) rfl HOA.out.1 rfl (rd_cmd w2 tk tv tl A2 te.length c2) (by intro u hu; simp at hu; rcases hu with rfl | rfl | rfl | rfl <;> rfl) (by omega) (by simp only [maxLen]; omega) (by simp; omega) ?_; intro A7 c7 w7 o7 hg7 _; have HO7 := Lib.hid o7; have HG7 := Lib.hid hg7)
    go_roundw
    case rel =>
      refine ⟨k + 1, A7, c7, us ++ [⟨tk, tv, tl, A2, c2, te⟩], by omega, by go_num, rfl, Lib.hid ?_, Lib.hid (OC.push (t := ⟨tk, tv, tl, A2, c2, te⟩) HOA.out HEA.out HO7.out HG7.out), Lib.hid ?_⟩
      · exact cmds_take_next HT.out HE.out rfl
      · exact HOA.out.1.below_of (HZ2.out.alloc (by omega) _) HG7.out (by simp; omega)
    case measure => (simp [intOf] <;> omega)
theorem copyWhile_any (A : Option Addr) (n c : Nat) (ts : List Ce) (w : World) (hx : SC w A n ts) (hn : n ≤ 10000) (hr : ∀ t ∈ ts, t.e.length ≤ 10000) : Calls Try.prog 171 #[.slice A n c] w (NewC w (cmds ts)) := by
  go_enter Try.func171, Try.ntmps171
  go_wp2_with (go_at_call 233; refine (mapped_any A n c ts w hx hn hr).mono ?_; rintro e w1 ⟨D, d, us, rfl, h1, h2, h3⟩)
  go_ret
  exact ⟨D, d, us, rfl, h1, h2, h3⟩
/-- What shortWhile returns. -/
def ShortP (w : World) (cs : List Cmd) (e : Ending) (w' : World) : Prop :=
  if 80 < cs.length then e = .returned (.tuple #[.slice none 0 0, .int .i64 5]) ∧ w = w' else ∃ A c ts, e = .returned (.tuple #[.slice A (List.length ts) c, .int .i64 0]) ∧ cmds ts = cs ∧ OC w' w.heap.size A ts.length c ts ∧ Below w.heap.size w w'
theorem shortWhile_any (A : Option Addr) (n c : Nat) (ts : List Ce) (w : World) (hx : SC w A n ts) (hn : n ≤ 10000) (hr : ∀ t ∈ ts, t.e.length ≤ 10000) : Calls Try.prog 86 #[.slice A n c] w (ShortP w (cmds ts)) := by
  have HL : Hid ((cmds ts).length = n) := Lib.hid (by rw [cmds_len]; exact hx.len)
  by_cases h80 : 80 < n
  · have i1 : (80 : Int) < (n : Int) := by omega
    clear hx hr
    go_enter Try.func86, Try.ntmps86
    go_wp2_with fail
    refine bodyPost_ret (v := .tuple #[.slice none 0 0, .int .i64 5]) (by simp [results, Try.results86, go_sem]) rfl ?_
    unfold ShortP
    rw [if_pos (by rw [HL.out]; exact h80)]
    exact ⟨rfl, rfl⟩
  · have i1 : ¬ ((80 : Int) < (n : Int)) := by omega
    have HC := Lib.hid (copyWhile_any A n c ts w hx hn hr)
    clear hx hr
    go_enter Try.func86, Try.ntmps86
    go_wp2_with (go_at_call 171; refine HC.out.mono ?_; rintro e w1 ⟨D, d, us, rfl, h1, h2, h3⟩)
    refine bodyPost_ret (v := .tuple #[.slice D us.length d, .int .i64 0]) (by simp [results, Try.results86, go_sem]) rfl ?_
    unfold ShortP
    rw [if_neg (by rw [HL.out]; exact h80)]
    exact ⟨D, d, us, rfl, h1, h2, h3⟩
end Go.Proofs.Ytfheepjfpgiaoaa

/-
  Contracts of slices.Grow (from nil) and slices.Concat over []Command.
-/
namespace Go.Proofs.Ytfheepjfpgiaoaa
open Go.RowKit

/-- A row of commands in a slice of rows. -/
structure Cr where
  A : Option Addr
  c : Nat
  ts : List Ce
def Cr.val (r : Cr) : Value := .slice r.A r.ts.length r.c
def SCC (w : World) (A : Option Addr) (n : Nat) (rs : List Cr) : Prop := Rd w 1 A n (rs.map Cr.val) ∧ ∀ r ∈ rs, SC w r.A r.ts.length r.ts
section
variable {w w' : World} {A : Option Addr} {n : Nat} {rs : List Cr}
theorem SCC.len (h : SCC w A n rs) : rs.length = n := by have := h.1.1; simp at this; omega
theorem SCC.below (h : SCC w A n rs) (z : Below w.heap.size w w') : SCC w' A n rs := ⟨h.1.below z, fun r hr => (h.2 r hr).below z⟩
theorem SCC.pick (h : SCC w A n rs) {k : Nat} (hk : k < n) : ∃ r b off, Hid (rs[k]? = some r) ∧ r ∈ rs ∧ A = some ⟨b, off, none⟩ ∧ b < w.heap.size ∧ w.cell? ⟨b, off + k, none⟩ = some (.slice r.A r.ts.length r.c) ∧ SC w r.A r.ts.length r.ts := by
  have hl := h.len
  have hr : rs[k]? = some (rs[k]'(by omega)) := List.getElem?_eq_getElem (by omega)
  obtain ⟨b, off, e, hb, hc⟩ := h.1.at_ (k := k) (by simpa [hl] using hk)
  refine ⟨_, b, off, Lib.hid hr, List.getElem_mem _, e, hb, ?_, h.2 _ (List.getElem_mem _)⟩
  rw [hc, List.getElem_map]; rfl
end
theorem zeroCellsC_size (z : Array Value) (n : Nat) : (Builtin.zeroCells z n).size = n * z.size := by simp [Builtin.zeroCells]
set_option maxRecDepth 100000 in
set_option maxHeartbeats 1000000 in
theorem growC_any (n : Nat) (w : World) (hn : n ≤ 100000) : Calls Try.prog 172 #[.slice none 0 0, .int .i64 (n : Int)] w fun e w' => ∃ A c, e = .returned (.slice A 0 c) ∧ Own w' w.heap.size 99 4 A 0 c [] ∧ Below w.heap.size w w' := by
  rcases Nat.eq_zero_or_pos n with h | h
  · subst h
    go_enter Try.func172, Try.ntmps172
    go_wp2_with fail
    go_ret
    exact ⟨none, 0, rfl, Own.nil, Below.refl _ _⟩
  · obtain ⟨i, hi, hz, hs, hb⟩ := info_parts elCm.info
    have hlaw := Lib.run_append_nil_zeros (P := Try.prog) w 28 3 28 99 i _ .i64 .i64 Try.underlying28 Try.underlying3 hi hz n h (by omega) (by omega) (by rw [hb]; omega)
    have hc1 := grownCap_ge w n 0 99
    have hc2 := grownCap_le_maxLen w n 0 99 (by simp only [maxLen]; omega)
    generalize grownCap w n 0 99 = c at *
    have o1 : Own (w.drew.alloc (.cells (Builtin.zeroCells (Value.agg #[.int .i64 0, .int .i64 0, .int .i64 0, .slice none 0 0]).cells n ++ Builtin.zeroCells (Value.agg #[.int .i64 0, .int .i64 0, .int .i64 0, .slice none 0 0]).cells (c - n)) 99)) w.heap.size 99 4 (some ⟨w.heap.size, 0, none⟩) 0 c [] := by
      refine ⟨rfl, .inr ⟨w.heap.size, 0, _, rfl, Nat.le_refl _, heap_alloc_new w.drew _, Nat.zero_le _, hc2, ?_, fun k hk => by simp at hk⟩⟩
      simp only [Array.size_append, zeroCellsC_size]
      have : (Value.agg #[.int .i64 0, .int .i64 0, .int .i64 0, .slice none 0 0]).cells.size = 4 := rfl
      rw [this]; omega
    have z1 : Below w.heap.size w (w.drew.alloc (.cells (Builtin.zeroCells (Value.agg #[.int .i64 0, .int .i64 0, .int .i64 0, .slice none 0 0]).cells n ++ Builtin.zeroCells (Value.agg #[.int .i64 0, .int .i64 0, .int .i64 0, .slice none 0 0]).cells (c - n)) 99)) := (below_drewN (Below.refl _ _) 1).alloc (Nat.le_refl _) _
    generalize w.drew.alloc (.cells (Builtin.zeroCells (Value.agg #[.int .i64 0, .int .i64 0, .int .i64 0, .slice none 0 0]).cells n ++ Builtin.zeroCells (Value.agg #[.int .i64 0, .int .i64 0, .int .i64 0, .slice none 0 0]).cells (c - n)) 99) = W at *
    have HLAW := Lib.hid hlaw
    clear hlaw hi hz hs hb
    go_enter Try.func172, Try.ntmps172
    go_wp2_with (at_builtin; go_loud (refine Lib.wpList_append_run _ rfl (.tmp 20) (.tmp 21) _ _ rfl _ _ rfl rfl _ _ HLAW.out ?_))
    go_ret
    exact ⟨_, c, rfl, o1, z1⟩
/-- The first k rows, one behind the other. -/
def crTo (rs : List Cr) (k : Nat) : List Ce := (rs.take k).flatMap Cr.ts
theorem crTo_zero (rs : List Cr) : crTo rs 0 = [] := by simp [crTo]
theorem crTo_next {rs : List Cr} {r : Cr} {k : Nat} (h : rs[k]? = some r) : crTo rs (k + 1) = crTo rs k ++ r.ts := by
  obtain ⟨hk, rfl⟩ := List.getElem?_eq_some_iff.1 h
  unfold crTo
  rw [List.take_succ_eq_append_getElem hk, List.flatMap_append]
  simp
theorem crTo_end {rs : List Cr} {k : Nat} (h : rs.length ≤ k) : crTo rs k = rs.flatMap Cr.ts := by unfold crTo; rw [List.take_of_length_le h]
theorem crTo_le (rs : List Cr) (k : Nat) : (crTo rs k).length ≤ (rs.flatMap Cr.ts).length := by
  have : rs.flatMap Cr.ts = crTo rs k ++ (rs.drop k).flatMap Cr.ts := by
    unfold crTo
    rw [← List.flatMap_append, List.take_append_drop]
  rw [this, List.length_append]; omega
set_option maxHeartbeats 4000000 in
theorem concatC_any (B : Option Addr) (m c : Nat) (rs : List Cr) (w : World) (hx : SCC w B m rs) (hm : m ≤ 1000) (ht : (rs.flatMap Cr.ts).length ≤ 10000) :
    Calls Try.prog 87 #[.slice B m c] w fun e w' => ∃ v, e = .returned v ∧ HasR (cmds (rs.flatMap Cr.ts)) v w' ∧ Below w.heap.size w w' := by
  have HLE := Lib.hid (fun k => Nat.le_trans (crTo_le rs k) ht)
  have HEND : Hid (rs.flatMap Cr.ts = crTo rs m) := Lib.hid (crTo_end (by rw [hx.len]; exact Nat.le_refl _)).symm
  have HX := Lib.hid hx
  clear ht
  go_enter Try.func87, Try.ntmps87
  go_wp2_with fail
  go_loop [3, 11] (fun s i => ∃ k : Nat, k ≤ m ∧ i = .int .i64 (k : Int) ∧ s = .int .i64 ((crTo rs k).length : Int)) (fun _ i => m - (intOf i).toNat)
  case atStart => exact ⟨0, Nat.zero_le _, rfl, by simp [crTo_zero]⟩
  case round =>
    obtain ⟨k, hk, rfl, rfl⟩ := hrel
    by_cases hlt : k < m
    · obtain ⟨t, bb, off, HT, htm, rfl, hbl, e0, hrow⟩ := hx.pick hlt
      have HN : Hid ((crTo rs (k + 1)).length = (crTo rs k).length + t.ts.length) := Lib.hid (by rw [crTo_next HT.out]; simp)
      have hle := HLE.out (k + 1)
      rw [HN.out] at hle
      have i1 : (0 : Int) ≤ (k : Int) := by omega
      have i2 : (k : Int) < (m : Int) := by omega
      have i3 : ¬ (((crTo rs k).length : Int) + (t.ts.length : Int) < 0) := by omega
      clear hrow htm
      go_wp2_with fail
      go_round
      case rel => exact ⟨k + 1, by omega, by go_num, by rw [HN.out]; go_num⟩
      case measure => simp [intOf]; omega
    · obtain rfl : k = m := by omega
      have hle := HLE.out k
      go_wp2_with fail
      refine (growC_any (crTo rs k).length w (by omega)).mono ?_
      rintro e W1 ⟨A1, c1, rfl, o1, z1⟩
      go_wp2_with fail
      go_loopw [6, 27] (fun v i wr => ∃ (j : Nat) (D : Option Addr) (cd : Nat), j ≤ k ∧ i = .int .i64 (j : Int) ∧ v = .slice D (crTo rs j).length cd ∧ Own wr w.heap.size 99 4 D (crTo rs j).length cd ((crTo rs j).flatMap Ce.cells) ∧ Below w.heap.size w wr) (fun _ i _ => k - (intOf i).toNat)
      case atStart => exact ⟨0, A1, c1, Nat.zero_le _, rfl, by simp [crTo_zero], by rw [crTo_zero]; exact o1, z1⟩
      case round =>
        obtain ⟨j, D, cd, hj, rfl, rfl, ho, hz⟩ := hrel
        clear o1 z1
        by_cases hjl : j < k
        · obtain ⟨t, bb, off, HT, htm, rfl, hbl, e0, hrow⟩ := (hx.below hz).pick hjl
          have HN := Lib.hid (crTo_next HT.out)
          have hle2 : (crTo rs j).length + t.ts.length ≤ 10000 := by have := HLE.out (j + 1); rw [HN.out, List.length_append] at this; exact this
          have i1 : (0 : Int) ≤ (j : Int) := by omega
          have i2 : (j : Int) < (k : Int) := by omega
          go_wp2_with (at_builtin; refine wpList_append_Own rfl (.tmp 31) (.tmp 32) rfl elCm (lo := w.heap.size) rfl ho rfl hrow.1 (Ce.one t.ts) (by omega) (by simp only [maxLen]; omega) hz.size ?_; intro A2 c2 w2 ho2 hg2 _)
          have hz2 := ho.below_of hz hg2 hz.size
          have ho3 : Own w2 w.heap.size 99 4 A2 (crTo rs (j + 1)).length c2 ((crTo rs (j + 1)).flatMap Ce.cells) := by
            rw [HN.out, List.length_append, List.flatMap_append]
            exact ho2
          have HL : Hid ((crTo rs j).length + t.ts.length = (crTo rs (j + 1)).length) := Lib.hid (by rw [HN.out, List.length_append])
          clear ho2
          go_wp2_with fail
          go_roundw
          case rel => exact ⟨j + 1, A2, c2, by omega, by go_num, by rw [← HL.out], ho3, hz2⟩
          case measure => simp [intOf]; omega
        · obtain rfl : j = k := by omega
          go_wp2_with fail
          go_ret
          rw [HEND.out]
          refine ⟨_, rfl, ⟨D, cd, crTo rs j, rfl, rfl, ho.rd, fun t ht => ?_⟩, hz⟩
          rw [← HEND.out] at ht
          obtain ⟨r, hr, htr⟩ := List.mem_flatMap.1 ht
          exact ((HX.out.2 r hr).2 t htr).below hz
end Go.Proofs.Ytfheepjfpgiaoaa

/-
  Contracts of impl's validCommands and ValidWhile.
-/
namespace Go.Proofs.Ytfheepjfpgiaoaa
open Go.RowKit

theorem flat_cut {α : Type} {f : α → List Value} {s : Nat} (hf : ∀ a, (f a).length = s) (rs : List α) (i j : Nat) : (cutL rs i j).flatMap f = ((rs.flatMap f).take (j * s)).drop (i * s) := by
  have ht : ∀ (rs : List α) (j : Nat), (rs.take j).flatMap f = (rs.flatMap f).take (j * s) := by
    intro rs
    induction rs with
    | nil => intro j; simp
    | cons r t ih =>
      intro j
      cases j with
      | zero => simp
      | succ j =>
        rw [List.take_succ_cons, List.flatMap_cons, List.flatMap_cons, ih, List.take_append, hf, Nat.succ_mul, Nat.add_sub_cancel, List.take_of_length_le (l := f r) (by rw [hf]; omega)]
  have hd : ∀ (rs : List α) (i : Nat), (rs.drop i).flatMap f = (rs.flatMap f).drop (i * s) := by
    intro rs
    induction rs with
    | nil => intro i; simp
    | cons r t ih =>
      intro i
      cases i with
      | zero => simp
      | succ i =>
        rw [List.drop_succ_cons, List.flatMap_cons, ih, List.drop_append, hf, Nat.succ_mul, Nat.add_sub_cancel, show (f r).drop (i * s + s) = [] from List.drop_eq_nil_iff.2 (by rw [hf]; omega), List.nil_append]
  unfold cutL
  rw [hd, ht]
theorem Rd.cutS {w : World} {s : Nat} {A A' : Option Addr} {n i j : Nat} {cs : List Value} (h : Rd w s A n cs) (hij : i ≤ j) (hj : j ≤ n) (hA : i < j → ∀ b off, A = some ⟨b, off, none⟩ → A' = some ⟨b, off + i * s, none⟩) : Rd w s A' (j - i) ((cs.take (j * s)).drop (i * s)) := by
  have hl := h.1
  have h1 : i * s ≤ j * s := Nat.mul_le_mul_right s hij
  have h2 : j * s ≤ n * s := Nat.mul_le_mul_right s hj
  refine ⟨by rw [List.length_drop, List.length_take, Nat.sub_mul]; omega, fun hn => ?_⟩
  rw [List.length_drop, List.length_take] at hn
  obtain ⟨b, off, rfl, hc⟩ := h.2 (by omega)
  have hlt : i < j := by
    rcases Nat.lt_or_ge i j with h3 | h3
    · exact h3
    · have := Nat.mul_le_mul_right s h3; omega
  refine ⟨b, off + i * s, hA hlt b off rfl, fun k hk => ?_⟩
  rw [List.length_drop, List.length_take] at hk
  have := hc (i * s + k) (by omega)
  rw [Nat.add_assoc, this]
  simp [List.getElem_drop, List.getElem_take]
theorem cutL_mem {α : Type} {l : List α} {i j : Nat} {x : α} (h : x ∈ cutL l i j) : x ∈ l := List.mem_of_mem_take (List.mem_of_mem_drop h)
theorem cmds_cut (ts : List Ce) (i j : Nat) : cmds (cutL ts i j) = cutL (cmds ts) i j := by unfold cmds cutL; rw [List.map_drop, List.map_take]
theorem SC.cut {w : World} {A A' : Option Addr} {n i j : Nat} {ts : List Ce} (h : SC w A n ts) (hij : i ≤ j) (hj : j ≤ n) (hA : i < j → ∀ b off, A = some ⟨b, off, none⟩ → A' = some ⟨b, off + i * 4, none⟩) : SC w A' (j - i) (cutL ts i j) :=
  ⟨by rw [flat_cut Ce.cells_len]; exact h.1.cutS hij hj hA, fun t ht => h.2 t (cutL_mem ht)⟩
theorem validC_ex {c : Cmd} {r : List Cmd} (h : isEx c.e = false) : validC (c :: r) = false := by rw [validC_cons, h]; rfl
theorem validC_set {c : Cmd} {r : List Cmd} (h : isEx c.e = true) (hk : c.k = 0) : validC (c :: r) = (inB c.v 0 5 && (c.l == 0 && validC r)) := by rw [validC_cons, h, if_pos hk, Bool.true_and]
theorem validC_wh {c : Cmd} {r : List Cmd} (h : isEx c.e = true) (hk : c.k = 1) : validC (c :: r) = (c.v == 0 && (inB c.l 0 r.length && (validC (r.take c.l.toNat) && validC (r.drop c.l.toNat)))) := by rw [validC_cons, h, if_neg (by omega), if_pos hk, Bool.true_and]
theorem validC_no {c : Cmd} {r : List Cmd} (h0 : c.k ≠ 0) (h1 : c.k ≠ 1) : validC (c :: r) = false := by rw [validC_cons, if_neg h0, if_neg h1, Bool.and_false]
set_option maxRecDepth 100000 in
set_option maxHeartbeats 8000000 in
theorem validCommands_any : ∀ (n : Nat) (A : Option Addr) (c : Nat) (ts : List Ce) (w : World), SC w A n ts → n ≤ 1048576 → n ≤ c → (∀ t ∈ ts, t.e.length ≤ 1048576) →
    Calls Try.prog 152 #[.slice A n c] w fun e w' => e = .returned (.bool (validC (cmds ts))) ∧ Below w.heap.size w w' := by
  intro n
  induction n using Nat.strongRecOn with
  | _ n ih =>
  intro A c ts w hx hn hnc hrows
  have HL := Lib.hid hx.len
  have HRW := Lib.hid hrows
  have HCL : Hid ((cmds ts).length = n) := Lib.hid (by rw [cmds_len]; exact hx.len)
  have IH : Hid (∀ (m : Nat) (A' : Option Addr) (c' : Nat) (us : List Ce) (w' : World), m < n → SC w' A' m us → m ≤ c' → (∀ t ∈ us, t.e.length ≤ 1048576) → Calls Try.prog 152 #[.slice A' m c'] w' fun e w'' => e = .returned (.bool (validC (cmds us))) ∧ Below w'.heap.size w' w'') :=
    Lib.hid (fun m A' c' us w' h1 h2 h3 h4 => ih m h1 A' c' us w' h2 (by omega) h3 h4)
  have hsa : cutL (cmds ts) 0 n = cmds ts := by rw [← HCL.out]; exact cutL_all _
  clear ih hrows
  go_enter Try.func152, Try.ntmps152
  go_wp2_with fail
  go_loopw [3] (fun s3 wr => ∃ t : Nat, t ≤ n ∧ s3 = .int .i64 (t : Int) ∧ Hid (validC (cmds ts) = validC (cutL (cmds ts) t n)) ∧ Below w.heap.size w wr) (fun s3 _ => n - (intOf s3).toNat)
  case atStart => exact ⟨0, Nat.zero_le _, rfl, Lib.hid (by rw [hsa]), Below.refl _ _⟩
  case round =>
    obtain ⟨t, htj, rfl, HV, zr⟩ := hrel
    by_cases hlt : t < n
    rotate_left
    · have hl2 : ¬ (t : Int) < (n : Int) := by omega
      have HE : Hid (validC (cmds ts) = true) := Lib.hid (by rw [HV.out, show t = n by omega, cutL_self]; rfl)
      go_wp2_with fail
      go_ret
      exact ⟨ret_bool HE.out.symm, zr⟩
    have hl2 : (t : Int) < (n : Int) := by omega
    obtain ⟨r, b, off, HR, hrm, rfl, hbl, q0, q1, q2, q3, hre⟩ := (hx.below zr).pick (k := t) hlt
    have hrl := HRW.out r hrm
    have HC : Hid ((cmds ts)[t]? = some r.cmd) := Lib.hid (by unfold cmds; rw [List.getElem?_map, HR.out]; rfl)
    have HSC := Lib.hid (cutL_cons HC.out hlt)
    obtain ⟨rk, rv, rl, rA, rc, re⟩ := r
    dsimp only [Ce.cmd] at q0 q1 q2 q3 hre hrl HSC
    clear hrm hsa
    obtain ⟨W1, hW_⟩ : ∃ W_, W_ = wr.alloc (.cells #[.int .i64 rk, .int .i64 rv, .int .i64 rl, .slice rA re.length rc] 99) := ⟨_, rfl⟩
    have b1 : Blk W1 wr.heap.size 99 #[.int .i64 rk, .int .i64 rv, .int .i64 rl, .slice rA re.length rc] := by rw [hW_]; exact Blk.new wr _ _
    have z1 : Below wr.heap.size wr W1 := by rw [hW_]; exact (Below.refl _ _).alloc (Nat.le_refl _) _
    have HW1 := Lib.hid hW_
    clear hW_
    have y1 := zr.trans (z1.mono zr.size)
    have i1 : (0 : Int) ≤ (t : Int) := by omega
    have x0 : W1.cell? ⟨wr.heap.size, 0, none⟩ = some (.int .i64 rk) := b1.cell 0
    have x1 : W1.cell? ⟨wr.heap.size, 1, none⟩ = some (.int .i64 rv) := b1.cell 1
    have x2 : W1.cell? ⟨wr.heap.size, 2, none⟩ = some (.int .i64 rl) := b1.cell 2
    have x3 : W1.cell? ⟨wr.heap.size, 3, none⟩ = some (.slice rA re.length rc) := b1.cell 3
    have HVE := Lib.hid (validExpr_any rA re.length rc re W1 (hre.below z1) (by omega))
    go_upto_region 5 with fail
    rw [← HW1.out]
    clear q0 q1 q2 q3 i1 hre
    cases he : isEx re with
    | false =>
      have HF : Hid (validC (cmds ts) = false) := Lib.hid (by rw [HV.out, HSC.out, validC_ex he])
      rw [he] at HVE
      clear he
      go_wp2_with (go_at_call 83; refine HVE.out.mono ?_; rintro e W2 ⟨rfl, z2⟩; have HZ2 := Lib.hid (y1.trans (z2.mono y1.size)))
      go_ret
      exact ⟨ret_bool HF.out.symm, HZ2.out⟩
    | true =>
      have HEX := Lib.hid he
      rw [he] at HVE
      clear he
      go_wp2_with fail
      refine HVE.out.mono ?_
      rintro e W2 ⟨rfl, z2⟩
      have y2 := y1.trans (z2.mono y1.size)
      have b2 := b1.below' z2
      clear x0 x1 x2 x3 HVE
      have x0 : W2.cell? ⟨wr.heap.size, 0, none⟩ = some (.int .i64 rk) := b2.cell 0
      have x1 : W2.cell? ⟨wr.heap.size, 1, none⟩ = some (.int .i64 rv) := b2.cell 1
      have x2 : W2.cell? ⟨wr.heap.size, 2, none⟩ = some (.int .i64 rl) := b2.cell 2
      have x3 : W2.cell? ⟨wr.heap.size, 3, none⟩ = some (.slice rA re.length rc) := b2.cell 3
      obtain ⟨t1, ht1⟩ : ∃ t1 : Nat, t1 = t + 1 := ⟨_, rfl⟩
      rw [← ht1] at HSC
      have w3 : IntKind.i64.wrap ((t : Int) + 1) = (t1 : Int) := by rw [show ((t : Int) + 1) = (t1 : Int) by omega]; exact IntWalk.i64_in _ (by omega)
      by_cases h0 : rk = 0
      · have e0 : (rk == 0) = true := by simpa using h0
        have HVS : Hid (validC (cmds ts) = (inB rv 0 5 && (rl == 0 && validC (cutL (cmds ts) t1 n)))) := Lib.hid (by rw [HV.out, HSC.out, validC_set HEX.out h0])
        clear h0
        cases hv : inB rv 0 5 with
        | false =>
          have HF : Hid (validC (cmds ts) = false) := Lib.hid (by rw [HVS.out, hv]; rfl)
          have HVV := Lib.hid hv
          clear hv
          go_wp2_with (go_at_call 84; refine (isVar_any rv _).mono ?_; rintro e w' ⟨rfl, rfl⟩; rw [HVV.out])
          go_ret
          exact ⟨ret_bool HF.out.symm, y2⟩
        | true =>
          have HVV := Lib.hid hv
          by_cases hl0 : rl = 0
          · have e1 : (rl != 0) = false := by simp [hl0]
            have HF : Hid (validC (cmds ts) = validC (cutL (cmds ts) t1 n)) := Lib.hid (by rw [HVS.out, hv, hl0]; rfl)
            clear hv hl0
            go_wp2_with (go_at_call 84; refine (isVar_any rv _).mono ?_; rintro e w' ⟨rfl, rfl⟩; rw [HVV.out])
            go_roundw
            case rel => exact ⟨t1, by omega, by go_num, HF, y2⟩
            case measure => (simp [intOf] <;> omega)
          · have e1 : (rl != 0) = true := by simp [hl0]
            have HF : Hid (validC (cmds ts) = false) := Lib.hid (by rw [HVS.out, hv]; simp [hl0])
            clear hv hl0
            go_wp2_with (go_at_call 84; refine (isVar_any rv _).mono ?_; rintro e w' ⟨rfl, rfl⟩; rw [HVV.out])
            go_ret
            exact ⟨ret_bool HF.out.symm, y2⟩
      have e0 : (rk == 0) = false := by simpa using h0
      by_cases h1 : rk = 1
      rotate_left
      · have e1 : (rk == 1) = false := by simpa using h1
        have HF : Hid (validC (cmds ts) = false) := Lib.hid (by rw [HV.out, HSC.out, validC_no h0 h1])
        clear h0 h1
        go_wp2_with fail
        go_ret
        exact ⟨ret_bool HF.out.symm, y2⟩
      have e1 : (rk == 1) = true := by simpa using h1
      have HVW : Hid (validC (cmds ts) = (rv == 0 && (inB rl 0 ((n : Int) - (t : Int) - 1) && (validC ((cutL (cmds ts) t1 n).take rl.toNat) && validC ((cutL (cmds ts) t1 n).drop rl.toNat))))) := Lib.hid (by
        rw [HV.out, HSC.out, validC_wh HEX.out h1, cutL_len (by rw [HCL.out]; exact Nat.le_refl _)]
        rw [show ((n - t1 : Nat) : Int) = (n : Int) - (t : Int) - 1 by omega])
      clear h0 h1
      by_cases hv0 : rv = 0
      rotate_left
      · have ev : (rv != 0) = true := by simp [hv0]
        have HF : Hid (validC (cmds ts) = false) := Lib.hid (by rw [HVW.out]; simp [hv0])
        clear hv0
        go_wp2_with fail
        go_ret
        exact ⟨ret_bool HF.out.symm, y2⟩
      have ev : (rv != 0) = false := by simp [hv0]
      have HV0 := Lib.hid hv0
      clear hv0
      have w1 : IntKind.i64.wrap ((n : Int) - (t : Int)) = (n : Int) - (t : Int) := IntWalk.i64_in _ (by omega)
      have w2 : IntKind.i64.wrap ((n : Int) - (t : Int) - 1) = (n : Int) - (t : Int) - 1 := IntWalk.i64_in _ (by omega)
      cases hin : inB rl 0 ((n : Int) - (t : Int) - 1) with
      | false =>
        have HF : Hid (validC (cmds ts) = false) := Lib.hid (by rw [HVW.out, hin, Bool.false_and, Bool.and_false])
        have HIN := Lib.hid hin
        clear hin
        go_wp2_with (go_at_call 109; refine (within_is HIN.out _).mono ?_; rintro e w' ⟨rfl, rfl⟩)
        go_ret
        exact ⟨ret_bool HF.out.symm, y2⟩
      | true =>
        have HIN := Lib.hid hin
        have hc := (inB_iff _ _ _).1 hin
        obtain ⟨B, hB⟩ : ∃ B : Nat, rl = (B : Int) := ⟨rl.toNat, by omega⟩
        obtain ⟨e1', he1⟩ : ∃ e1' : Nat, e1' = t1 + B := ⟨_, rfl⟩
        obtain ⟨e0', he0⟩ : ∃ e0' : Nat, e0' = t + B := ⟨_, rfl⟩
        have he1j : e1' ≤ n := by omega
        have HVB : Hid (validC (cmds ts) = (validC (cmds (cutL ts t1 e1')) && validC (cutL (cmds ts) e1' n))) := Lib.hid (by
          rw [HVW.out, hin, HV0.out, hB, Int.toNat_natCast, cutL_take _ _ _ _ (by omega), cutL_drop, he1, cmds_cut]; rfl)
        have w4 : IntKind.i64.wrap ((t1 : Int) + rl) = (e1' : Int) := by rw [show ((t1 : Int) + rl) = (e1' : Int) by omega]; exact IntWalk.i64_in _ (by omega)
        have w6 : IntKind.i64.wrap ((t : Int) + rl) = (e0' : Int) := by rw [show ((t : Int) + rl) = (e0' : Int) by omega]; exact IntWalk.i64_in _ (by omega)
        have w7 : IntKind.i64.wrap ((e0' : Int) + 1) = (e1' : Int) := by rw [show ((e0' : Int) + 1) = (e1' : Int) by omega]; exact IntWalk.i64_in _ (by omega)
        have he01 : e0' + 1 = e1' ∧ t < e1' ∧ e0' < 1048576 := by omega
        have ht1e : t1 ≤ e1' := by omega
        have ht1n : e1' - t1 < n := by omega
        have hcap1 : ¬ (c : Int) < (e1' : Int) := by omega
        have hcap2 : ¬ (e1' : Int) < (t1 : Int) := by omega
        have HREC : Hid (∀ (A' : Option Addr) (c' : Nat), (t1 < e1' → A' = some ⟨b, off + t1 * 4, none⟩) → e1' - t1 ≤ c' → Calls Try.prog 152 #[.slice A' (e1' - t1) c'] W2 fun e w'' => e = .returned (.bool (validC (cmds (cutL ts t1 e1')))) ∧ Below W2.heap.size W2 w'') := Lib.hid (fun A' c' h1 h2 => IH.out (e1' - t1) A' c' (cutL ts t1 e1') W2 ht1n ((hx.below y2).cut ht1e he1j (fun h b' off' e => by cases e; exact h1 h)) h2 (fun t ht => HRW.out t (cutL_mem ht)))
        clear hin hc hB he1 he0 ht1
        rcases Nat.lt_or_ge t1 c with hct | hct
        · have hct2 : (t1 : Int) < (c : Int) := by omega
          cases hb : validC (cmds (cutL ts t1 e1')) with
          | false =>
            have HF : Hid (validC (cmds ts) = false) := Lib.hid (by rw [HVB.out, hb]; rfl)
            rw [hb] at HREC
            clear hb
            go_wp2_with (first | (go_at_call 109; refine (within_is HIN.out _).mono ?_; rintro e w' ⟨rfl, rfl⟩) | (go_at_call 152; refine (HREC.out _ _ (fun h => by first | rfl | omega) (by omega)).mono ?_; rintro e W3 ⟨rfl, z3⟩; have HZ3 := Lib.hid (y2.trans (z3.mono y2.size))))
            all_goals go_ret
            all_goals exact ⟨ret_bool HF.out.symm, HZ3.out⟩
          | true =>
            have HF : Hid (validC (cmds ts) = validC (cutL (cmds ts) e1' n)) := Lib.hid (by rw [HVB.out, hb]; rfl)
            rw [hb] at HREC
            clear hb
            go_wp2_with (first | (go_at_call 109; refine (within_is HIN.out _).mono ?_; rintro e w' ⟨rfl, rfl⟩) | (go_at_call 152; refine (HREC.out _ _ (fun h => by first | rfl | omega) (by omega)).mono ?_; rintro e W3 ⟨rfl, z3⟩; have HZ3 := Lib.hid (y2.trans (z3.mono y2.size)); have x2' : W3.cell? ⟨wr.heap.size, 2, none⟩ = some (.int .i64 rl) := (b2.below' z3).cell 2))
            all_goals go_roundw
            all_goals first | exact ⟨e1', by omega, by go_num, HF, HZ3.out⟩ | (simp [intOf] <;> omega)
        · obtain rfl : c = t1 := by omega
          cases hb : validC (cmds (cutL ts c e1')) with
          | false =>
            have HF : Hid (validC (cmds ts) = false) := Lib.hid (by rw [HVB.out, hb]; rfl)
            rw [hb] at HREC
            clear hb
            go_wp2_with (first | (go_at_call 109; refine (within_is HIN.out _).mono ?_; rintro e w' ⟨rfl, rfl⟩) | (go_at_call 152; refine (HREC.out _ _ (fun h => by first | rfl | omega) (by omega)).mono ?_; rintro e W3 ⟨rfl, z3⟩; have HZ3 := Lib.hid (y2.trans (z3.mono y2.size))))
            all_goals go_ret
            all_goals exact ⟨ret_bool HF.out.symm, HZ3.out⟩
          | true =>
            have HF : Hid (validC (cmds ts) = validC (cutL (cmds ts) e1' n)) := Lib.hid (by rw [HVB.out, hb]; rfl)
            rw [hb] at HREC
            clear hb
            go_wp2_with (first | (go_at_call 109; refine (within_is HIN.out _).mono ?_; rintro e w' ⟨rfl, rfl⟩) | (go_at_call 152; refine (HREC.out _ _ (fun h => by first | rfl | omega) (by omega)).mono ?_; rintro e W3 ⟨rfl, z3⟩; have HZ3 := Lib.hid (y2.trans (z3.mono y2.size)); have x2' : W3.cell? ⟨wr.heap.size, 2, none⟩ = some (.int .i64 rl) := (b2.below' z3).cell 2))
            all_goals go_roundw
            all_goals first | exact ⟨e1', by omega, by go_num, HF, HZ3.out⟩ | (simp [intOf] <;> omega)
set_option maxHeartbeats 1000000 in
theorem validWhile_any (A : Option Addr) (n c : Nat) (ts : List Ce) (w : World) (hx : SC w A n ts) (hn : n ≤ 1048576) (hnc : n ≤ c) (hr : ∀ t ∈ ts, t.e.length ≤ 1048576) :
    Calls Try.prog 69 #[.slice A n c] w fun e w' => e = .returned (.bool (validWh (cmds ts))) ∧ Below w.heap.size w w' := by
  have hl : (cmds ts).length = n := by rw [cmds_len]; exact hx.len
  have HV := Lib.hid (validCommands_any n A c ts w hx hn hnc hr)
  by_cases h : n ≤ 80
  · have i1 : (n : Int) ≤ 80 := by omega
    have HR : Hid (validWh (cmds ts) = validC (cmds ts)) := Lib.hid (by unfold validWh; rw [hl, decide_eq_true h, Bool.true_and])
    obtain ⟨b, hb⟩ : ∃ b, validC (cmds ts) = b := ⟨_, rfl⟩
    rw [hb] at HV HR
    clear hb hl
    go_enter Try.func69, Try.ntmps69
    go_wp2_with (go_at_call 152; refine HV.out.mono ?_; rintro e W2 ⟨rfl, z2⟩; have HZ2 := Lib.hid z2)
    go_ret
    exact ⟨ret_bool HR.out.symm, HZ2.out⟩
  · have i1 : ¬ (n : Int) ≤ 80 := by omega
    have HR : Hid (validWh (cmds ts) = false) := Lib.hid (by unfold validWh; rw [hl, decide_eq_false h, Bool.false_and])
    clear hl
    go_enter Try.func69, Try.ntmps69
    go_wp2_with fail
    go_ret
    exact ⟨ret_bool HR.out.symm, Below.refl _ _⟩
end Go.Proofs.Ytfheepjfpgiaoaa
