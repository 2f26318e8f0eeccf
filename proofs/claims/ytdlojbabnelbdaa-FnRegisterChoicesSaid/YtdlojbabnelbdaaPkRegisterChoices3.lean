/-
  Contracts of impl.registersCode, MoveRegister, ClearRegister and CopyRegister for registers that are different.
-/
import Derived.Test.YtdlojbabnelbdaaPbStartI0
import Derived.Test.YtdlojbabnelbdaaPbStartI1
import Derived.Test.YtdlojbabnelbdaaPbStartI6
import Derived.Test.YtdlojbabnelbdaaPkRegisterChoices0
import Derived.Test.YtdlojbabnelbdaaPkRegisterChoices1
import Derived.Test.YtdlojbabnelbdaaPkRegisterChoices2
import Derived.Deep.DeepCutAuto
import Derived.BigRegion
import Derived.BigQuiet
import Derived.Lib.VarintBits
namespace Go.Proofs.Ytdlojbabnelbdaa
open Go.RowKit

theorem rises_three {a b c : Int} (h1 : a ≠ b) (h2 : a ≠ c) (h3 : b ≠ c) : risesB (insTo [a, b, c] 3) = true := by
  unfold risesB
  rw [decide_eq_true_iff]
  have e : insTo [a, b, c] 3 = sinkI (sinkI [a, b, c] 1) 2 := rfl
  rw [e]
  have e1 : sinkI [a, b, c] 1 = if b < a then [b, a, c] else [a, b, c] := by
    unfold sinkI
    simp only [List.getD_cons_zero, List.getD_cons_succ, Nat.zero_add]
    split <;> rfl
  rw [e1]
  by_cases h : b < a
  · rw [if_pos h]
    unfold sinkI
    by_cases k : c < a
    · rw [if_pos (by simpa using k)]
      unfold sinkI
      have e2 : swapI [b, a, c] (1 + 1) = [b, c, a] := rfl
      rw [e2]
      by_cases l : c < b
      · rw [if_pos (by simpa using l)]
        show List.Pairwise _ [c, b, a]
        simp; omega
      · rw [if_neg (by simpa using l)]
        simp; omega
    · rw [if_neg (by simpa using k)]
      simp; omega
  · rw [if_neg h]
    unfold sinkI
    by_cases k : c < b
    · rw [if_pos (by simpa using k)]
      unfold sinkI
      have e2 : swapI [a, b, c] (1 + 1) = [a, c, b] := rfl
      rw [e2]
      by_cases l : c < a
      · rw [if_pos (by simpa using l)]
        show List.Pairwise _ [c, a, b]
        simp; omega
      · rw [if_neg (by simpa using l)]
        simp; omega
    · rw [if_neg (by simpa using k)]
      simp; omega
theorem rises_one (a : Int) : risesB (insTo [a] 1) = true := by unfold risesB insTo; simp
set_option maxHeartbeats 1000000 in
theorem registersCode_ok (A : Option Addr) (n c : Nat) (xs : List Int) (w : World) (hx : SI w A n xs) (hn : n ≤ 3) (hr : ∀ x ∈ xs, 0 ≤ x ∧ x ≤ 23) (hs : risesB (insTo xs n) = true) :
    Calls Try.prog 96 #[.slice A n c] w fun e w' => e = .returned (.int .i64 0) ∧ Below w.heap.size w w' := by
  have HL : Hid (xs.length = n) := Lib.hid hx.len
  have ha : allIn xs 0 23 = true := by
    unfold allIn
    rw [List.all_eq_true]
    intro x h
    rw [inB_iff]
    have := hr x h
    omega
  have HA := Lib.hid (by have h := allWithin_any A n c xs 0 23 w hx (by omega); rw [ha] at h; exact h : Calls Try.prog 86 #[.slice A n c, .int .i64 0, .int .i64 23] w fun e w' => e = .returned (.bool true) ∧ w = w')
  have HSL := Lib.hid (sortList_few A n c xs w hx hn)
  have HS := Lib.hid hs
  clear ha hx hr hs
  go_enter Try.func96, Try.ntmps96
  go_wp2_with (go_at_call 86; refine HA.out.mono ?_; rintro e w' ⟨rfl, rfl⟩)
  refine HSL.out.mono ?_
  rintro e w1 ⟨D, d, rfl, o1, z1⟩
  have HR := Lib.hid (by have h := rising_any D (insTo xs n).length d (insTo xs n) w1 o1.rd (by rw [insTo_len, HL.out]; omega); rw [HS.out] at h; exact h : Calls Try.prog 182 #[.slice D (insTo xs n).length d] w1 fun e w' => e = .returned (.bool true) ∧ ∃ q, w' = w1.drewN q)
  have HZ := Lib.hid z1
  clear o1 z1
  generalize (insTo xs n).length = N at *
  go_wp2_with fail
  refine HR.out.mono ?_
  rintro e w2 ⟨rfl, q, rfl⟩
  go_wp2_with fail
  go_ret
  exact ⟨rfl, below_drewN HZ.out _⟩
theorem si_lit {w : World} {g : Nat} {xs : List Int} (h : Blk w g 2 (ints xs).toArray) : SI w (some ⟨g, 0, none⟩) xs.length xs := by
  refine ⟨by rw [length_ints]; omega, fun _ => ⟨g, 0, rfl, fun k hk => ?_⟩⟩
  rw [h.cell (0 + k)]
  simp [hk]
/-- A new program, and a code. -/
def NewQ2 (w : World) (rs : List R4) (e : Ending) (w' : World) : Prop :=
  ∃ A c, e = .returned (.tuple #[.slice A rs.length c, .int .i64 0]) ∧ Own w' w.heap.size 133 4 A rs.length c (cells4 rs) ∧ Below w.heap.size w w'
set_option maxRecDepth 100000 in
set_option maxHeartbeats 4000000 in
theorem moveTwo_any (a b c : Int) (T : Option Addr) (k : Nat) (w : World) (ht : SI w T 2 [b, c]) (h : Abc a b c) :
    Calls Try.prog 23 #[.int .i64 a, .slice T 2 k] w (NewQ2 w (moveL a [b, c])) := by
  have HT := Lib.hid ht
  have HH := Lib.hid h
  clear ht h
  go_enter Try.func23, Try.ntmps23
  go_wp2_with (at_builtin; refine wpList_append_Own rfl (.tmp 11) (.tmp 12) rfl elI (lo := w.heap.size) rfl (Own.lit w #[.int .i64 a] 2 1 1 w.heap.size rfl (by simp [maxLen]) (Nat.le_refl _)) rfl (SI.alloc HT.out _) (ints_one _) (by omega) (by simp only [maxLen]; omega) (by simp) ?_; intro A2 c2 w2 o2 g2 _)
  have z2 : Below w.heap.size w w2 := (Own.lit w #[.int .i64 a] 2 1 1 w.heap.size rfl (by simp [maxLen]) (Nat.le_refl _)).below_of ((Below.refl _ _).alloc (Nat.le_refl _) _) g2 (by simp)
  have o3 : SI w2 A2 3 [a, b, c] := o2.rd
  have hh := HH.out
  have HRC := Lib.hid (registersCode_ok A2 3 c2 [a, b, c] w2 o3 (by omega) (by
    intro x hx
    have := hh.ra; have := hh.rb; have := hh.rc
    simp only [List.mem_cons, List.not_mem_nil, or_false] at hx
    rcases hx with rfl | rfl | rfl <;> omega) (rises_three hh.ab hh.ac hh.bc))
  have HZ := Lib.hid z2
  clear o2 g2 z2 o3 hh
  refine HRC.out.mono ?_
  rintro e w3 ⟨rfl, z3⟩
  have HZ3 := Lib.hid (HZ.out.trans (z3.mono HZ.out.size))
  clear z3
  go_wp2_with fail
  refine (moveRegister_any a T 2 k [b, c] _ (HT.out.below HZ3.out) (by omega)).mono ?_
  rintro e w4 ⟨D, d, rfl, o4, z4⟩
  have HN : Hid (NewQ2 w (moveL a [b, c]) (.returned (.tuple #[.slice D (moveL a [b, c]).length d, .int .i64 0])) w4) := Lib.hid ⟨D, d, rfl, o4.mono HZ3.out.size, HZ3.out.trans (z4.mono HZ3.out.size)⟩
  clear o4 z4
  generalize (moveL a [b, c]).length = N at *
  go_wp2_with fail
  exact bodyPost_ret (v := .tuple #[.slice D N d, .int .i64 0]) (by simp [results, Try.results23, go_sem]) rfl HN.out
set_option maxRecDepth 100000 in
set_option maxHeartbeats 4000000 in
theorem moveNone_any (a : Int) (w : World) (h : 0 ≤ a ∧ a ≤ 23) :
    Calls Try.prog 23 #[.int .i64 a, .slice none 0 0] w (NewQ2 w (moveL a [])) := by
  have HH := Lib.hid h
  clear h
  go_enter Try.func23, Try.ntmps23
  go_wp2_with (at_builtin; refine wpList_append_Own rfl (.tmp 11) (.tmp 12) rfl elI (lo := w.heap.size) rfl (Own.lit w #[.int .i64 a] 2 1 1 w.heap.size rfl (by simp [maxLen]) (Nat.le_refl _)) rfl (SI.nil (w := w.alloc _)) (ints_one _) (by omega) (by simp only [maxLen]; omega) (by simp) ?_; intro A2 c2 w2 o2 g2 _)
  have z2 : Below w.heap.size w w2 := (Own.lit w #[.int .i64 a] 2 1 1 w.heap.size rfl (by simp [maxLen]) (Nat.le_refl _)).below_of ((Below.refl _ _).alloc (Nat.le_refl _) _) g2 (by simp)
  have o3 : SI w2 A2 1 [a] := o2.rd
  have hh := HH.out
  have HRC := Lib.hid (registersCode_ok A2 1 c2 [a] w2 o3 (by omega) (by
    intro x hx
    simp only [List.mem_cons, List.not_mem_nil, or_false] at hx
    subst hx; exact hh) (rises_one a))
  have HZ := Lib.hid z2
  clear o2 g2 z2 o3 hh
  refine HRC.out.mono ?_
  rintro e w3 ⟨rfl, z3⟩
  have HZ3 := Lib.hid (HZ.out.trans (z3.mono HZ.out.size))
  clear z3
  go_wp2_with fail
  refine (moveRegister_any a none 0 0 [] _ SI.nil (by omega)).mono ?_
  rintro e w4 ⟨D, d, rfl, o4, z4⟩
  have HN : Hid (NewQ2 w (moveL a []) (.returned (.tuple #[.slice D (moveL a []).length d, .int .i64 0])) w4) := Lib.hid ⟨D, d, rfl, o4.mono HZ3.out.size, HZ3.out.trans (z4.mono HZ3.out.size)⟩
  clear o4 z4
  generalize (moveL a []).length = N at *
  go_wp2_with fail
  exact bodyPost_ret (v := .tuple #[.slice D N d, .int .i64 0]) (by simp [results, Try.results23, go_sem]) rfl HN.out
set_option maxHeartbeats 4000000 in
theorem clearReg_any (a : Int) (w : World) (h : 0 ≤ a ∧ a ≤ 23) : Calls Try.prog 24 #[.int .i64 a] w (NewQ2 w (moveL a [])) := by
  have HM := Lib.hid (moveNone_any a w h)
  go_enter Try.func24, Try.ntmps24
  go_wp2_with fail
  refine HM.out.mono ?_
  rintro e w4 ⟨D, d, rfl, o4, z4⟩
  have HN : Hid (NewQ2 w (moveL a []) (.returned (.tuple #[.slice D (moveL a []).length d, .int .i64 0])) w4) := Lib.hid ⟨D, d, rfl, o4, z4⟩
  clear o4 z4
  generalize (moveL a []).length = N at *
  go_wp2_with fail
  exact bodyPost_ret (v := .tuple #[.slice D N d, .int .i64 0]) (by simp [results, Try.results24, go_sem]) rfl HN.out
set_option maxRecDepth 100000 in
set_option maxHeartbeats 4000000 in
theorem copyReg_any (a b c : Int) (w : World) (h : Abc a b c) :
    Calls Try.prog 22 #[.int .i64 a, .int .i64 b, .int .i64 c] w (NewQ2 w (joinP (moveL a [b, c]) (moveL c [a]))) := by
  have HH := Lib.hid h
  clear h
  obtain ⟨W1, hW_⟩ : ∃ W_, W_ = w.alloc (.cells #[.int .i64 a, .int .i64 b, .int .i64 c] 2) := ⟨_, rfl⟩
  have b1 : Blk W1 w.heap.size 2 #[.int .i64 a, .int .i64 b, .int .i64 c] := by rw [hW_]; exact Blk.new w _ _
  have z1 : Below w.heap.size w W1 := by rw [hW_]; exact (Below.refl _ _).alloc (Nat.le_refl _) _
  have HW1 := Lib.hid hW_
  clear hW_
  have s1 : SI W1 (some ⟨w.heap.size, 0, none⟩) 3 [a, b, c] := si_lit (xs := [a, b, c]) b1
  have hh := HH.out
  have HRC := Lib.hid (registersCode_ok _ 3 3 [a, b, c] W1 s1 (by omega) (by
    intro x hx
    have := hh.ra; have := hh.rb; have := hh.rc
    simp only [List.mem_cons, List.not_mem_nil, or_false] at hx
    rcases hx with rfl | rfl | rfl <;> omega) (rises_three hh.ab hh.ac hh.bc))
  have HZ1 := Lib.hid z1
  clear hh s1 b1 z1
  go_enter Try.func22, Try.ntmps22
  go_wp2_with fail
  rw [← HW1.out]
  clear HW1
  refine HRC.out.mono ?_
  rintro e w2 ⟨rfl, z2⟩
  have HZ2 := Lib.hid (HZ1.out.trans (z2.mono HZ1.out.size))
  obtain ⟨W3, hW_⟩ : ∃ W_, W_ = w2.alloc (.cells #[.int .i64 b, .int .i64 c] 2) := ⟨_, rfl⟩
  have b3 : Blk W3 w2.heap.size 2 #[.int .i64 b, .int .i64 c] := by rw [hW_]; exact Blk.new w2 _ _
  have z3 : Below w2.heap.size w2 W3 := by rw [hW_]; exact (Below.refl _ _).alloc (Nat.le_refl _) _
  have HW3 := Lib.hid hW_
  clear hW_
  have HZ3 := Lib.hid (HZ2.out.trans (z3.mono HZ2.out.size))
  have HM1 := Lib.hid (moveRegister_any a (some ⟨w2.heap.size, 0, none⟩) 2 2 [b, c] W3 (si_lit (xs := [b, c]) b3) (by omega))
  clear z2 z3 b3
  go_wp2_with fail
  rw [← HW3.out]
  clear HW3
  refine HM1.out.mono ?_
  rintro e w4 ⟨D, d, rfl, o4, z4⟩
  have HO4 := Lib.hid o4
  have HZ4 := Lib.hid (HZ3.out.trans (z4.mono HZ3.out.size))
  obtain ⟨W5, hW_⟩ : ∃ W_, W_ = w4.alloc (.cells #[.int .i64 a] 2) := ⟨_, rfl⟩
  have b5 : Blk W5 w4.heap.size 2 #[.int .i64 a] := by rw [hW_]; exact Blk.new w4 _ _
  have z5 : Below w4.heap.size w4 W5 := by rw [hW_]; exact (Below.refl _ _).alloc (Nat.le_refl _) _
  have HW5 := Lib.hid hW_
  clear hW_
  have HZ5 := Lib.hid (HZ4.out.trans (z5.mono HZ4.out.size))
  have HO5 := Lib.hid (HO4.out.below z5)
  have HM2 := Lib.hid (moveRegister_any c (some ⟨w4.heap.size, 0, none⟩) 1 1 [a] W5 (si_lit (xs := [a]) b5) (by omega))
  clear z4 z5 b5 o4 HM1
  obtain ⟨N1, hN1⟩ : ∃ N, N = (moveL a [b, c]).length := ⟨_, rfl⟩
  rw [← hN1]
  have HN1 := Lib.hid hN1
  clear hN1
  go_wp2_with fail
  rw [← HW5.out]
  clear HW5
  refine HM2.out.mono ?_
  rintro e w6 ⟨E, f, rfl, o6, z6⟩
  have HO6 := Lib.hid o6
  have HZ6 := Lib.hid (HZ5.out.trans (z6.mono HZ5.out.size))
  have HO56 := Lib.hid (HO5.out.below z6)
  have HJ := Lib.hid (joinPrograms_any D E d f (moveL a [b, c]) (moveL c [a]) w6 HO56.out.rd HO6.out.rd (by rw [moveL_len]; simp) (by rw [moveL_len]; simp) (moveL_ok _ _ (by simp)) (moveL_ok _ _ (by simp)))
  rw [← HN1.out] at HJ
  obtain ⟨N2, hN2⟩ : ∃ N, N = (moveL c [a]).length := ⟨_, rfl⟩
  rw [← hN2] at HJ ⊢
  have HN2 := Lib.hid hN2
  clear hN2 o6 z6 HM2
  go_wp2_with fail
  refine HJ.out.mono ?_
  rintro e w7 ⟨g, rfl, hA⟩
  obtain ⟨F, h, k0, hg, o7, z7⟩ := hA.cell
  have HN : Hid (NewQ2 w (joinP (moveL a [b, c]) (moveL c [a])) (.returned (.tuple #[.slice F (joinP (moveL a [b, c]) (moveL c [a])).length h, .int .i64 0])) w7) := Lib.hid ⟨F, h, rfl, o7.mono HZ6.out.size, HZ6.out.trans (z7.mono HZ6.out.size)⟩
  clear o7 z7 hA
  generalize (joinP (moveL a [b, c]) (moveL c [a])).length = N at *
  go_wp2_with fail
  exact bodyPost_ret (v := .tuple #[.slice F N h, .int .i64 0]) (by simp [results, Try.results22, go_sem]) rfl HN.out
/-! ### The programs as they stand -/
theorem moveL_none (a : Int) : moveL a [] = clearP a := rfl
theorem moveL_two (a b c : Int) : moveL a [b, c] = moveP a b c := rfl
theorem joinP_copy (a b c : Int) : joinP (moveL a [b, c]) (moveL c [a]) = copyP a b c := rfl
end Go.Proofs.Ytdlojbabnelbdaa

/-
  All blocks but one are as they were (the same words as in Src, for seats without a source).
-/
namespace Go.Proofs.Ytdlojbabnelbdaa
open Go.RowKit

/-- All blocks but b are as they were. -/
structure Kb (b : Nat) (W W' : World) : Prop where
  os : W'.os = W.os
  tape : W'.tape = W.tape
  output : W'.output = W.output
  size : W.heap.size ≤ W'.heap.size
  block : ∀ k, k < W.heap.size → k ≠ b → W'.heap[k]? = W.heap[k]?
section
variable {b : Nat} {a W W' : World}
theorem Kb.refl (b : Nat) (W : World) : Kb b W W := ⟨rfl, rfl, rfl, Nat.le_refl _, fun _ _ _ => rfl⟩
theorem Kb.drewN (h : Kb b a W) (n : Nat) : Kb b a (W.drewN n) := ⟨h.os, h.tape, h.output, h.size, h.block⟩
theorem Kb.alloc (h : Kb b a W) (o : Obj) : Kb b a (W.alloc o) := ⟨h.os, h.tape, h.output, Nat.le_trans h.size (by simp), fun k hk hy => (Below.heap_alloc W o k (by have := h.size; omega)).trans (h.block k hk hy)⟩
theorem Kb.trans (h : Kb b a W) (z : Kb b W W') : Kb b a W' := ⟨z.os.trans h.os, z.tape.trans h.tape, z.output.trans h.output, Nat.le_trans h.size z.size, fun k hk hy => (z.block k (by have := h.size; omega) hy).trans (h.block k hk hy)⟩
theorem Kb.set_ (h : Kb b a W) (o : Nat) (u : Value) : Kb b a (W.setCell ⟨b, o, none⟩ u) :=
  ⟨h.os, h.tape, h.output, by simpa [World.setCell] using h.size, fun k hk hy => (Below.heap_setCell W ⟨b, o, none⟩ u k hy).trans (h.block k hk hy)⟩
theorem Kb.blk_ {x : Nat} {t : TypeId} {cs : Array Value} (k : Kb b W W') (h : Blk W x t cs) (hn : x ≠ b) : Blk W' x t cs := (k.block x h.lt hn).trans h
theorem Kb.below {w : World} (k : Kb b W W') (h : Below w.heap.size w W) (hb : w.heap.size ≤ b) : Below w.heap.size w W' :=
  ⟨k.os.trans h.os, k.tape.trans h.tape, k.output.trans h.output, Nat.le_trans h.size k.size, fun x hx => (k.block x (by have := h.size; omega) (by omega)).trans (h.block x hx)⟩
theorem Kb.own {lo s n c : Nat} {e : TypeId} {A : Option Addr} {xs : List Value} (k : Kb b W W') (h : Own W lo e s A n c xs) (hn : blk A ≠ some b) : Own W' lo e s A n c xs :=
  h.kept fun x hx _ hlt => k.block x hlt (fun e => hn (by rw [← e]; exact hx))
end
theorem Kb.of_below {b : Nat} {w w' : World} (h : Below w.heap.size w w') : Kb b w w' := ⟨h.os, h.tape, h.output, h.size, fun k hk _ => h.block k hk⟩
theorem Kb.grown {b lo s n c : Nat} {a W W' : World} {e : TypeId} {E : Option Addr} {xs : List Value} (h : Kb b a W) (ho : Own W lo e s E n c xs) (hlo : a.heap.size ≤ lo) (hg : W.grownBy W' (blk E)) : Kb b a W' :=
  ⟨hg.os.trans h.os, hg.tape.trans h.tape, hg.output.trans h.output, Nat.le_trans h.size hg.size, fun k hk hy => (hg.block k (by have := h.size; omega) (fun e => by have := ho.blk_ge k e.symm; omega)).trans (h.block k hk hy)⟩
theorem Kb.own' {b lo s n c : Nat} {e : TypeId} {A : Option Addr} {xs : List Value} {W W' : World} (k : Kb b W W') (h : Own W lo e s A n c xs) (hb : b < lo) : Own W' lo e s A n c xs :=
  k.own h fun e => by have := h.blk_ge b e; omega
end Go.Proofs.Ytdlojbabnelbdaa

/-
  The reference's source of choices: next, pick, one.
-/
namespace Go.Proofs.Ytdlojbabnelbdaa
open Go.ChangeShapes Go.WideShapes Go.ChangeAt Go.RowKit Go.Joins Go.Deep

/-- A source in memory: bytes, a place of at most T, a seed. -/
def Src (b : Nat) (A : Option Addr) (n c T : Nat) (W : World) : Prop := ∃ (a : Nat) (s : Int), a ≤ T ∧ 0 ≤ s ∧ s ≤ 18446744073709551615 ∧ Blk W b 241 #[.slice A n c, .int .i64 (a : Int), .int .u64 s]
theorem Src.le {b : Nat} {A : Option Addr} {n c T T' : Nat} {W : World} (h : Src b A n c T W) (ht : T ≤ T') : Src b A n c T' W := by
  obtain ⟨a, s, h1, h2⟩ := h
  exact ⟨a, s, by omega, h2⟩
theorem Src.below {b : Nat} {A : Option Addr} {n c T : Nat} {W W' : World} (h : Src b A n c T W) (z : Below W.heap.size W W') : Src b A n c T W' := by
  obtain ⟨a, s, h1, h2, h3, h4⟩ := h
  exact ⟨a, s, h1, h2, h3, h4.below' z⟩
theorem Src.alloc {b : Nat} {A : Option Addr} {n c T : Nat} {W : World} (h : Src b A n c T W) (o : Obj) : Src b A n c T (W.alloc o) := by
  obtain ⟨a, s, h1, h2, h3, h4⟩ := h
  exact ⟨a, s, h1, h2, h3, h4.alloc o⟩
theorem Src.set_at {b : Nat} {A : Option Addr} {n c T k : Nat} {W : World} (h : Src b A n c T W) (hk : k ≠ b) (j : Nat) (u : Value) : Src b A n c T (W.setCell ⟨k, j, none⟩ u) := by
  obtain ⟨a, s, h1, h2, h3, h4⟩ := h
  exact ⟨a, s, h1, h2, h3, (Below.heap_setCell W ⟨k, j, none⟩ u b (by dsimp only; omega)).trans h4⟩
/-- A number from 0 to hi - 1 was chosen. -/
def Got (b : Nat) (A : Option Addr) (n c T : Nat) (hi : Int) (w : World) (e : Ending) (w' : World) : Prop :=
  ∃ x : Int, e = .returned (.int .i64 x) ∧ 0 ≤ x ∧ x < hi ∧ Src b A n c T w' ∧ Kb b w w'
theorem u64_range (x : Int) : 0 ≤ IntKind.u64.wrap x ∧ IntKind.u64.wrap x ≤ 18446744073709551615 := by
  rw [IntKind.wrap_u64]; omega
theorem and255 (x : Int) (h0 : 0 ≤ x) (h1 : x < 18446744073709551616) : 0 ≤ bits BinOp.and IntKind.u64 x 255 ∧ bits BinOp.and IntKind.u64 x 255 < 256 := by
  have h := bits_mask .u64 64 (by decide) wraps_u64 8 (by decide) x h0 (by omega)
  have e : bits BinOp.and IntKind.u64 x 255 = x % 256 := by simpa using h
  rw [e]
  omega
theorem next_low (s : Int) : 0 ≤ wrap64 (bits BinOp.and IntKind.u64 (IntKind.u64.wrap s / 1099511627776) 255) ∧ wrap64 (bits BinOp.and IntKind.u64 (IntKind.u64.wrap s / 1099511627776) 255) < 256 := by
  obtain ⟨h1, h2⟩ := u64_range s
  obtain ⟨h3, h4⟩ := and255 (IntKind.u64.wrap s / 1099511627776) (by omega) (by omega)
  rw [IntWalk.wrap64_in _ (by constructor <;> omega)]
  exact ⟨h3, h4⟩
theorem next_done {b a n c T : Nat} {A : Option Addr} {s s' x : Int} {w w1 : World} {j k : Nat} (hb : Blk w b 241 #[.slice A n c, .int .i64 (a : Int), .int .u64 s]) (ha : a ≤ T) (hx0 : 0 ≤ x) (hx1 : x < 256)
    (hw : w1 = (((w.drewN j).setCell ⟨b, 1, none⟩ (.int .i64 ((a : Int) + 1))).setCell ⟨b, 2, none⟩ (.int .u64 (IntKind.u64.wrap s'))).drewN k) : Got b A n c (T + 1) 256 w (.returned (.int .i64 x)) w1 := by
  subst hw
  obtain ⟨h1, h2⟩ := u64_range s'
  exact ⟨x, rfl, hx0, hx1, ⟨a + 1, _, by omega, h1, h2, ((hb.drewN j).set_ 1 (.int .i64 ((a : Int) + 1))).set_ 2 (.int .u64 (IntKind.u64.wrap s'))⟩, ((((Kb.refl b w).drewN j).set_ 1 _).set_ 2 _).drewN k⟩
set_option maxHeartbeats 2000000 in
theorem next_any (b : Nat) (A : Option Addr) (n c T : Nat) (xs : List Int) (w : World) (hx : SB w A n xs) (hA : ∀ k, blk A = some k → k ≠ b) (hs : Src b A n c T w) (hT : T ≤ 1000000000) (hn : n ≤ 9223372036854775807) :
    Calls Try.prog 174 #[.pointer (some ⟨b, 0, none⟩)] w (Got b A n c (T + 1) 256 w) := by
  obtain ⟨a, s, haT, hs0, hs1, hb⟩ := hs
  have k0 : w.cell? ⟨b, 0, none⟩ = some (.slice A n c) := hb.cell 0
  have k1 : w.cell? ⟨b, 1, none⟩ = some (.int .i64 (a : Int)) := hb.cell 1
  have k2 : w.cell? ⟨b, 2, none⟩ = some (.int .u64 s) := hb.cell 2
  have f1 := hb.frozen 1
  have f2 := hb.frozen 2
  have HB := Lib.hid hb
  have HX := Lib.hid hx
  have HA := Lib.hid hA
  have HT := Lib.hid haT
  have i0 : (a : Int) + 1 ≤ 1000000001 := by omega
  clear hb hx hA haT
  by_cases h : a < n
  · obtain ⟨b', off, rfl, _, hc⟩ := HX.out.at_ h
    obtain ⟨y, hy⟩ : ∃ y, y = xs[a]'(by rw [HX.out.len]; exact h) := ⟨_, rfl⟩
    have hy2 := HX.out.2 _ (List.getElem_mem (l := xs) (n := a) (by rw [HX.out.len]; exact h))
    rw [← hy] at hc hy2
    clear hy
    have i1 : (0 : Int) ≤ (a : Int) := by omega
    have i2 : (a : Int) < (n : Int) := by omega
    have i3 : (a : Int) + 1 ≤ (n : Int) := by omega
    have hne : b' ≠ b := HA.out b' rfl
    go_enter Try.func174, Try.ntmps174
    go_upto_region 2 with fail
    go_quiet (fail)
    go_upto_region 3 with fail
    go_quiet (fail)
    go_upto_region 6 with fail
    go_quiet (fail)
    go_wp2_with fail
    go_ret
    exact next_done HB.out HT.out (by omega) (by omega) rfl
  · have i2 : ¬ (a : Int) < (n : Int) := by omega
    have i3 : ¬ (a : Int) + 1 ≤ (n : Int) := by omega
    go_enter Try.func174, Try.ntmps174
    go_upto_region 2 with fail
    go_quiet (fail)
    go_upto_region 6 with fail
    go_quiet (fail)
    go_wp2_with fail
    go_ret
    exact next_done HB.out HT.out (next_low _).1 (next_low _).2 rfl
theorem SB.kb {b : Nat} {w w' : World} {A : Option Addr} {n : Nat} {xs : List Int} (h : SB w A n xs) (k : Kb b w w') (hA : ∀ x, blk A = some x → x ≠ b) : SB w' A n xs :=
  ⟨h.1.keep fun p hp he => World.cell?_of_block (k.block p.block hp (hA _ he.symm)), h.2⟩
set_option maxHeartbeats 2000000 in
theorem pick_any (b : Nat) (A : Option Addr) (n c T : Nat) (xs : List Int) (m : Int) (w : World) (hx : SB w A n xs) (hA : ∀ k, blk A = some k → k ≠ b) (hs : Src b A n c T w) (hT : T ≤ 900000000) (hn : n ≤ 9223372036854775807) (hm : m ≤ 60000) (hm0 : -60000 ≤ m) :
    Calls Try.prog 79 #[.pointer (some ⟨b, 0, none⟩), .int .i64 m] w (Got b A n c (T + 2) (max m 1) w) := by
  have HX := Lib.hid hx
  have HA := Lib.hid hA
  have HS := Lib.hid hs
  clear hx hA hs
  by_cases h1 : m ≤ 1
  · go_enter Try.func79, Try.ntmps79
    go_wp2_with fail
    go_ret
    exact ⟨0, rfl, by omega, by omega, HS.out.le (by omega), Kb.refl b w⟩
  have h0 : ¬ m = 0 := by omega
  by_cases h2 : m ≤ 200
  · go_enter Try.func79, Try.ntmps79
    go_wp2_with (go_at_call 174; refine (next_any b A n c T xs _ HX.out HA.out HS.out (by omega) hn).mono ?_; rintro e1 w1 ⟨x, rfl, hx0, hx1, hs1, hk1⟩)
    go_ret
    exact ⟨x % m, rfl, Int.emod_nonneg _ h0, by have := Int.emod_lt_of_pos x (show 0 < m by omega); omega, hs1.le (by omega), hk1⟩
  · go_enter Try.func79, Try.ntmps79
    go_upto_region 4 with (go_at_call 174; refine (next_any b A n c T xs _ HX.out HA.out HS.out (by omega) hn).mono ?_; rintro e1 w1 ⟨x, rfl, hx0, hx1, hs1, hk1⟩)
    have HX1 := Lib.hid (HX.out.kb hk1 HA.out)
    have HS1 := Lib.hid hs1
    have HK1 := Lib.hid hk1
    clear hs1 hk1
    go_wp2_with (go_at_call 174; refine (next_any b A n c (T + 1) xs _ HX1.out HA.out HS1.out (by omega) hn).mono ?_; rintro e2 w2 ⟨y, rfl, hy0, hy1, hs2, hk2⟩)
    go_ret
    exact ⟨(x * 256 + y) % m, rfl, Int.emod_nonneg _ h0, by have := Int.emod_lt_of_pos (x * 256 + y) (show 0 < m by omega); omega, hs2, HK1.out.trans hk2⟩
theorem one_any (b : Nat) (A : Option Addr) (n c T : Nat) (xs : List Int) (m : Int) (w : World) (hx : SB w A n xs) (hA : ∀ k, blk A = some k → k ≠ b) (hs : Src b A n c T w) (hT : T ≤ 900000000) (hn : n ≤ 9223372036854775807) (hm : m ≤ 60000) (hm0 : -60000 ≤ m) :
    Calls Try.prog 184 #[.pointer (some ⟨b, 0, none⟩), .int .i64 m] w (fun e w' => ∃ y : Bool, e = .returned (.bool y) ∧ Src b A n c (T + 2) w' ∧ Kb b w w') := by
  go_enter Try.func184, Try.ntmps184
  go_wp2_with (go_at_call 79; refine (pick_any b A n c T xs m _ hx hA hs hT hn hm hm0).mono ?_; rintro e1 w1 ⟨x, rfl, hx0, hx1, hs1, hk1⟩)
  go_ret
  exact ⟨decide (x = 0), rfl, hs1, hk1⟩
set_option maxHeartbeats 1000000 in
/-- A new source. -/
theorem from_any (A : Option Addr) (n c : Nat) (w : World) : Calls Try.prog 77 #[.slice A n c] w (fun e w' => e = .returned (.pointer (some ⟨w.heap.size, 0, none⟩)) ∧ Src w.heap.size A n c 0 w' ∧ Below w.heap.size w w') := by
  obtain ⟨W, hW_⟩ : ∃ W, W = w.alloc (.cells #[.slice A n c, .int .i64 0, .int .u64 0] 241) := ⟨_, rfl⟩
  have b0 : Blk W w.heap.size 241 #[.slice A n c, .int .i64 0, .int .u64 0] := by rw [hW_]; exact Blk.new w _ _
  have y0 : Below w.heap.size w W := by rw [hW_]; exact (Below.refl _ _).alloc (Nat.le_refl _) _
  have HW := Lib.hid hW_
  clear hW_
  go_enter Try.func77, Try.ntmps77
  go_wp2_with fail
  rw [← HW.out]
  go_ret
  exact ⟨rfl, ⟨0, 0, Nat.le_refl _, by omega, by omega, b0⟩, y0⟩
end Go.Proofs.Ytdlojbabnelbdaa

/-
  Marks that are read again, for [][]int64; owned rows behind other marks.
-/
namespace Go.Proofs.Ytdlojbabnelbdaa
open Go.RowKit

theorem OII.blk_ge {w : World} {lo : Nat} {e2 e1 : TypeId} {A : Option Addr} {n c : Nat} {ts : List Sl} (h : OII w lo e2 e1 A n c ts) : ∀ b, blk A = some b → lo ≤ b := h.1.blk_ge
theorem OII.mono {w : World} {lo lo' : Nat} {e2 e1 : TypeId} {A : Option Addr} {n c : Nat} {ts : List Sl} (h : OII w lo e2 e1 A n c ts) (hl : lo' ≤ lo) : OII w lo' e2 e1 A n c ts := ⟨h.1.mono hl, fun t ht => (h.2.1 t ht).mono hl, h.2.2⟩
theorem OII.alloc {w : World} {lo : Nat} {e2 e1 : TypeId} {A : Option Addr} {n c : Nat} {ts : List Sl} (h : OII w lo e2 e1 A n c ts) (o : Obj) : OII (w.alloc o) lo e2 e1 A n c ts := ⟨h.1.alloc o, fun t ht => (h.2.1 t ht).alloc o, h.2.2⟩
theorem OII.mkf_far {T : List TypeId} {w w' : World} {l hh lo : Nat} {e2 e1 : TypeId} {A : Option Addr} {n c : Nat} {ts : List Sl} (h : OII w lo e2 e1 A n c ts) (hf : MkF T l hh w w') (hd : ∀ b, lo ≤ b → b < l ∨ hh ≤ b) : OII w' lo e2 e1 A n c ts :=
  ⟨h.1.mkf_far hf (fun b hb => hd b (h.1.blk_ge b hb)), fun t ht => (h.2.1 t ht).mkf_far hf (fun b hb => hd b ((h.2.1 t ht).blk_ge b hb)), h.2.2⟩
theorem OII.mkf_below {T : List TypeId} {w0 w w' : World} {l hh lo : Nat} {e2 e1 : TypeId} {A : Option Addr} {n c : Nat} {ts : List Sl} (h0 : OII w0 lo e2 e1 A n c ts) (hl : w0.heap.size ≤ l) (h : OII w lo e2 e1 A n c ts) (hf : MkF T l hh w w') : OII w' lo e2 e1 A n c ts :=
  ⟨h.1.mkf_far hf (fun b hb => .inl (by have := h0.1.blk_lt b hb; omega)), fun t ht => (h.2.1 t ht).mkf_far hf (fun b hb => .inl (by have := (h0.2.1 t ht).blk_lt b hb; omega)), h.2.2⟩
theorem OII.touch_below {w0 w w' : World} {l hh lo : Nat} {e2 e1 : TypeId} {A : Option Addr} {n c : Nat} {ts : List Sl} (h0 : OII w0 lo e2 e1 A n c ts) (hl : w0.heap.size ≤ l) (h : OII w lo e2 e1 A n c ts) (ht : Tch l hh w w') : OII w' lo e2 e1 A n c ts :=
  ⟨h.1.touch ht (fun b hb => .inl (by have := h0.1.blk_lt b hb; omega)), fun t htm => (h.2.1 t htm).touch ht (fun b hb => .inl (by have := (h0.2.1 t htm).blk_lt b hb; omega)), h.2.2⟩

def offs (us : List Sl) (k : Nat) : Nat := total (us.take k)
theorem offs_zero (us : List Sl) : offs us 0 = 0 := by simp [offs, total]
theorem offs_next {us : List Sl} {t : Sl} {k : Nat} (hT : us[k]? = some t) : offs us (k + 1) = offs us k + t.xs.length := total_take hT
theorem offs_le (us : List Sl) (k : Nat) : offs us k ≤ total us := total_take_le us k
theorem offs_end {us : List Sl} {k : Nat} (h : us.length ≤ k) : offs us k = total us := by unfold offs; rw [List.take_of_length_le h]
/-- The rows hold marks that run on from row to row. -/
def MarkedII (w : World) (A : Option Addr) (n : Nat) (us : List Sl) (p : Int) : Prop := Rd w 1 A n (us.map Sl.val) ∧ ∀ k t, us[k]? = some t → SI w t.A t.xs.length (marks (p + offs us k) t.xs.length)
theorem MarkedII.below {w w' : World} {A : Option Addr} {n : Nat} {us : List Sl} {p : Int} (h : MarkedII w A n us p) (z : Below w.heap.size w w') : MarkedII w' A n us p := ⟨h.1.below z, fun k t ht => (h.2 k t ht).below z⟩
def MarkII (w : World) (lo hi : Nat) (A : Option Addr) (n : Nat) (us : List Sl) (p : Int) (e : Ending) (w' : World) : Prop := e = .returned (.int .i64 (p + total us)) ∧ MarkedII w' A n us p ∧ Tch lo hi w w'
/-- What holds behind the first k rows. -/
def MarkTo (w : World) (lo hi : Nat) (A : Option Addr) (n c : Nat) (us : List Sl) (p : Int) (k : Nat) (wr : World) : Prop :=
  Own wr lo 25 1 A n c (us.map Sl.val) ∧ (∀ j t, us[j]? = some t → j < k → SI wr t.A t.xs.length (marks (p + offs us j) t.xs.length)) ∧ (∀ j t, us[j]? = some t → k ≤ j → Own wr lo 2 1 t.A t.xs.length t.c (ints t.xs)) ∧ Tch lo hi w wr
theorem apt_of {us : List Sl} (h : us.Pairwise Apt) {i j : Nat} {t u : Sl} (hi : us[i]? = some t) (hj : us[j]? = some u) (hne : i ≠ j) : ∀ b, blk t.A = some b → blk u.A ≠ some b := by
  obtain ⟨hi1, rfl⟩ := List.getElem?_eq_some_iff.1 hi
  obtain ⟨hj1, rfl⟩ := List.getElem?_eq_some_iff.1 hj
  rw [List.pairwise_iff_getElem] at h
  rcases Nat.lt_or_gt_of_ne hne with hlt | hlt
  · exact h i j hi1 hj1 hlt
  · intro b h1 h2
    exact h j i hj1 hi1 hlt b h2 h1
theorem MarkTo.step {w wr w' : World} {lo hi : Nat} {A : Option Addr} {n c : Nat} {us : List Sl} {p : Int} {k : Nat} {t : Sl} (h : MarkTo w lo hi A n c us p k wr) (hap : us.Pairwise Apt) (hT : us[k]? = some t) (hne : 2 ≠ 25) (ho : OwnE w' lo 2 t.A t.xs.length t.c (marks (p + offs us k) t.xs.length)) (ht : Tch lo hi wr w') (hs : ∀ b, blk t.A ≠ some b → w'.heap[b]? = wr.heap[b]?) : MarkTo w lo hi A n c us p (k + 1) w' := by
  obtain ⟨h1, h2, h3, h4⟩ := h
  have hrow := h3 k t hT (Nat.le_refl _)
  refine ⟨h1.kept fun b hb _ _ => hs b (fun e => hrow.blk_ne h1 hne b e hb), ?_, ?_, h4.trans ht⟩
  · intro j u hu hj
    by_cases e : j = k
    · subst e
      rw [hT] at hu
      cases hu
      exact ho.si
    · refine Rd.keep (h2 j u hu (by omega)) fun q hq hbq => ?_
      exact World.cell?_of_block (hs q.block (fun e2 => apt_of hap hT hu (Ne.symm e) q.block e2 hbq.symm))
  · intro j u hu hj
    exact (h3 j u hu (by omega)).kept fun b hb _ _ => hs b (fun e2 => apt_of hap hT hu (by omega) b e2 hb)

set_option maxHeartbeats 1000000 in
theorem markII_c (A : Option Addr) (n c : Nat) (us : List Sl) (p : Int) (w : World) (lo hi : Nat) (o : OII w lo 25 2 A n c us) (hh : ∀ t ∈ us, ∀ b, blk t.A = some b → b < hi) (hne : 2 ≠ 25) (hn : n ≤ 1048576) (ht : total us ≤ 1048576) (g0 : 0 ≤ p) (g1 : p ≤ 1000000000) :
    Calls Try.prog 156 #[.slice A n c, .int .i64 p] w (MarkII w lo hi A n us p) := by
  have hl : us.length = n := by have := o.1.1; simp at this; omega
  have HL := Lib.hid hl
  have HO := Lib.hid o
  have HNE := Lib.hid hne
  have HH := Lib.hid hh
  clear hl hne hh
  have hst : MarkTo w lo hi A n c us p 0 w := ⟨o.1, fun j t _ hj => absurd hj (Nat.not_lt_zero j), fun j t hT _ => o.2.1 t (List.mem_of_getElem? hT), Tch.refl _ _ _⟩
  clear o
  go_enter Try.func156, Try.ntmps156
  go_wp2
  go_loopw [1, 5] (fun q i wr => ∃ k : Nat, k ≤ n ∧ i = .int .i64 k ∧ q = .int .i64 (p + offs us k) ∧ MarkTo w lo hi A n c us p k wr) (fun _ i _ => n - (intOf i).toNat)
  case atStart => exact ⟨0, by omega, rfl, by simp [offs_zero], hst⟩
  case round =>
    obtain ⟨k, hk, rfl, rfl, hM⟩ := hrel
    have hof := offs_le us k
    by_cases hlt : k < n
    · have hkl : k < us.length := by have := HL.out; omega
      obtain ⟨t, hT⟩ : ∃ t, us[k]? = some t := ⟨us[k], List.getElem?_eq_getElem hkl⟩
      have hof1 := offs_le us (k + 1)
      have HOF := Lib.hid (offs_next hT)
      have hle : offs us k + t.xs.length ≤ total us := by have := HOF.out; omega
      obtain ⟨b, off, rfl, _, _, hc, _⟩ := hM.1.at_ (k := k) (by simpa using hkl)
      have hcv : wr.cell? ⟨b, off + k, none⟩ = some (.slice t.A t.xs.length t.c) := by rw [hc]; obtain ⟨h, rfl⟩ := List.getElem?_eq_some_iff.1 hT; simp [Sl.val]
      have HT := Lib.hid hT
      have hrow := hM.2.2.1 k t hT (Nat.le_refl _)
      have HBL : Hid (∀ b, blk t.A = some b → b < hi) := fun b hb => HH.out t (List.mem_of_getElem? HT.out) b hb
      clear hc hT hof1
      go_wp2_with fail
      refine (markI _ _ _ t.xs _ _ lo hi (.inr hrow) HBL.out (by omega) (by omega)).mono ?_
      rintro e w3 ⟨rfl, oo, t3, s3⟩
      have hM2 := MarkTo.step hM HO.out.2.2 HT.out HNE.out oo t3 s3
      go_wp2_with fail
      go_roundw
      case rel => exact ⟨k + 1, by omega, by go_num, by rw [HOF.out]; go_num, hM2⟩
      case measure => simp [intOf]; omega
    · have hkn : k = us.length := by have := HL.out; omega
      go_wp2
      go_ret
      refine ⟨ret_int ?_, ⟨hM.1.rd, fun j t hT => hM.2.1 j t hT ?_⟩, hM.2.2.2⟩
      · rw [offs_end (by omega)]
      · have := (List.getElem?_eq_some_iff.1 hT).1; omega

set_option maxHeartbeats 1000000 in
theorem heldII_c (A : Option Addr) (n c : Nat) (us : List Sl) (p : Int) (w : World) (h : MarkedII w A n us p) (hn : n ≤ 1048576) (ht : total us ≤ 1048576) (g0 : 0 ≤ p) (g1 : p ≤ 1000000000) :
    Calls Try.prog 158 #[.slice A n c, .int .i64 p] w fun e w' => e = .returned (.int .i64 (p + total us)) ∧ Below w.heap.size w w' := by
  have hl : us.length = n := by have := h.1.1; simp at this; omega
  have HL := Lib.hid hl
  clear hl
  go_enter Try.func158, Try.ntmps158
  go_wp2
  go_loop [1, 5] (fun q i => ∃ k : Nat, k ≤ n ∧ i = .int .i64 k ∧ q = .int .i64 (p + offs us k)) (fun _ i => n - (intOf i).toNat)
  case atStart => exact ⟨0, by omega, rfl, by simp [offs_zero]⟩
  case round =>
    obtain ⟨k, hk, rfl, rfl⟩ := hrel
    have hof := offs_le us k
    by_cases hlt : k < n
    · have hkl : k < us.length := by have := HL.out; omega
      obtain ⟨t, hT⟩ : ∃ t, us[k]? = some t := ⟨us[k], List.getElem?_eq_getElem hkl⟩
      have hof1 := offs_le us (k + 1)
      have HOF := Lib.hid (offs_next hT)
      have hle : offs us k + t.xs.length ≤ total us := by have := HOF.out; omega
      obtain ⟨b, off, rfl, _, hc⟩ := h.1.at_ (k := k) (by simpa using hkl)
      have hcv : w.cell? ⟨b, off + k, none⟩ = some (.slice t.A t.xs.length t.c) := by rw [hc]; obtain ⟨h, rfl⟩ := List.getElem?_eq_some_iff.1 hT; simp [Sl.val]
      have hrow := h.2 k t hT
      have gneg : ¬ (p + (offs us k : Int) + (t.xs.length : Int) < 0) := by omega
      clear hc hT hof1
      go_wp2_with fail
      refine (heldI _ _ _ (marks (p + offs us k) t.xs.length) _ _ hrow (by omega) (by omega)).mono ?_
      rintro e w3 ⟨rfl, rfl⟩
      rw [heldF_marks]
      go_wp2_with fail
      go_round
      case rel => exact ⟨k + 1, by omega, by go_num, by rw [HOF.out]; go_num⟩
      case measure => simp [intOf]; omega
    · have hkn : k = us.length := by have := HL.out; omega
      go_wp2
      go_ret
      exact ⟨ret_int (by rw [offs_end (by omega)]), Below.refl _ _⟩
theorem total_of {us : List Sl} {M : List (List Int)} {b : Nat} (h : nums us = M) (hl : (M.map List.length).sum ≤ b) : total us ≤ b := by rw [total_of_nums, h]; exact hl
end Go.Proofs.Ytdlojbabnelbdaa

/-
  Slices of rows that grow.
-/
namespace Go.Proofs.Ytdlojbabnelbdaa
open Go.RowKit

theorem OII.snoc {wa w w2 : World} {lo n c c2 k : Nat} {e2 e1 : TypeId} {A A2 : Option Addr} {ts : List Sl} {u : Sl} (h : OII wa lo e2 e1 A n c ts) (hw : OII w lo e2 e1 A n c ts) (hs : Own w2 lo e2 1 A2 (n + 1) c2 (ts.map Sl.val ++ [u.val])) (hg : w.grownBy w2 (blk A))
    (hu : Own w k e1 1 u.A u.xs.length u.c (ints u.xs)) (hk : wa.heap.size ≤ k) (hlk : lo ≤ k) (hne : e1 ≠ e2) : OII w2 lo e2 e1 A2 (n + 1) c2 (ts ++ [u]) := by
  have far : ∀ {B : Option Addr} {m d lo' : Nat} {xs : List Value}, Own w lo' e1 1 B m d xs → Own w2 lo' e1 1 B m d xs := fun ho => ho.grown hg (fun g hgA hb => Own.blk_ne hw.1 ho (fun he => hne he.symm) g hgA hb)
  refine ⟨by simpa using hs, fun t ht => ?_, Apt.snoc h.2.2 (fun t ht b hb hb' => ?_)⟩
  · rcases List.mem_append.1 ht with h1 | h1
    · exact far (hw.2.1 t h1)
    · rw [List.mem_singleton.1 h1]; exact (far hu).mono hlk
  · have h1 := (h.2.1 t ht).blk_lt b hb
    have h2 := hu.blk_ge b hb'
    omega
theorem OII.len {w : World} {lo n c : Nat} {e2 e1 : TypeId} {A : Option Addr} {ts : List Sl} (h : OII w lo e2 e1 A n c ts) : ts.length = n := by have := h.1.1; simp at this; omega
/-- The blocks of a slice of rows. -/
def OIIB (A : Option Addr) (ts : List Sl) (b : Nat) : Prop := blk A = some b ∨ ∃ t ∈ ts, blk t.A = some b
theorem OII.keptB {w w' : World} {lo n c : Nat} {e2 e1 : TypeId} {A : Option Addr} {ts : List Sl} (h : OII w lo e2 e1 A n c ts) (hk : ∀ b, OIIB A ts b → w'.heap[b]? = w.heap[b]?) : OII w' lo e2 e1 A n c ts :=
  ⟨h.1.kept (fun b hb _ _ => hk b (.inl hb)), fun t ht => (h.2.1 t ht).kept (fun b hb _ _ => hk b (.inr ⟨t, ht, hb⟩)), h.2.2⟩
theorem OII.blkB {w : World} {lo n c : Nat} {e2 e1 : TypeId} {A : Option Addr} {ts : List Sl} (h : OII w lo e2 e1 A n c ts) : ∀ b, OIIB A ts b → lo ≤ b ∧ b < w.heap.size := by
  rintro b (hb | ⟨t, ht, hb⟩)
  · exact ⟨h.1.blk_ge b hb, h.1.blk_lt b hb⟩
  · exact ⟨(h.2.1 t ht).blk_ge b hb, (h.2.1 t ht).blk_lt b hb⟩
theorem Blk.aptt {w : World} {g : Nat} {t e : TypeId} {cur : Array Value} {lo n c s : Nat} {A : Option Addr} {cs : List Value} (h : Blk w g t cur) (h' : Own w lo e s A n c cs) (hne : t ≠ e) : blk A ≠ some g := by
  intro hb
  rcases h'.2 with ⟨rfl, _⟩ | ⟨b, off, cur2, rfl, _, hg, _⟩
  · simp [blk] at hb
  · simp [blk] at hb; subst hb
    unfold Blk at h
    rw [hg] at h
    simp at h
    exact hne h.2.symm
theorem Blk.growt {w w2 : World} {g : Nat} {t e : TypeId} {cur : Array Value} {lo n c s : Nat} {A : Option Addr} {cs : List Value} (h : Blk w g t cur) (h' : Own w lo e s A n c cs) (hg : w.grownBy w2 (blk A)) (hne : t ≠ e) : Blk w2 g t cur :=
  (hg.block g h.lt (fun e => h.aptt h' hne e.symm)).trans h
theorem OII.set_box {w : World} {lo n c g i : Nat} {t e2 e1 : TypeId} {cur : Array Value} {A : Option Addr} {ts : List Sl} (h : OII w lo e2 e1 A n c ts) (hb : Blk w g t cur) (h1 : t ≠ e2) (h2 : t ≠ e1) (u : Value) : OII (w.setCell ⟨g, i, none⟩ u) lo e2 e1 A n c ts :=
  ⟨h.1.far (p := ⟨g, i, none⟩) (hb.aptt h.1 h1) u, fun x hx => (h.2.1 x hx).far (p := ⟨g, i, none⟩) (hb.aptt (h.2.1 x hx) h2) u, h.2.2⟩
theorem OII.nil {w : World} {lo c : Nat} {e2 e1 : TypeId} {A : Option Addr} (h : Own w lo e2 1 A 0 c []) : OII w lo e2 e1 A 0 c [] := ⟨h, by simp, List.Pairwise.nil⟩
theorem OII.one {w : World} {lo c : Nat} {e2 e1 : TypeId} {A : Option Addr} {u : Sl} (h : Own w lo e2 1 A 1 c [u.val]) (hu : Own w lo e1 1 u.A u.xs.length u.c (ints u.xs)) : OII w lo e2 e1 A 1 c [u] := ⟨by simpa using h, by simpa using hu, List.pairwise_singleton _ _⟩
end Go.Proofs.Ytdlojbabnelbdaa

/-
  The reference's l09DrawWords: some words over some letters.
-/
namespace Go.Proofs.Ytdlojbabnelbdaa
open Go.RowKit

theorem OII.kb {b lo n c : Nat} {w w' : World} {e2 e1 : TypeId} {A : Option Addr} {ts : List Sl} (h : OII w lo e2 e1 A n c ts) (k : Kb b w w') (hb : b < lo) : OII w' lo e2 e1 A n c ts :=
  h.keptB fun x hx => by obtain ⟨h1, h2⟩ := h.blkB x hx; exact k.block x h2 (by omega)
theorem Blk.owns {w : World} {g : Nat} {t : TypeId} {cs : Array Value} {n s lo : Nat} (h : Blk w g t cs) (hs : cs.size = n * s) (hn : n ≤ maxLen) (hlo : lo ≤ g) : Own w lo t s (some ⟨g, 0, none⟩) n n cs.toList := by
  refine ⟨by simpa using hs, .inr ⟨g, 0, cs, rfl, hlo, h, Nat.le_refl _, hn, by omega, fun k hk => ?_⟩⟩
  simp at hk
  simp [hk]
/-- Words of at most some letters, below a bound. -/
def OkW (most : Nat) (L : Int) (us : List Sl) : Prop := ∀ u ∈ us, u.xs.length ≤ most ∧ ∀ x ∈ u.xs, 0 ≤ x ∧ x < L
def Drew (b : Nat) (A : Option Addr) (n c T : Nat) (N most : Nat) (L : Int) (w : World) (e : Ending) (w' : World) : Prop :=
  ∃ D d us, e = .returned (.slice D us.length d) ∧ OII w' w.heap.size 25 2 D us.length d us ∧ us.length = N ∧ OkW most L us ∧ Src b A n c T w' ∧ Kb b w w'
theorem Src.grown {b lo s n0 c0 : Nat} {e : TypeId} {E : Option Addr} {xs : List Value} {A : Option Addr} {n c T : Nat} {W W' : World} (h : Src b A n c T W) (ho : Own W lo e s E n0 c0 xs) (hb : b < lo) (hg : W.grownBy W' (blk E)) : Src b A n c T W' := by
  obtain ⟨a, s, h1, h2, h3, h4⟩ := h
  exact ⟨a, s, h1, h2, h3, (hg.block b h4.lt (fun e => by have := ho.blk_ge b e.symm; omega)).trans h4⟩
end Go.Proofs.Ytdlojbabnelbdaa

/-
  Contracts of the reference's parts of register programs: l07Join, l07Loop, l07Branch, l07Clear, l07Move.
-/
namespace Go.Proofs.Ytdlojbabnelbdaa
open Go.RowKit

theorem valid_bounds {p : List R4} (h : validProgB p = true) : ∀ x ∈ p, (x.a = 0 ∨ x.a = 1) ∧ 0 ≤ x.c ∧ x.c ≤ 400 ∧ 0 ≤ x.d ∧ x.d ≤ 400 := by
  intro x hx
  have h1 := all_valid h x hx
  have h2 := validProg_len h
  rw [validInstr_iff] at h1
  omega
def sJoin (p q : List R4) : List R4 := p ++ partP q (p.length : Int) ((p.length : Int) + (q.length : Int))
theorem sJoin_len (p q : List R4) : (sJoin p q).length = p.length + q.length := by simp [sJoin, partP_len]
theorem instr_mono {n m : Int} {x : R4} (h : validInstrB n x = true) (hm : n ≤ m) : validInstrB m x = true := by
  rw [validInstr_iff] at h ⊢; omega
theorem sJoin_valid {p q : List R4} (hp : validProgB p = true) (hq : validProgB q = true) (hl : p.length + q.length ≤ 400) : validProgB (sJoin p q) = true := by
  refine validProg_of (by rw [sJoin_len]; omega) (fun x hx => ?_)
  rw [sJoin_len]
  rcases List.mem_append.1 hx with h | h
  · exact instr_mono (all_valid hp x h) (by omega)
  · exact partP_valid hq (by omega) (by omega) (by omega) (by omega) x h
theorem moveL_valid {a : Int} {ts : List Int} (ha : 0 ≤ a ∧ a ≤ 23) (ht : ∀ t ∈ ts, 0 ≤ t ∧ t ≤ 23) (hl : ts.length ≤ 20) : validProgB (moveL a ts) = true := by
  refine validProg_of (by rw [moveL_len]; omega) (fun x hx => ?_)
  rw [moveL_len]
  rcases List.mem_cons.1 hx with rfl | hx
  · rw [validInstr_iff]; dsimp only; split <;> omega
  · unfold tgtTo at hx
    rw [List.mem_map] at hx
    obtain ⟨j, hj, rfl⟩ := hx
    have hj := List.mem_range.1 hj
    have h := ht (ts.getD j 0) (by rw [List.getD_eq_getElem?_getD, List.getElem?_eq_getElem hj]; exact List.getElem_mem _)
    rw [validInstr_iff]; dsimp only; split <;> omega
set_option maxRecDepth 100000 in
set_option maxHeartbeats 4000000 in
theorem l07Join_any (P Q : Option Addr) (k l : Nat) (p q : List R4) (w : World) (hp : S4 w P p.length p) (hq : S4 w Q q.length q) (hpl : p.length ≤ 400) (hqv : validProgB q = true) :
    Calls Try.prog 169 #[.slice P p.length k, .slice Q q.length l] w (NewQ w (sJoin p q)) := by
  have HP := Lib.hid hp
  have HQ := Lib.hid hq
  have hql := validProg_len hqv
  have HV := Lib.hid (valid_bounds hqv)
  have v1 : IntKind.i64.wrap ((p.length : Int) + (q.length : Int)) = (p.length : Int) + (q.length : Int) := IntWalk.i64_in _ (by omega)
  clear hp hq hqv
  go_enter Try.func169, Try.ntmps169
  go_wp2_with (at_builtin; refine wpList_append_Own rfl (.tmp 9) (.tmp 10) rfl elQ (lo := w.heap.size) rfl (Own.lit0 w _ 4) rfl (Rd.alloc HP.out _) (cells4_one p) (by omega) (by simp only [maxLen]; omega) (by simp) ?_; intro D c w1 o1 hg1 _; have z1 := (Own.lit0 w 133 4).below_of ((Below.refl _ _).alloc (Nat.le_refl _) _) hg1 (by simp); simp only [List.nil_append, Nat.zero_add] at o1; have HO1 := Lib.hid o1; have HZ1 := Lib.hid z1; clear o1 z1 hg1)
  refine (l07Shift_any Q l q (p.length : Int) ((p.length : Int) + (q.length : Int)) w1 (HQ.out.below HZ1.out) hql HV.out (by omega) (by omega)).mono ?_
  rintro e w2 ⟨A3, c3, rfl, o3, z3⟩
  rw [partP_len] at o3 ⊢
  have HO2 := Lib.hid (HO1.out.below z3)
  have HZ2 := Lib.hid (HZ1.out.trans (z3.mono HZ1.out.size))
  have HO3 := Lib.hid o3
  clear o3 z3 HO1 HZ1
  go_wp2_with (at_builtin; refine wpList_append_Own rfl (.tmp 12) (.tmp 19) rfl elQ (lo := w.heap.size) rfl HO2.out rfl HO3.out.rd (cells4_one _) (by omega) (by simp only [maxLen]; omega) HZ2.out.size ?_; intro A4 c4 w4 o4 g4 _)
  rw [cells4_append] at o4
  have HN : Hid (NewQ w (sJoin p q) (.returned (.slice A4 (p.length + q.length) c4)) w4) := Lib.hid ⟨A4, c4, by rw [sJoin_len], by rw [sJoin_len]; exact o4, HO2.out.below_of HZ2.out g4 HZ2.out.size⟩
  clear o4 g4
  go_ret
  exact HN.out
theorem loopP_pos (r : Int) (b : List R4) (h : 1 ≤ b.length) : loopP r b = [⟨1, r, 1, (b.length : Int) + 2⟩, ⟨0, r, 2, 0⟩] ++ partP b 2 0 := by
  unfold loopP; rw [if_neg (by omega)]
set_option maxRecDepth 100000 in
set_option maxHeartbeats 4000000 in
theorem l07Loop_any (r : Int) (Q : Option Addr) (l : Nat) (q : List R4) (w : World) (hq : S4 w Q q.length q) (hqv : validProgB q = true) (h1 : 1 ≤ q.length) :
    Calls Try.prog 168 #[.int .i64 r, .slice Q q.length l] w (NewQ w (loopP r q)) := by
  have hql := validProg_len hqv
  have HV := Lib.hid (valid_bounds hqv)
  have v1 : IntKind.i64.wrap ((q.length : Int) + 2) = (q.length : Int) + 2 := IntWalk.i64_in _ (by omega)
  have v2 : ((q.length : Int) == 0) = false := by simp; intro h; subst h; simp at h1
  obtain ⟨V1, hW_⟩ : ∃ W_, W_ = w.alloc (.cells #[.int .i64 1, .int .i64 r, .int .i64 1, .int .i64 ((q.length : Int) + 2), .int .i64 0, .int .i64 r, .int .i64 2, .int .i64 0] 133) := ⟨_, rfl⟩
  have bV : Blk V1 w.heap.size 133 #[.int .i64 1, .int .i64 r, .int .i64 1, .int .i64 ((q.length : Int) + 2), .int .i64 0, .int .i64 r, .int .i64 2, .int .i64 0] := by rw [hW_]; exact Blk.new w _ _
  have zV : Below w.heap.size w V1 := by rw [hW_]; exact (Below.refl _ _).alloc (Nat.le_refl _) _
  have HV1 := Lib.hid hW_
  clear hW_
  have HO1 : Hid (Own V1 w.heap.size 133 4 (some ⟨w.heap.size, 0, none⟩) 2 2 (cells4 [⟨1, r, 1, (q.length : Int) + 2⟩, ⟨0, r, 2, 0⟩])) := Lib.hid (Blk.owns bV rfl (by simp [maxLen]) (Nat.le_refl _))
  have HZ1 := Lib.hid zV
  have HQ := Lib.hid (hq.below zV)
  clear hq hqv bV zV
  go_enter Try.func168, Try.ntmps168
  go_upto_region 3 with fail
  rw [← HV1.out]
  clear HV1
  go_wp2_with fail
  refine (l07Shift_any Q l q 2 0 V1 HQ.out hql HV.out (by omega) (by omega)).mono ?_
  rintro e w2 ⟨A3, c3, rfl, o3, z3⟩
  rw [partP_len] at o3 ⊢
  have HO2 := Lib.hid (HO1.out.below z3)
  have HZ2 := Lib.hid (HZ1.out.trans (z3.mono HZ1.out.size))
  have HO3 := Lib.hid o3
  clear o3 z3 HO1 HZ1
  go_wp2_with (at_builtin; refine wpList_append_Own rfl (.tmp 22) (.tmp 24) rfl elQ (lo := w.heap.size) rfl HO2.out rfl HO3.out.rd (cells4_one _) (by omega) (by simp only [maxLen]; omega) HZ2.out.size ?_; intro A4 c4 w4 o4 g4 _)
  rw [cells4_append, ← loopP_pos r q h1] at o4
  have HN : Hid (NewQ w (loopP r q) (.returned (.slice A4 (2 + q.length) c4)) w4) := Lib.hid ⟨A4, c4, by rw [loopP_len, Nat.add_comm], by rw [loopP_len, Nat.add_comm]; exact o4, HO2.out.below_of HZ2.out g4 HZ2.out.size⟩
  clear o4 g4
  go_ret
  exact HN.out
end Go.Proofs.Ytdlojbabnelbdaa
