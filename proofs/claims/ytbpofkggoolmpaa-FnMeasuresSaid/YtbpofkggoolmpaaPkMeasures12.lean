/-
  Contracts of impl.StartConfig and spec.StartConfig: both return what startF says.
-/
import Derived.Test.YtbpofkggoolmpaaPkMeasures1
import Derived.Test.YtbpofkggoolmpaaPkMeasures4
import Derived.Test.YtbpofkggoolmpaaPkMeasures11
import Derived.Deep.CutBlock
namespace Go.Proofs.Ytbpofkggoolmpaa
open Go.RowKit

/-- What StartConfig returns. -/
def startF (sy st : Int) (rs : List R3) (xs : List Int) : Conf × Int :=
  if machB sy st rs && isWordB xs then
    if allIn xs 0 (sy - 1) then
      if (trimI xs).length ≤ 200 then (⟨0, [], trimI xs⟩, 0) else (⟨0, [], []⟩, 5)
    else (⟨0, [], []⟩, 2)
  else (⟨0, [], []⟩, 1)
theorem trim_take (xs : List Int) : ∃ k, k ≤ xs.length ∧ trimI xs = xs.take k := by
  unfold trimI
  have h : (xs.reverse.dropWhile (· == 0)) <:+ xs.reverse := List.dropWhile_suffix _
  obtain ⟨t, ht⟩ := h
  refine ⟨(xs.reverse.dropWhile (· == 0)).length, ?_, ?_⟩
  · have := congrArg List.length ht; simp at this; omega
  · have h2 : xs = (xs.reverse.dropWhile (· == 0)).reverse ++ t.reverse := by
      have := congrArg List.reverse ht
      simpa using this.symm
    conv => rhs; arg 2; rw [h2]
    rw [List.take_left' (by simp)]

set_option maxHeartbeats 1000000 in
theorem trimmed_any (A : Option Addr) (n c : Nat) (xs : List Int) (w : World) (hx : SI w A n xs) (hn : n ≤ 1048576) (hcap : n ≤ c) :
    Calls Try.prog 251 #[.slice A n c] w fun e w' => e = .returned (.slice A (trimI xs).length c) ∧ w = w' := by
  have HL := Lib.hid hx.len
  go_enter Try.func251, Try.ntmps251
  go_wp2
  go_loop [0] (fun s => ∃ k : Nat, k ≤ n ∧ s = .slice A k c ∧ Hid (trimI (xs.take k) = trimI xs)) (fun s => match s with | .slice _ k _ => k | _ => 0)
  case atStart => exact ⟨n, by omega, rfl, by show _ = _; rw [List.take_of_length_le (by rw [HL.out]; omega)]⟩
  case round =>
    obtain ⟨k, hk, rfl, he⟩ := hrel
    by_cases hk0 : 0 < k
    · obtain ⟨b, off, rfl, _, hc0⟩ := hx.at_ (k := k - 1) (by omega)
      have hnth : xs[k - 1]'(by rw [HL.out]; omega) = nth xs (k - 1) := (nth_eq xs (k - 1) (by rw [HL.out]; omega)).symm
      rw [hnth] at hc0
      clear hnth
      have i0 : decide ((0 : Int) < (k : Int)) = true := by simp; omega
      have i1 : (0 : Int) ≤ (k : Int) - 1 := by omega
      have i2 : ((k : Int) - 1).toNat = k - 1 := by omega
      have i3 : (k : Int) - 1 < (k : Int) := by omega
      have i4 : (k : Int) - 1 ≤ (c : Int) := by omega
      cases hz : (nth xs (k - 1) == 0)
      · have HZ := Lib.hid (trim_stop hk0 (by rw [HL.out]; omega) hz he.out)
        go_wp2
        go_ret
        exact ⟨ret_slice (by rw [← HZ.out, List.length_take, HL.out]; omega), rfl⟩
      · have HZ := Lib.hid (trim_next hk0 (by rw [HL.out]; omega) hz he.out)
        go_wp2
        go_round
        case rel => exact ⟨k - 1, by omega, by simp [i2], HZ.out⟩
        case measure => simp; omega
    · obtain rfl : k = 0 := by omega
      have HZ : Hid (trimI xs = []) := Lib.hid (by rw [← he.out]; simp [trimI])
      go_wp2
      go_ret
      exact ⟨ret_slice (by rw [HZ.out]; rfl), rfl⟩

theorem allWithin_is {xs : List Int} {lo hi : Int} {v : Bool} (h : allIn xs lo hi = v) (A : Option Addr) (n c : Nat) (w : World) (hx : SI w A n xs) (hn : n ≤ 9223372036854775807) :
    Calls Try.prog 239 #[.slice A n c, .int .i64 lo, .int .i64 hi] w fun e w' => e = .returned (.bool v) ∧ w = w' := h ▸ allWithin_any A n c xs lo hi w hx hn
theorem own_trim {w : World} {lo n c : Nat} {A : Option Addr} {xs : List Int} (h : Own w lo 2 1 A n c (ints xs)) : Own w lo 2 1 A (trimI xs).length c (ints (trimI xs)) := by
  obtain ⟨k, hk, e⟩ := trim_take xs
  have hl : xs.length = n := h.asI.len
  have h1 := h.upto (j := k) (by omega)
  rw [ints_take] at h1
  have h2 : (trimI xs).length = k := by rw [e, List.length_take]; omega
  rw [h2, e]
  exact h1
theorem startF_bad {sy st : Int} {rs : List R3} {xs : List Int} (h : (machB sy st rs && isWordB xs) = false) : startF sy st rs xs = (⟨0, [], []⟩, 1) := by unfold startF; rw [h]; rfl
theorem startF_out {sy st : Int} {rs : List R3} {xs : List Int} (h : machB sy st rs = true) (h1 : isWordB xs = true) (h2 : allIn xs 0 (sy - 1) = false) : startF sy st rs xs = (⟨0, [], []⟩, 2) := by unfold startF; rw [h, h1, h2]; rfl
theorem startF_full {sy st : Int} {rs : List R3} {xs : List Int} (h : machB sy st rs = true) (h1 : isWordB xs = true) (h2 : allIn xs 0 (sy - 1) = true) (h3 : ¬ (trimI xs).length ≤ 200) : startF sy st rs xs = (⟨0, [], []⟩, 5) := by unfold startF; rw [h, h1, h2]; simp [h3]
theorem startF_ok {sy st : Int} {rs : List R3} {xs : List Int} (h : machB sy st rs = true) (h1 : isWordB xs = true) (h2 : allIn xs 0 (sy - 1) = true) (h3 : (trimI xs).length ≤ 200) : startF sy st rs xs = (⟨0, [], trimI xs⟩, 0) := by unfold startF; rw [h, h1, h2]; simp [h3]
theorem trim_good2 (xs : List Int) : trimI xs = [] ∨ lastI (trimI xs) ≠ 0 := by
  unfold trimI lastI
  cases h : xs.reverse.dropWhile (· == 0) with
  | nil => left; rfl
  | cons a t =>
    right
    have h2 : (a == 0) = false := by
      have := List.head?_dropWhile_not (· == 0) xs.reverse
      rw [h] at this
      simpa using this
    simpa using h2
theorem startF_good {sy st : Int} {rs : List R3} {xs : List Int} (h : (startF sy st rs xs).2 = 0) : goodC sy st rs (startF sy st rs xs).1 := by
  unfold startF at h ⊢
  split at h
  · rename_i h0
    simp only [Bool.and_eq_true] at h0
    split at h
    · rename_i h1
      split at h
      · rename_i h2
        rw [if_pos (by simp [h0.1, h0.2]), if_pos h1, if_pos h2]
        obtain ⟨p1, p2, p3, p4, _, _⟩ := machB_parts h0.1
        have hin : ∀ y ∈ trimI xs, 0 ≤ y ∧ y ≤ sy - 1 := by
          obtain ⟨k, hk, e⟩ := trim_take xs
          rw [e]
          intro y hy
          have := List.mem_of_mem_take hy
          unfold allIn at h1
          rw [List.all_eq_true] at h1
          exact (inB_iff _ _ _).1 (h1 y this)
        have hs := side_of (sy := sy) h2 hin (trim_good2 xs)
        have hs0 := side_of (sy := sy) (xs := []) (by simp) (by simp) (.inl rfl)
        show validConfB sy st rs 0 [] (trimI xs) = true
        unfold validConfB confB
        rw [h0.1, hs, hs0]
        simp [inB]; omega
      · cases h
    · cases h
  · cases h

end Go.Proofs.Ytbpofkggoolmpaa

/-
  The reference's B10Small: a small machine and a configuration with few cells.
-/
namespace Go.Proofs.Ytbpofkggoolmpaa
open Go.RowKit

/-- A small machine and a configuration with few cells. -/
structure SmallC (st : Int) (rs : List R3) (q : Int) (ls ys : List Int) : Prop where
  st1 : 1 ≤ st
  st2 : st ≤ 2
  good : goodC 2 st rs ⟨q, ls, ys⟩
  ll : ls.length ≤ 2
  yl : ys.length ≤ 3
theorem SmallC.mach {st q : Int} {rs : List R3} {ls ys : List Int} (h : SmallC st rs q ls ys) : machB 2 st rs = true := by
  have h1 := h.good
  unfold goodC validConfB at h1
  simp only [Bool.and_eq_true] at h1
  exact h1.1
def DrewS (w : World) (e : Ending) (w' : World) : Prop :=
  ∃ (st : Int) (R : Option Addr) (rc : Nat) (rs : List R3) (q : Int) (L : Option Addr) (lc : Nat) (ls : List Int) (Y : Option Addr) (yc : Nat) (ys : List Int),
    e = .returned (.tuple #[.agg #[.int .i64 2, .int .i64 st, .slice R rs.length rc], .agg #[.int .i64 q, .slice L ls.length lc, .slice Y ys.length yc]]) ∧
    Own w' w.heap.size 229 3 R rs.length rc (cells3 rs) ∧ Own w' w.heap.size 2 1 L ls.length lc (ints ls) ∧ Own w' w.heap.size 2 1 Y ys.length yc (ints ys) ∧ SmallC st rs q ls ys ∧ Below w.heap.size w w'
theorem trim_bits {xs : List Int} {n : Nat} (hl : xs.length ≤ n) (hn : n ≤ 200) (hx : ∀ x ∈ xs, 0 ≤ x ∧ x < 2) : sideB (trimI xs) 2 200 = true ∧ (trimI xs).length ≤ n := by
  obtain ⟨k, hk, e⟩ := trim_take xs
  have h1 : (trimI xs).length ≤ n := by rw [e, List.length_take]; omega
  refine ⟨side_of (by omega) (fun y hy => ?_) (trim_good2 xs), h1⟩
  rw [e] at hy
  have := hx y (List.mem_of_mem_take hy)
  omega
theorem small_c {st q : Int} {rs : List R3} {ls ys : List Int} (h1 : 1 ≤ st) (h2 : st ≤ 2) (hm : machB 2 st rs = true) (hq0 : 0 ≤ q) (hq1 : q < st) (hl : ls.length ≤ 2) (hL : ∀ x ∈ ls, 0 ≤ x ∧ x < 2) (hy : ys.length ≤ 3) (hY : ∀ x ∈ ys, 0 ≤ x ∧ x < 2) : SmallC st rs q (trimI ls) (trimI ys) := by
  obtain ⟨a1, a2⟩ := trim_bits hl (by omega) hL
  obtain ⟨b1, b2⟩ := trim_bits hy (by omega) hY
  refine ⟨h1, h2, ?_, a2, b2⟩
  unfold goodC validConfB confB
  dsimp only
  rw [hm, a1, b1, (inB_iff _ _ _).2 ⟨hq0, by omega⟩]; rfl
/-- A configuration's box with its sides, beside a source. -/
structure CX (w0 : World) (g : Nat) (A : Option Addr) (n c T : Nat) (q : Int) (L : Option Addr) (lc : Nat) (ls : List Int) (Y : Option Addr) (yc : Nat) (ys : List Int) (W : World) : Prop where
  box : Blk W w0.heap.size 50 #[.int .i64 q, .slice L ls.length lc, .slice Y ys.length yc]
  left : Own W w0.heap.size 2 1 L ls.length lc (ints ls)
  right : Own W w0.heap.size 2 1 Y ys.length yc (ints ys)
  ne : ∀ b, blk L = some b → blk Y ≠ some b
  src : Src g A n c T W
  kb : Kb g w0 W
  glt : g < w0.heap.size
section
variable {w0 W W' : World} {g n c T : Nat} {A : Option Addr} {q : Int} {L : Option Addr} {lc : Nat} {ls : List Int} {Y : Option Addr} {yc : Nat} {ys : List Int}
theorem CX.below (h : CX w0 g A n c T q L lc ls Y yc ys W) (z : Below W.heap.size W W') : CX w0 g A n c T q L lc ls Y yc ys W' :=
  ⟨h.box.below' z, h.left.below z, h.right.below z, h.ne, h.src.below z, h.kb.trans (Kb.of_below z), h.glt⟩
theorem CX.le {T' : Nat} (h : CX w0 g A n c T q L lc ls Y yc ys W) (ht : T ≤ T') : CX w0 g A n c T' q L lc ls Y yc ys W :=
  ⟨h.box, h.left, h.right, h.ne, h.src.le ht, h.kb, h.glt⟩
theorem CX.drawn {T' : Nat} (h : CX w0 g A n c T q L lc ls Y yc ys W) (k : Kb g W W') (s : Src g A n c T' W') : CX w0 g A n c T' q L lc ls Y yc ys W' :=
  ⟨k.blk_ h.box (by have := h.glt; omega), k.own' h.left h.glt, k.own' h.right h.glt, h.ne, s, h.kb.trans k, h.glt⟩
theorem CX.up (h : CX w0 g A n c T q L lc ls Y yc ys W) : w0.heap.size ≤ W.heap.size := h.kb.size
theorem CX.pushL {x : Int} {L2 : Option Addr} {c2 : Nat} (h : CX w0 g A n c T q L lc ls Y yc ys W) (ho : Own W' w0.heap.size 2 1 L2 (ls.length + 1) c2 (ints ls ++ [.int .i64 x])) (hg : W.grownBy W' (blk L)) (hn : blk L2 = blk L ∨ blk L2 = some W.heap.size) :
    CX w0 g A n c T q L2 c2 (ls ++ [x]) Y yc ys (W'.setCell ⟨w0.heap.size, 1, none⟩ (.slice L2 (ls.length + 1) c2)) := by
  have hb : Blk W' w0.heap.size 50 #[.int .i64 q, .slice L ls.length lc, .slice Y ys.length yc] := Blk.growt h.box h.left hg (by decide)
  have hY : Own W' w0.heap.size 2 1 Y ys.length yc (ints ys) := h.right.kept fun b hb hl hlt => hg.block b hlt (fun e => h.ne b e.symm hb)
  have hl : (ls ++ [x]).length = ls.length + 1 := by simp
  have k : Kb w0.heap.size W' (W'.setCell ⟨w0.heap.size, 1, none⟩ (.slice L2 (ls.length + 1) c2)) := (Kb.refl _ _).set_ 1 _
  have hs : Src g A n c T W' := h.src.grown' h.left h.glt hg
  have e2 : ints ls ++ [.int .i64 x] = ints (ls ++ [x]) := by simp [ints]
  rw [e2] at ho
  refine ⟨by rw [hl]; exact hb.set_ 1 _, by rw [hl]; exact k.own ho (hb.aptt ho (by decide)), k.own hY (hb.aptt hY (by decide)), ?_, hs.keepB (k.block g hs.lt (by have := h.glt; omega)), (h.kb.grown h.left (Nat.le_refl _) hg).set_up (p := ⟨w0.heap.size, 1, none⟩) (Nat.le_refl _) _, h.glt⟩
  intro b hb2 hY2
  rcases hn with e | e
  · exact h.ne b (by rw [← e]; exact hb2) hY2
  · rw [e] at hb2
    have := h.right.blk_lt b hY2
    simp only [Option.some.injEq] at hb2
    omega
theorem CX.pushY {x : Int} {L2 : Option Addr} {c2 : Nat} (h : CX w0 g A n c T q L lc ls Y yc ys W) (ho : Own W' w0.heap.size 2 1 L2 (ys.length + 1) c2 (ints ys ++ [.int .i64 x])) (hg : W.grownBy W' (blk Y)) (hn : blk L2 = blk Y ∨ blk L2 = some W.heap.size) :
    CX w0 g A n c T q L lc ls L2 c2 (ys ++ [x]) (W'.setCell ⟨w0.heap.size, 2, none⟩ (.slice L2 (ys.length + 1) c2)) := by
  have hb : Blk W' w0.heap.size 50 #[.int .i64 q, .slice L ls.length lc, .slice Y ys.length yc] := Blk.growt h.box h.right hg (by decide)
  have hY : Own W' w0.heap.size 2 1 L ls.length lc (ints ls) := h.left.kept fun b hb hl hlt => hg.block b hlt (fun e => h.ne b hb e.symm)
  have hl : (ys ++ [x]).length = ys.length + 1 := by simp
  have k : Kb w0.heap.size W' (W'.setCell ⟨w0.heap.size, 2, none⟩ (.slice L2 (ys.length + 1) c2)) := (Kb.refl _ _).set_ 2 _
  have hs : Src g A n c T W' := h.src.grown' h.right h.glt hg
  have e2 : ints ys ++ [.int .i64 x] = ints (ys ++ [x]) := by simp [ints]
  rw [e2] at ho
  refine ⟨by rw [hl]; exact hb.set_ 2 _, k.own hY (hb.aptt hY (by decide)), by rw [hl]; exact k.own ho (hb.aptt ho (by decide)), ?_, hs.keepB (k.block g hs.lt (by have := h.glt; omega)), (h.kb.grown h.right (Nat.le_refl _) hg).set_up (p := ⟨w0.heap.size, 2, none⟩) (Nat.le_refl _) _, h.glt⟩
  intro b hb2 hY2
  rcases hn with e | e
  · exact h.ne b hb2 (by rw [← e]; exact hY2)
  · rw [e] at hY2
    have := h.left.blk_lt b hb2
    simp only [Option.some.injEq] at hY2
    omega
end
set_option maxRecDepth 100000 in
set_option maxHeartbeats 8000000 in
theorem b10Small_any (A : Option Addr) (n c : Nat) (xs : List Int) (w : World) (hx : SB w A n xs) (hA : ∀ k, blk A = some k → k < w.heap.size) (hn : n ≤ 9223372036854775807) :
    Calls Try.prog 25 #[.slice A n c] w (DrewS w) := by
  have HX := Lib.hid hx
  have HA := Lib.hid hA
  clear hx hA
  obtain ⟨W, hW_⟩ : ∃ W, W = (w.alloc (.cells #[.int .i64 0, .int .i64 0, .slice none 0 0] 36)).alloc (.cells #[.int .i64 0, .slice none 0 0, .slice none 0 0] 50) := ⟨_, rfl⟩
  have s_1 : (w.alloc (.cells #[.int .i64 0, .int .i64 0, .slice none 0 0] 36)).heap.size = w.heap.size + 1 := by simp
  have b0 : Blk W w.heap.size 36 #[.int .i64 0, .int .i64 0, .slice none 0 0] := by rw [hW_]; exact (Blk.new w _ _).alloc _
  have b1 : Blk W (w.heap.size + 1) 50 #[.int .i64 0, .slice none 0 0, .slice none 0 0] := by rw [hW_, ← s_1]; exact Blk.new _ _ _
  have y0 : Below w.heap.size w W := by rw [hW_]; exact ((Below.refl _ _).alloc (Nat.le_refl _) _).alloc (by simp) _
  have HW := Lib.hid hW_
  clear hW_ s_1
  obtain ⟨g, hg⟩ : ∃ g, g = W.heap.size := ⟨_, rfl⟩
  have HG : Hid (w.heap.size + 1 < g) := Lib.hid (by rw [hg]; exact b1.lt)
  have HAg : Hid (∀ k, blk A = some k → k ≠ g) := Lib.hid (fun k hk => by have := HA.out k hk; have := HG.out; omega)
  go_enter Try.func25, Try.ntmps25
  go_upto_region 1 with fail
  rw [← HW.out]
  go_wp2_with fail
  refine (from_any A n c W).mono ?_
  rintro e1 w1 ⟨rfl, hs1, z1⟩
  rw [← hg] at hs1 ⊢
  have B0 := Lib.hid (b0.below' z1)
  have B1 := Lib.hid (b1.below' z1)
  have Z1 := Lib.hid (y0.trans (z1.mono y0.size))
  have HX1 := Lib.hid (HX.out.below Z1.out)
  clear b0 b1 y0 z1 hg
  go_wp2_with fail
  refine (pick_any g A n c 0 xs 2 _ HX1.out HAg.out hs1 (by omega) hn (by omega) (by omega)).mono ?_
  rintro e2 w2 ⟨x, rfl, hx0, hx1, hs2, hk2⟩
  have HX2 := Lib.hid (HX1.out.kb hk2 HAg.out)
  have KK2 := Lib.hid hk2
  have hst : (1 : Int) ≤ 1 + x ∧ 1 + x ≤ 2 := by omega
  obtain ⟨st, hst2⟩ : ∃ st, st = 1 + x := ⟨_, rfl⟩
  rw [← hst2] at hst
  have HST := Lib.hid hst2
  obtain ⟨hst0, hst1⟩ := hst
  clear hst2
  go_wp2_with fail
  rw [← HST.out]
  refine (drawSize_any g A n c 2 xs 2 st _ HX2.out HAg.out hs2 hs2.lt (by omega) hn (by omega) (by omega) hst0 (by omega)).mono ?_
  rintro e3 w3 ⟨R, rc, rs, rfl, hO3, hm3, hs3, hk3⟩
  have HX3 := Lib.hid (HX2.out.kb hk3 HAg.out)
  have KK3 := Lib.hid (KK2.out.trans hk3)
  have HO3 := Lib.hid hO3
  have HM := Lib.hid hm3
  have HL2 : Hid (w1.heap.size ≤ w2.heap.size) := Lib.hid KK2.out.size
  have HGW : Hid (g < w1.heap.size) := Lib.hid hs1.lt
  have HG3 : Hid (g < w3.heap.size) := Lib.hid hs3.lt
  clear hx0 hx1 hk2 hk3 hs1 hs2 hO3 hm3 HX1 HX2 KK2
  obtain ⟨W4, hW_⟩ : ∃ W_, W_ = w3.alloc (.cells #[.int .i64 2, .int .i64 st, .slice R rs.length rc] 36) := ⟨_, rfl⟩
  have b4 : Blk W4 w3.heap.size 36 #[.int .i64 2, .int .i64 st, .slice R rs.length rc] := by rw [hW_]; exact Blk.new w3 _ _
  have z4 : Below w3.heap.size w3 W4 := by rw [hW_]; exact (Below.refl _ _).alloc (Nat.le_refl _) _
  have HW4 := Lib.hid hW_
  clear hW_
  have HX4 := Lib.hid (HX3.out.below z4)
  have KK4 := Lib.hid (KK3.out.trans (Kb.of_below z4))
  have HO4 := Lib.hid (HO3.out.below z4)
  have HB4 := Lib.hid b4
  have hs4 := hs3.below z4
  have hw3 : w3.heap.size < W4.heap.size := b4.lt
  have u0 : W4.cell? ⟨w3.heap.size, 0, none⟩ = some (.int .i64 2) := b4.cell 0
  have u1 : W4.cell? ⟨w3.heap.size, 1, none⟩ = some (.int .i64 st) := b4.cell 1
  have u2 : W4.cell? ⟨w3.heap.size, 2, none⟩ = some (.slice R rs.length rc) := b4.cell 2
  clear z4 b4 hs3 HX3 KK3 HO3
  go_upto_region 3 with fail
  rw [← HW4.out]
  go_wp2_with fail
  refine (pick_any g A n c (2 + 3000) xs st _ HX4.out HAg.out hs4 (by omega) hn (by omega) (by omega)).mono ?_
  rintro e5 w5 ⟨q, rfl, hq0, hq1, hs5, hk5⟩
  have HX5 := Lib.hid (HX4.out.kb hk5 HAg.out)
  have HB5 := Lib.hid (hk5.blk_ HB4.out (by have := HG3.out; omega))
  have HO5 := Lib.hid (hk5.own' HO4.out (by have := HGW.out; have := HL2.out; omega))
  have KK5 := Lib.hid (KK4.out.trans hk5)
  have hg5 : g < w5.heap.size := hs5.lt
  have HQ : Hid (0 ≤ q ∧ q < st) := Lib.hid ⟨hq0, by omega⟩
  clear u0 u1 u2 hs4 hk5 HX4 HB4 HO4 KK4 hq0 hq1 hw3
  obtain ⟨W6, hW_⟩ : ∃ W_, W_ = w5.alloc (.cells #[.int .i64 q, .slice none 0 0, .slice none 0 0] 50) := ⟨_, rfl⟩
  have b6 : Blk W6 w5.heap.size 50 #[.int .i64 q, .slice none 0 0, .slice none 0 0] := by rw [hW_]; exact Blk.new w5 _ _
  have z6 : Below w5.heap.size w5 W6 := by rw [hW_]; exact (Below.refl _ _).alloc (Nat.le_refl _) _
  have HW6 := Lib.hid hW_
  clear hW_
  have hc6 : CX w5 g A n c (2 + 3000 + 2) q none 0 [] none 0 [] W6 := ⟨b6, Own.nil, Own.nil, (fun b h => by cases h), hs5.below z6, Kb.of_below z6, hg5⟩
  have HX6 := Lib.hid (HX5.out.below z6)
  go_upto_region 4 with fail
  rw [← HW6.out]
  go_wp2_with fail
  refine (pick_any g A n c (2 + 3000 + 2) xs 3 _ HX6.out HAg.out hc6.src (by omega) hn (by omega) (by omega)).mono ?_
  rintro e7 w7 ⟨x7, rfl, h70, h71, hs7, hk7⟩
  obtain ⟨N1, rfl⟩ : ∃ N1 : Nat, x7 = (N1 : Int) := ⟨x7.toNat, by omega⟩
  have hN1 : N1 ≤ 2 := by omega
  have HC7 := Lib.hid ((hc6.drawn hk7 hs7).le (T' := 3006 + 4 * 0) (by omega))
  clear b6 z6 hs5 hc6 hk7 hs7 h70 h71 HX6 HW6
  go_wp2_with fail
  go_loopw [7] (fun k wr => ∃ (j : Nat) (L : Option Addr) (lc : Nat) (ls : List Int), j ≤ N1 ∧ k = .int .i64 (j : Int) ∧ Hid (ls.length + j = N1) ∧ Hid (∀ x ∈ ls, 0 ≤ x ∧ x < 2) ∧ Hid (CX w5 g A n c (3006 + 4 * ls.length) q L lc ls none 0 [] wr)) (fun k _ => (intOf k).toNat)
  case atStart => exact ⟨N1, none, 0, [], Nat.le_refl _, rfl, Lib.hid (by simp), Lib.hid (by simp), HC7⟩
  case round =>
    obtain ⟨j, L, lc, ls, hj, rfl, HL, HV, HC⟩ := hrel
    clear HC7
    by_cases hj0 : 0 < j
    · have hll : ls.length ≤ 2 := by have := HL.out; omega
      have hq := HC.out
      go_upto_block 1 with fail
      go_cut [30] (fun _ wx => ∃ (L2 : Option Addr) (c2 : Nat) (x : Int), 0 ≤ x ∧ x < 2 ∧ CX w5 g A n c (3006 + 4 * ls.length + 2) q L2 c2 (ls ++ [x]) none 0 [] wx)
      case first =>
        go_upto_region 7 with fail
        refine wp_region_noPanic ?_
        refine wp_region_held_drew (S := (fun _ => True)) (by kernel_rfl) ?_ (fun hHeld => ?_)
        · trivial
        replace hq := hq.below (show Below wr.heap.size wr wr.drew from below_drewN (Below.refl _ _) 1)
        generalize wr.drew = Wc at *
        refine wpAnyH_take (i := 0) (v := ?_) rfl (by kernel_rfl) (by kernel_rfl) (by kernel_rfl) (fun _ _ _ h => h) (Or.inl ⟨by rfl, ?_⟩) (by assumption) ?_
        rotate_left
        · intro w hSw
          try dsimp only at hSw
          go_simp
          try with_reducible rfl
        try simp only [Act.put, List.setIfInBounds_toArray, List.set_cons_zero, List.set_cons_succ]
        refine wpAnyH_take (i := 2) (v := ?_) rfl (by kernel_rfl) (by kernel_rfl) (by kernel_rfl) (fun _ _ _ h => h) (Or.inl ⟨by rfl, ?_⟩) (by assumption) ?_
        rotate_left
        · intro w hSw
          try dsimp only at hSw
          go_simp
          try with_reducible rfl
        try simp only [Act.put, List.setIfInBounds_toArray, List.set_cons_zero, List.set_cons_succ]
        refine wpAnyH_ready (rs := [1, 3]) (by kernel_rfl) (by simp) ?_
        refine AllReadyH.cons rfl (fun K hK => ?_) ?_
        · have cc1 := hq.box.cell 1
          go_simp
          clear cc1
          refine hK.out _ _ ?_ (fun hHeld => ?_)
          · trivial
          clear hK K
          try simp only [Act.put, List.setIfInBounds_toArray, List.set_cons_zero, List.set_cons_succ]
          refine wpAnyH_ready (rs := [3]) (by kernel_rfl) (by simp) ?_
          refine AllReadyH.cons rfl (fun K hK => ?_) ?_
          · go_simp
            refine (pick_any g A n c (3006 + 4 * ls.length) xs 2 _ (HX5.out.kb hq.kb HAg.out) HAg.out hq.src (by omega) hn (by omega) (by omega)).mono ?_
            rintro e8 w8 ⟨x, rfl, hx0, hx1, hs8, hk8⟩
            replace hq := hq.drawn hk8 hs8
            refine hK.out _ _ ?_ (fun hHeld => ?_)
            · trivial
            clear hK K
            try simp only [Act.put, List.setIfInBounds_toArray, List.set_cons_zero, List.set_cons_succ]
            refine wpAnyH_ready (rs := [4]) (by kernel_rfl) (by simp) ?_
            refine AllReadyH.cons rfl (fun K hK => ?_) ?_
            · go_simp
              have z8 : Below w8.heap.size w8 (w8.alloc (.cells #[.int .i64 x] 2)) := (Below.refl _ _).alloc (Nat.le_refl _) _
              replace hq := hq.below z8
              refine hK.out _ _ ?_ (fun hHeld => ?_)
              · trivial
              clear hK K
              try simp only [Act.put, List.setIfInBounds_toArray, List.set_cons_zero, List.set_cons_succ]
              refine wpAnyH_ready (rs := [5]) (by kernel_rfl) (by simp) ?_
              refine AllReadyH.cons rfl (fun K hK => ?_) ?_
              · rw [if_pos (by rfl)]
                refine wp_append_Own (.tmp 28) (.tmp 31) rfl elI (lo := w5.heap.size) rfl hq.left rfl (Rd.new1 _ (.int .i64 x) _) (by simp [Value.oneCell']) (by omega) (by simp only [maxLen]; omega) hq.up ?_
                intro A3 c3 W3 ho3 hg3 hw3
                have hqF := hq.pushL ho3 hg3 hw3.1
                have hb3 := Blk.growt hq.box hq.left hg3 (by decide)
                refine hK.out _ _ ?_ (fun hHeld => ?_)
                · trivial
                clear hK K
                try simp only [Act.put, List.setIfInBounds_toArray, List.set_cons_zero, List.set_cons_succ]
                refine wpAnyH_take (i := 6) (v := ?_) rfl (by kernel_rfl) (by kernel_rfl) (by kernel_rfl) (fun _ _ _ h => h) (Or.inl ⟨by rfl, ?_⟩) (by assumption) ?_
                rotate_left
                · intro w hSw
                  try dsimp only at hSw
                  go_simp
                  try with_reducible rfl
                try simp only [Act.put, List.setIfInBounds_toArray, List.set_cons_zero, List.set_cons_succ]
                refine wpAnyH_ready (rs := [7]) (by kernel_rfl) (by simp) ?_
                refine AllReadyH.cons rfl (fun K hK => ?_) ?_
                · have cc1 := hb3.cell 1
                  have ff1 := hb3.frozen 1
                  go_simp
                  clear cc1 ff1
                  refine hK.out _ _ ?_ (fun hHeld => ?_)
                  · trivial
                  clear hK K
                  try simp only [Act.put, List.setIfInBounds_toArray]
                  refine wpAnyH_done (by kernel_rfl) ?_ _
                  refine NoPanic.normal ?_
                  go_wp2_with fail
                  go_meet
                  exact ⟨A3, c3, x, hx0, by omega, hqF⟩
                exact AllReadyH.nil
              exact AllReadyH.nil
            exact AllReadyH.nil
          exact AllReadyH.nil
        refine AllReadyH.cons rfl (fun K hK => ?_) ?_
        · go_simp
          refine (pick_any g A n c (3006 + 4 * ls.length) xs 2 _ (HX5.out.kb hq.kb HAg.out) HAg.out hq.src (by omega) hn (by omega) (by omega)).mono ?_
          rintro e8 w8 ⟨x, rfl, hx0, hx1, hs8, hk8⟩
          replace hq := hq.drawn hk8 hs8
          refine hK.out _ _ ?_ (fun hHeld => ?_)
          · trivial
          clear hK K
          try simp only [Act.put, List.setIfInBounds_toArray, List.set_cons_zero, List.set_cons_succ]
          refine wpAnyH_ready (rs := [1, 4]) (by kernel_rfl) (by simp) ?_
          refine AllReadyH.cons rfl (fun K hK => ?_) ?_
          · have cc1 := hq.box.cell 1
            go_simp
            clear cc1
            refine hK.out _ _ ?_ (fun hHeld => ?_)
            · trivial
            clear hK K
            try simp only [Act.put, List.setIfInBounds_toArray, List.set_cons_zero, List.set_cons_succ]
            refine wpAnyH_ready (rs := [4]) (by kernel_rfl) (by simp) ?_
            refine AllReadyH.cons rfl (fun K hK => ?_) ?_
            · go_simp
              have z8 : Below w8.heap.size w8 (w8.alloc (.cells #[.int .i64 x] 2)) := (Below.refl _ _).alloc (Nat.le_refl _) _
              replace hq := hq.below z8
              refine hK.out _ _ ?_ (fun hHeld => ?_)
              · trivial
              clear hK K
              try simp only [Act.put, List.setIfInBounds_toArray, List.set_cons_zero, List.set_cons_succ]
              refine wpAnyH_ready (rs := [5]) (by kernel_rfl) (by simp) ?_
              refine AllReadyH.cons rfl (fun K hK => ?_) ?_
              · rw [if_pos (by rfl)]
                refine wp_append_Own (.tmp 28) (.tmp 31) rfl elI (lo := w5.heap.size) rfl hq.left rfl (Rd.new1 _ (.int .i64 x) _) (by simp [Value.oneCell']) (by omega) (by simp only [maxLen]; omega) hq.up ?_
                intro A3 c3 W3 ho3 hg3 hw3
                have hqF := hq.pushL ho3 hg3 hw3.1
                have hb3 := Blk.growt hq.box hq.left hg3 (by decide)
                refine hK.out _ _ ?_ (fun hHeld => ?_)
                · trivial
                clear hK K
                try simp only [Act.put, List.setIfInBounds_toArray, List.set_cons_zero, List.set_cons_succ]
                refine wpAnyH_take (i := 6) (v := ?_) rfl (by kernel_rfl) (by kernel_rfl) (by kernel_rfl) (fun _ _ _ h => h) (Or.inl ⟨by rfl, ?_⟩) (by assumption) ?_
                rotate_left
                · intro w hSw
                  try dsimp only at hSw
                  go_simp
                  try with_reducible rfl
                try simp only [Act.put, List.setIfInBounds_toArray, List.set_cons_zero, List.set_cons_succ]
                refine wpAnyH_ready (rs := [7]) (by kernel_rfl) (by simp) ?_
                refine AllReadyH.cons rfl (fun K hK => ?_) ?_
                · have cc1 := hb3.cell 1
                  have ff1 := hb3.frozen 1
                  go_simp
                  clear cc1 ff1
                  refine hK.out _ _ ?_ (fun hHeld => ?_)
                  · trivial
                  clear hK K
                  try simp only [Act.put, List.setIfInBounds_toArray]
                  refine wpAnyH_done (by kernel_rfl) ?_ _
                  refine NoPanic.normal ?_
                  go_wp2_with fail
                  go_meet
                  exact ⟨A3, c3, x, hx0, by omega, hqF⟩
                exact AllReadyH.nil
              exact AllReadyH.nil
            exact AllReadyH.nil
          refine AllReadyH.cons rfl (fun K hK => ?_) ?_
          · go_simp
            have z8 : Below w8.heap.size w8 (w8.alloc (.cells #[.int .i64 x] 2)) := (Below.refl _ _).alloc (Nat.le_refl _) _
            replace hq := hq.below z8
            refine hK.out _ _ ?_ (fun hHeld => ?_)
            · trivial
            clear hK K
            try simp only [Act.put, List.setIfInBounds_toArray, List.set_cons_zero, List.set_cons_succ]
            refine wpAnyH_ready (rs := [1]) (by kernel_rfl) (by simp) ?_
            refine AllReadyH.cons rfl (fun K hK => ?_) ?_
            · have cc1 := hq.box.cell 1
              go_simp
              clear cc1
              refine hK.out _ _ ?_ (fun hHeld => ?_)
              · trivial
              clear hK K
              try simp only [Act.put, List.setIfInBounds_toArray, List.set_cons_zero, List.set_cons_succ]
              refine wpAnyH_ready (rs := [5]) (by kernel_rfl) (by simp) ?_
              refine AllReadyH.cons rfl (fun K hK => ?_) ?_
              · rw [if_pos (by rfl)]
                refine wp_append_Own (.tmp 28) (.tmp 31) rfl elI (lo := w5.heap.size) rfl hq.left rfl (Rd.new1 _ (.int .i64 x) _) (by simp [Value.oneCell']) (by omega) (by simp only [maxLen]; omega) hq.up ?_
                intro A3 c3 W3 ho3 hg3 hw3
                have hqF := hq.pushL ho3 hg3 hw3.1
                have hb3 := Blk.growt hq.box hq.left hg3 (by decide)
                refine hK.out _ _ ?_ (fun hHeld => ?_)
                · trivial
                clear hK K
                try simp only [Act.put, List.setIfInBounds_toArray, List.set_cons_zero, List.set_cons_succ]
                refine wpAnyH_take (i := 6) (v := ?_) rfl (by kernel_rfl) (by kernel_rfl) (by kernel_rfl) (fun _ _ _ h => h) (Or.inl ⟨by rfl, ?_⟩) (by assumption) ?_
                rotate_left
                · intro w hSw
                  try dsimp only at hSw
                  go_simp
                  try with_reducible rfl
                try simp only [Act.put, List.setIfInBounds_toArray, List.set_cons_zero, List.set_cons_succ]
                refine wpAnyH_ready (rs := [7]) (by kernel_rfl) (by simp) ?_
                refine AllReadyH.cons rfl (fun K hK => ?_) ?_
                · have cc1 := hb3.cell 1
                  have ff1 := hb3.frozen 1
                  go_simp
                  clear cc1 ff1
                  refine hK.out _ _ ?_ (fun hHeld => ?_)
                  · trivial
                  clear hK K
                  try simp only [Act.put, List.setIfInBounds_toArray]
                  refine wpAnyH_done (by kernel_rfl) ?_ _
                  refine NoPanic.normal ?_
                  go_wp2_with fail
                  go_meet
                  exact ⟨A3, c3, x, hx0, by omega, hqF⟩
                exact AllReadyH.nil
              exact AllReadyH.nil
            exact AllReadyH.nil
          exact AllReadyH.nil
        exact AllReadyH.nil
      case rest =>
        obtain ⟨L2, c2, x, hx0, hx1, hc⟩ := hcut
        have hlen : (ls ++ [x]).length = ls.length + 1 := by simp
        have HLN := Lib.hid hlen
        clear hlen hq
        go_wp2_with fail
        exact ⟨⟨j - 1, L2, c2, ls ++ [x], by omega, by go_num, Lib.hid (by rw [HLN.out]; have := HL.out; omega), Lib.hid (fun y hy => by
          rcases List.mem_append.1 hy with h | h
          · exact HV.out y h
          · rw [List.mem_singleton.1 h]; exact ⟨hx0, hx1⟩), Lib.hid (hc.le (by rw [HLN.out]; omega))⟩, by simp [intOf]; omega⟩
    · obtain rfl : j = 0 := by omega
      have HLL : Hid (ls.length ≤ 2) := Lib.hid (by have := HL.out; omega)
      rename World => w8
      go_wp2_with fail
      refine (pick_any g A n c (3006 + 4 * ls.length) xs 4 _ (HX5.out.kb HC.out.kb HAg.out) HAg.out HC.out.src (by have := HLL.out; omega) hn (by omega) (by omega)).mono ?_
      rintro e9 w9 ⟨x9, rfl, h90, h91, hs9, hk9⟩
      obtain ⟨N2, rfl⟩ : ∃ N2 : Nat, x9 = (N2 : Int) := ⟨x9.toNat, by omega⟩
      have hN2 : N2 ≤ 3 := by omega
      have HC9 := Lib.hid ((HC.out.drawn hk9 hs9).le (T' := 3020 + 4 * 0) (by have := HLL.out; omega))
      clear hk9 hs9 h90 h91 HC
      go_wp2_with fail
      go_loopw [8] (fun k wr => ∃ (j : Nat) (Y : Option Addr) (yc : Nat) (ys : List Int), j ≤ N2 ∧ k = .int .i64 (j : Int) ∧ Hid (ys.length + j = N2) ∧ Hid (∀ x ∈ ys, 0 ≤ x ∧ x < 2) ∧ Hid (CX w5 g A n c (3020 + 4 * ys.length) q L lc ls Y yc ys wr)) (fun k _ => (intOf k).toNat)
      case atStart => exact ⟨N2, none, 0, [], Nat.le_refl _, rfl, Lib.hid (by simp), Lib.hid (by simp), HC9⟩
      case round =>
        obtain ⟨j, Y, yc, ys, hj, rfl, HL2', HV2, HC⟩ := hrel
        clear HC9
        by_cases hj0 : 0 < j
        · have hll : ys.length ≤ 3 := by have := HL2'.out; omega
          have hq := HC.out
          go_upto_block 3 with fail
          go_cut [43] (fun _ wx => ∃ (L2 : Option Addr) (c2 : Nat) (x : Int), 0 ≤ x ∧ x < 2 ∧ CX w5 g A n c (3020 + 4 * ys.length + 2) q L lc ls L2 c2 (ys ++ [x]) wx)
          case first =>
            go_upto_region 11 with fail
            refine wp_region_noPanic ?_
            refine wp_region_held_drew (S := (fun _ => True)) (by kernel_rfl) ?_ (fun hHeld => ?_)
            · trivial
            replace hq := hq.below (show Below wr.heap.size wr wr.drew from below_drewN (Below.refl _ _) 1)
            generalize wr.drew = Wc at *
            refine wpAnyH_take (i := 0) (v := ?_) rfl (by kernel_rfl) (by kernel_rfl) (by kernel_rfl) (fun _ _ _ h => h) (Or.inl ⟨by rfl, ?_⟩) (by assumption) ?_
            rotate_left
            · intro w hSw
              try dsimp only at hSw
              go_simp
              try with_reducible rfl
            try simp only [Act.put, List.setIfInBounds_toArray, List.set_cons_zero, List.set_cons_succ]
            refine wpAnyH_take (i := 2) (v := ?_) rfl (by kernel_rfl) (by kernel_rfl) (by kernel_rfl) (fun _ _ _ h => h) (Or.inl ⟨by rfl, ?_⟩) (by assumption) ?_
            rotate_left
            · intro w hSw
              try dsimp only at hSw
              go_simp
              try with_reducible rfl
            try simp only [Act.put, List.setIfInBounds_toArray, List.set_cons_zero, List.set_cons_succ]
            refine wpAnyH_ready (rs := [1, 3]) (by kernel_rfl) (by simp) ?_
            refine AllReadyH.cons rfl (fun K hK => ?_) ?_
            · have cc1 := hq.box.cell 2
              go_simp
              clear cc1
              refine hK.out _ _ ?_ (fun hHeld => ?_)
              · trivial
              clear hK K
              try simp only [Act.put, List.setIfInBounds_toArray, List.set_cons_zero, List.set_cons_succ]
              refine wpAnyH_ready (rs := [3]) (by kernel_rfl) (by simp) ?_
              refine AllReadyH.cons rfl (fun K hK => ?_) ?_
              · go_simp
                refine (pick_any g A n c (3020 + 4 * ys.length) xs 2 _ (HX5.out.kb hq.kb HAg.out) HAg.out hq.src (by omega) hn (by omega) (by omega)).mono ?_
                rintro e8 w8 ⟨x, rfl, hx0, hx1, hs8, hk8⟩
                replace hq := hq.drawn hk8 hs8
                refine hK.out _ _ ?_ (fun hHeld => ?_)
                · trivial
                clear hK K
                try simp only [Act.put, List.setIfInBounds_toArray, List.set_cons_zero, List.set_cons_succ]
                refine wpAnyH_ready (rs := [4]) (by kernel_rfl) (by simp) ?_
                refine AllReadyH.cons rfl (fun K hK => ?_) ?_
                · go_simp
                  have z8 : Below w8.heap.size w8 (w8.alloc (.cells #[.int .i64 x] 2)) := (Below.refl _ _).alloc (Nat.le_refl _) _
                  replace hq := hq.below z8
                  refine hK.out _ _ ?_ (fun hHeld => ?_)
                  · trivial
                  clear hK K
                  try simp only [Act.put, List.setIfInBounds_toArray, List.set_cons_zero, List.set_cons_succ]
                  refine wpAnyH_ready (rs := [5]) (by kernel_rfl) (by simp) ?_
                  refine AllReadyH.cons rfl (fun K hK => ?_) ?_
                  · rw [if_pos (by rfl)]
                    refine wp_append_Own (.tmp 41) (.tmp 44) rfl elI (lo := w5.heap.size) rfl hq.right rfl (Rd.new1 _ (.int .i64 x) _) (by simp [Value.oneCell']) (by omega) (by simp only [maxLen]; omega) hq.up ?_
                    intro A3 c3 W3 ho3 hg3 hw3
                    have hqF := hq.pushY ho3 hg3 hw3.1
                    have hb3 := Blk.growt hq.box hq.right hg3 (by decide)
                    refine hK.out _ _ ?_ (fun hHeld => ?_)
                    · trivial
                    clear hK K
                    try simp only [Act.put, List.setIfInBounds_toArray, List.set_cons_zero, List.set_cons_succ]
                    refine wpAnyH_take (i := 6) (v := ?_) rfl (by kernel_rfl) (by kernel_rfl) (by kernel_rfl) (fun _ _ _ h => h) (Or.inl ⟨by rfl, ?_⟩) (by assumption) ?_
                    rotate_left
                    · intro w hSw
                      try dsimp only at hSw
                      go_simp
                      try with_reducible rfl
                    try simp only [Act.put, List.setIfInBounds_toArray, List.set_cons_zero, List.set_cons_succ]
                    refine wpAnyH_ready (rs := [7]) (by kernel_rfl) (by simp) ?_
                    refine AllReadyH.cons rfl (fun K hK => ?_) ?_
                    · have cc1 := hb3.cell 2
                      have ff1 := hb3.frozen 2
                      go_simp
                      clear cc1 ff1
                      refine hK.out _ _ ?_ (fun hHeld => ?_)
                      · trivial
                      clear hK K
                      try simp only [Act.put, List.setIfInBounds_toArray]
                      refine wpAnyH_done (by kernel_rfl) ?_ _
                      refine NoPanic.normal ?_
                      go_wp2_with fail
                      go_meet
                      exact ⟨A3, c3, x, hx0, by omega, hqF⟩
                    exact AllReadyH.nil
                  exact AllReadyH.nil
                exact AllReadyH.nil
              exact AllReadyH.nil
            refine AllReadyH.cons rfl (fun K hK => ?_) ?_
            · go_simp
              refine (pick_any g A n c (3020 + 4 * ys.length) xs 2 _ (HX5.out.kb hq.kb HAg.out) HAg.out hq.src (by omega) hn (by omega) (by omega)).mono ?_
              rintro e8 w8 ⟨x, rfl, hx0, hx1, hs8, hk8⟩
              replace hq := hq.drawn hk8 hs8
              refine hK.out _ _ ?_ (fun hHeld => ?_)
              · trivial
              clear hK K
              try simp only [Act.put, List.setIfInBounds_toArray, List.set_cons_zero, List.set_cons_succ]
              refine wpAnyH_ready (rs := [1, 4]) (by kernel_rfl) (by simp) ?_
              refine AllReadyH.cons rfl (fun K hK => ?_) ?_
              · have cc1 := hq.box.cell 2
                go_simp
                clear cc1
                refine hK.out _ _ ?_ (fun hHeld => ?_)
                · trivial
                clear hK K
                try simp only [Act.put, List.setIfInBounds_toArray, List.set_cons_zero, List.set_cons_succ]
                refine wpAnyH_ready (rs := [4]) (by kernel_rfl) (by simp) ?_
                refine AllReadyH.cons rfl (fun K hK => ?_) ?_
                · go_simp
                  have z8 : Below w8.heap.size w8 (w8.alloc (.cells #[.int .i64 x] 2)) := (Below.refl _ _).alloc (Nat.le_refl _) _
                  replace hq := hq.below z8
                  refine hK.out _ _ ?_ (fun hHeld => ?_)
                  · trivial
                  clear hK K
                  try simp only [Act.put, List.setIfInBounds_toArray, List.set_cons_zero, List.set_cons_succ]
                  refine wpAnyH_ready (rs := [5]) (by kernel_rfl) (by simp) ?_
                  refine AllReadyH.cons rfl (fun K hK => ?_) ?_
                  · rw [if_pos (by rfl)]
                    refine wp_append_Own (.tmp 41) (.tmp 44) rfl elI (lo := w5.heap.size) rfl hq.right rfl (Rd.new1 _ (.int .i64 x) _) (by simp [Value.oneCell']) (by omega) (by simp only [maxLen]; omega) hq.up ?_
                    intro A3 c3 W3 ho3 hg3 hw3
                    have hqF := hq.pushY ho3 hg3 hw3.1
                    have hb3 := Blk.growt hq.box hq.right hg3 (by decide)
                    refine hK.out _ _ ?_ (fun hHeld => ?_)
                    · trivial
                    clear hK K
                    try simp only [Act.put, List.setIfInBounds_toArray, List.set_cons_zero, List.set_cons_succ]
                    refine wpAnyH_take (i := 6) (v := ?_) rfl (by kernel_rfl) (by kernel_rfl) (by kernel_rfl) (fun _ _ _ h => h) (Or.inl ⟨by rfl, ?_⟩) (by assumption) ?_
                    rotate_left
                    · intro w hSw
                      try dsimp only at hSw
                      go_simp
                      try with_reducible rfl
                    try simp only [Act.put, List.setIfInBounds_toArray, List.set_cons_zero, List.set_cons_succ]
                    refine wpAnyH_ready (rs := [7]) (by kernel_rfl) (by simp) ?_
                    refine AllReadyH.cons rfl (fun K hK => ?_) ?_
                    · have cc1 := hb3.cell 2
                      have ff1 := hb3.frozen 2
                      go_simp
                      clear cc1 ff1
                      refine hK.out _ _ ?_ (fun hHeld => ?_)
                      · trivial
                      clear hK K
                      try simp only [Act.put, List.setIfInBounds_toArray]
                      refine wpAnyH_done (by kernel_rfl) ?_ _
                      refine NoPanic.normal ?_
                      go_wp2_with fail
                      go_meet
                      exact ⟨A3, c3, x, hx0, by omega, hqF⟩
                    exact AllReadyH.nil
                  exact AllReadyH.nil
                exact AllReadyH.nil
              refine AllReadyH.cons rfl (fun K hK => ?_) ?_
              · go_simp
                have z8 : Below w8.heap.size w8 (w8.alloc (.cells #[.int .i64 x] 2)) := (Below.refl _ _).alloc (Nat.le_refl _) _
                replace hq := hq.below z8
                refine hK.out _ _ ?_ (fun hHeld => ?_)
                · trivial
                clear hK K
                try simp only [Act.put, List.setIfInBounds_toArray, List.set_cons_zero, List.set_cons_succ]
                refine wpAnyH_ready (rs := [1]) (by kernel_rfl) (by simp) ?_
                refine AllReadyH.cons rfl (fun K hK => ?_) ?_
                · have cc1 := hq.box.cell 2
                  go_simp
                  clear cc1
                  refine hK.out _ _ ?_ (fun hHeld => ?_)
                  · trivial
                  clear hK K
                  try simp only [Act.put, List.setIfInBounds_toArray, List.set_cons_zero, List.set_cons_succ]
                  refine wpAnyH_ready (rs := [5]) (by kernel_rfl) (by simp) ?_
                  refine AllReadyH.cons rfl (fun K hK => ?_) ?_
                  · rw [if_pos (by rfl)]
                    refine wp_append_Own (.tmp 41) (.tmp 44) rfl elI (lo := w5.heap.size) rfl hq.right rfl (Rd.new1 _ (.int .i64 x) _) (by simp [Value.oneCell']) (by omega) (by simp only [maxLen]; omega) hq.up ?_
                    intro A3 c3 W3 ho3 hg3 hw3
                    have hqF := hq.pushY ho3 hg3 hw3.1
                    have hb3 := Blk.growt hq.box hq.right hg3 (by decide)
                    refine hK.out _ _ ?_ (fun hHeld => ?_)
                    · trivial
                    clear hK K
                    try simp only [Act.put, List.setIfInBounds_toArray, List.set_cons_zero, List.set_cons_succ]
                    refine wpAnyH_take (i := 6) (v := ?_) rfl (by kernel_rfl) (by kernel_rfl) (by kernel_rfl) (fun _ _ _ h => h) (Or.inl ⟨by rfl, ?_⟩) (by assumption) ?_
                    rotate_left
                    · intro w hSw
                      try dsimp only at hSw
                      go_simp
                      try with_reducible rfl
                    try simp only [Act.put, List.setIfInBounds_toArray, List.set_cons_zero, List.set_cons_succ]
                    refine wpAnyH_ready (rs := [7]) (by kernel_rfl) (by simp) ?_
                    refine AllReadyH.cons rfl (fun K hK => ?_) ?_
                    · have cc1 := hb3.cell 2
                      have ff1 := hb3.frozen 2
                      go_simp
                      clear cc1 ff1
                      refine hK.out _ _ ?_ (fun hHeld => ?_)
                      · trivial
                      clear hK K
                      try simp only [Act.put, List.setIfInBounds_toArray]
                      refine wpAnyH_done (by kernel_rfl) ?_ _
                      refine NoPanic.normal ?_
                      go_wp2_with fail
                      go_meet
                      exact ⟨A3, c3, x, hx0, by omega, hqF⟩
                    exact AllReadyH.nil
                  exact AllReadyH.nil
                exact AllReadyH.nil
              exact AllReadyH.nil
            exact AllReadyH.nil
          case rest =>
            obtain ⟨L2, c2, x, hx0, hx1, hc⟩ := hcut
            have hlen : (ys ++ [x]).length = ys.length + 1 := by simp
            have HLN := Lib.hid hlen
            clear hlen hq
            go_wp2_with fail
            exact ⟨⟨j - 1, L2, c2, ys ++ [x], by omega, by go_num, Lib.hid (by rw [HLN.out]; have := HL2'.out; omega), Lib.hid (fun y hy => by
              rcases List.mem_append.1 hy with h | h
              · exact HV2.out y h
              · rw [List.mem_singleton.1 h]; exact ⟨hx0, hx1⟩), Lib.hid (hc.le (by rw [HLN.out]; omega))⟩, by simp [intOf]; omega⟩
        · obtain rfl : j = 0 := by omega
          have hyl : ys.length ≤ 3 := by have := HL2'.out; omega
          have hll := HLL.out
          rename World => w10
          have hC := HC.out
          have HSC : Hid (SmallC st rs q (trimI ls) (trimI ys)) := Lib.hid (small_c hst0 hst1 HM.out HQ.out.1 HQ.out.2 hll HV.out hyl HV2.out)
          have hbx := hC.box
          have u0 : w10.cell? ⟨w5.heap.size, 0, none⟩ = some (.int .i64 q) := hbx.cell 0
          have u1 : w10.cell? ⟨w5.heap.size, 1, none⟩ = some (.slice L ls.length lc) := hbx.cell 1
          have u2 : w10.cell? ⟨w5.heap.size, 2, none⟩ = some (.slice Y ys.length yc) := hbx.cell 2
          go_upto_region 13 with (go_at_call 108; refine (l05Trim_any L _ lc ls _ hC.left.rd (by omega) hC.left.le).mono ?_; rintro e w11 ⟨L2, a2, rfl, o11, z11⟩; have hb11 := hbx.below' z11; have k1 : w11.cell? ⟨w5.heap.size, 1, none⟩ = some (.slice L ls.length lc) := hb11.cell 1; have f1 := hb11.frozen 1)
          obtain ⟨W12, hW12⟩ : ∃ W, W = w11.setCell ⟨w5.heap.size, 1, none⟩ (.slice L2 (trimI ls).length a2) := ⟨_, rfl⟩
          rw [← hW12]
          have kb12 : Kb w5.heap.size w11 W12 := by rw [hW12]; exact (Kb.refl _ _).set_ 1 _
          have hb12 : Blk W12 w5.heap.size 50 #[.int .i64 q, .slice L2 (trimI ls).length a2, .slice Y ys.length yc] := by rw [hW12]; exact hb11.set_ 1 _
          have ho12 := kb12.own o11 (hb11.aptt o11 (by decide))
          have hY11 := hC.right.below z11
          have hY12 := kb12.own hY11 (hb11.aptt hY11 (by decide))
          have hK12 : Kb g w5 W12 := by rw [hW12]; exact (hC.kb.trans (Kb.of_below z11)).set_up (p := ⟨w5.heap.size, 1, none⟩) (Nat.le_refl _) _
          clear u0 u1 u2 k1 f1 hbx hW12
          have u0 : W12.cell? ⟨w5.heap.size, 0, none⟩ = some (.int .i64 q) := hb12.cell 0
          have u1 : W12.cell? ⟨w5.heap.size, 1, none⟩ = some (.slice L2 (trimI ls).length a2) := hb12.cell 1
          have u2 : W12.cell? ⟨w5.heap.size, 2, none⟩ = some (.slice Y ys.length yc) := hb12.cell 2
          go_upto_region 14 with (go_at_call 108; refine (l05Trim_any Y _ yc ys _ hY12.rd (by omega) hY12.le).mono ?_; rintro e w13 ⟨Y2, b2, rfl, o13, z13⟩; have hb13 := hb12.below' z13; have k1 : w13.cell? ⟨w5.heap.size, 2, none⟩ = some (.slice Y ys.length yc) := hb13.cell 2; have f1 := hb13.frozen 2)
          obtain ⟨W14, hW14⟩ : ∃ W, W = w13.setCell ⟨w5.heap.size, 2, none⟩ (.slice Y2 (trimI ys).length b2) := ⟨_, rfl⟩
          rw [← hW14]
          have kb14 : Kb w5.heap.size w13 W14 := by rw [hW14]; exact (Kb.refl _ _).set_ 2 _
          have hb14 : Blk W14 w5.heap.size 50 #[.int .i64 q, .slice L2 (trimI ls).length a2, .slice Y2 (trimI ys).length b2] := by rw [hW14]; exact hb13.set_ 2 _
          have ho14 := kb14.own o13 (hb13.aptt o13 (by decide))
          have hL13 := ho12.below z13
          have hL14 := kb14.own hL13 (hb13.aptt hL13 (by decide))
          have hK14 : Kb g w5 W14 := by rw [hW14]; exact (hK12.trans (Kb.of_below z13)).set_up (p := ⟨w5.heap.size, 2, none⟩) (Nat.le_refl _) _
          have HS10 : Hid (w5.heap.size ≤ w10.heap.size) := Lib.hid hC.kb.size
          have HS12 : Hid (w5.heap.size ≤ W12.heap.size) := Lib.hid hK12.size
          have HL14 := Lib.hid hL14
          have HY14 := Lib.hid ho14
          have HK14 := Lib.hid hK14
          have hm14 := hK14.blk_ HB5.out (by have := HG3.out; omega)
          have K114 := Lib.hid (KK5.out.trans hK14)
          have c0 := K114.out.blk_ B0.out (by have := HG.out; omega)
          have c1 := K114.out.blk_ B1.out (by have := HG.out; omega)
          clear u0 u1 u2 k1 f1 hW14 hK12 hK14 kb12 kb14 hb11 hb12 hb13 hL13 hL14 ho14 ho12 o11 o13 hY11 hY12 z11 z13 hC
          have u0 : W14.cell? ⟨w5.heap.size, 0, none⟩ = some (.int .i64 q) := hb14.cell 0
          have u1 : W14.cell? ⟨w5.heap.size, 1, none⟩ = some (.slice L2 (trimI ls).length a2) := hb14.cell 1
          have u2 : W14.cell? ⟨w5.heap.size, 2, none⟩ = some (.slice Y2 (trimI ys).length b2) := hb14.cell 2
          have v0 : W14.cell? ⟨w3.heap.size, 0, none⟩ = some (.int .i64 2) := hm14.cell 0
          have v1 : W14.cell? ⟨w3.heap.size, 1, none⟩ = some (.int .i64 st) := hm14.cell 1
          have v2 : W14.cell? ⟨w3.heap.size, 2, none⟩ = some (.slice R rs.length rc) := hm14.cell 2
          have r0 : W14.cell? ⟨w.heap.size, 0, none⟩ = some (.int .i64 0) := c0.cell 0
          have r1 : W14.cell? ⟨w.heap.size, 1, none⟩ = some (.int .i64 0) := c0.cell 1
          have r2 : W14.cell? ⟨w.heap.size, 2, none⟩ = some (.slice none 0 0) := c0.cell 2
          have t0 : W14.cell? ⟨(w.heap.size + 1), 0, none⟩ = some (.int .i64 0) := c1.cell 0
          have t1 : W14.cell? ⟨(w.heap.size + 1), 1, none⟩ = some (.slice none 0 0) := c1.cell 1
          have t2 : W14.cell? ⟨(w.heap.size + 1), 2, none⟩ = some (.slice none 0 0) := c1.cell 2
          have f0 := c0.frozen 0
          have f1 := c0.frozen 1
          have f2 := c0.frozen 2
          have j0 := c1.frozen 0
          have j1 := c1.frozen 1
          have j2 := c1.frozen 2
          have hne : w.heap.size < w3.heap.size := by have := HG3.out; have := HG.out; omega
          have hne2 : w.heap.size + 1 < w5.heap.size := by have := HG.out; omega
          have HZW := Lib.hid (K114.out.below Z1.out (by have := HG.out; omega))
          obtain ⟨F, hF⟩ : ∃ F, F = (((((W14.setCell ⟨w.heap.size, 0, none⟩ (.int .i64 2)).setCell ⟨w.heap.size, 1, none⟩ (.int .i64 st)).setCell ⟨w.heap.size, 2, none⟩ (.slice R rs.length rc)).setCell ⟨w.heap.size + 1, 0, none⟩ (.int .i64 q)).setCell ⟨w.heap.size + 1, 1, none⟩ (.slice L2 (trimI ls).length a2)).setCell ⟨w.heap.size + 1, 2, none⟩ (.slice Y2 (trimI ys).length b2) := ⟨_, rfl⟩
          have hown : ∀ {lo s n' c' : Nat} {e : TypeId} {A' : Option Addr} {cs : List Value}, Own W14 lo e s A' n' c' cs → w.heap.size + 1 < lo → Own F.drew w.heap.size e s A' n' c' cs := fun {lo s n' c' e A' cs} h hlo => by
            have hk : Own F lo e s A' n' c' cs := by
              rw [hF]
              have n0 : blk A' ≠ some w.heap.size := fun e => by have := h.blk_ge _ e; omega
              have n1 : blk A' ≠ some (w.heap.size + 1) := fun e => by have := h.blk_ge _ e; omega
              exact (((((h.far (p := ⟨w.heap.size, 0, none⟩) n0 _).far (p := ⟨w.heap.size, 1, none⟩) n0 _).far (p := ⟨w.heap.size, 2, none⟩) n0 _).far (p := ⟨w.heap.size + 1, 0, none⟩) n1 _).far (p := ⟨w.heap.size + 1, 1, none⟩) n1 _).far (p := ⟨w.heap.size + 1, 2, none⟩) n1 _
            exact (hk.below (show Below F.heap.size F F.drew from below_drewN (Below.refl _ _) 1)).mono (by omega)
          have hb : Below w.heap.size w F.drew := by
            have h6 : Below w.heap.size w F := by
              rw [hF]
              have l0 : w.heap.size ≤ w.heap.size := Nat.le_refl _
              have l1 : w.heap.size ≤ w.heap.size + 1 := Nat.le_succ _
              exact (((((HZW.out.setCell (p := ⟨w.heap.size, 0, none⟩) l0 _).setCell (p := ⟨w.heap.size, 1, none⟩) l0 _).setCell (p := ⟨w.heap.size, 2, none⟩) l0 _).setCell (p := ⟨w.heap.size + 1, 0, none⟩) l1 _).setCell (p := ⟨w.heap.size + 1, 1, none⟩) l1 _).setCell (p := ⟨w.heap.size + 1, 2, none⟩) l1 _
            exact h6.trans (show Below w.heap.size F F.drew from below_drewN (Below.refl _ _) 1)
          have HDR : Hid (DrewS w (.returned (.tuple #[.agg #[.int .i64 2, .int .i64 st, .slice R rs.length rc], .agg #[.int .i64 q, .slice L2 (trimI ls).length a2, .slice Y2 (trimI ys).length b2]])) F.drew) := Lib.hid
            ⟨st, R, rc, rs, q, L2, a2, trimI ls, Y2, b2, trimI ys, rfl, hown (HK14.out.own' HO5.out (by have := HGW.out; have := HL2.out; omega)) (by have := HGW.out; have := HL2.out; have := HG.out; omega), hown HL14.out (by have := HS10.out; omega), hown HY14.out (by have := HS12.out; omega), HSC.out, hb⟩
          have d0 : Blk F.drew w.heap.size 36 #[.int .i64 2, .int .i64 st, .slice R rs.length rc] := by
            rw [hF]
            have nb : w.heap.size ≠ w.heap.size + 1 := by omega
            exact (((((((c0.set_ 0 (.int .i64 2)).set_ 1 (.int .i64 st)).set_ 2 (.slice R rs.length rc)).far (p := ⟨w.heap.size + 1, 0, none⟩) nb _).far (p := ⟨w.heap.size + 1, 1, none⟩) nb _).far (p := ⟨w.heap.size + 1, 2, none⟩) nb _).drewN 1)
          have d1 : Blk F.drew (w.heap.size + 1) 50 #[.int .i64 q, .slice L2 (trimI ls).length a2, .slice Y2 (trimI ys).length b2] := by
            rw [hF]
            have nb : w.heap.size + 1 ≠ w.heap.size := by omega
            exact (((((((c1.far (p := ⟨w.heap.size, 0, none⟩) nb _).far (p := ⟨w.heap.size, 1, none⟩) nb _).far (p := ⟨w.heap.size, 2, none⟩) nb _).set_ 0 (.int .i64 q)).set_ 1 (.slice L2 (trimI ls).length a2)).set_ 2 (.slice Y2 (trimI ys).length b2)).drewN 1)
          have HF := Lib.hid hF
          have HD0 := Lib.hid d0
          have HD1 := Lib.hid d1
          clear hF hown hb d0 d1 c0 c1 hb14 hm14
          go_wp2_with fail
          go_region
          all_goals go_wp2_with fail
          rw [← HF.out]
          have e0 := HD0.out
          have e1 := HD1.out
          exact bodyPost_ret (v := .tuple #[.agg #[.int .i64 2, .int .i64 st, .slice R rs.length rc], .agg #[.int .i64 q, .slice L2 (trimI ls).length a2, .slice Y2 (trimI ys).length b2]]) (by simp [results, Try.results25, go_sem, e0.cell 0, e0.cell 1, e0.cell 2, e1.cell 0, e1.cell 1, e1.cell 2]) rfl HDR.out
end Go.Proofs.Ytbpofkggoolmpaa

/-
  Whether two lists are equal (b10Nums).
-/
namespace Go.Proofs.Ytbpofkggoolmpaa
open Go.RowKit

set_option maxHeartbeats 400000 in
theorem b10Nums_any (A B : Option Addr) (n m c d : Nat) (xs ys : List Int) (w : World) (hx : SI w A n xs) (hy : SI w B m ys) (hn : n ≤ 9223372036854775807) :
    Calls Try.prog 73 #[.slice A n c, .slice B m d] w fun e w' => e = .returned (.bool (sameI xs ys)) ∧ ∃ q, w' = w.drewN q := by
  by_cases hnm : n = m
  · subst hnm
    go_enter Try.func73, Try.ntmps73
    go_wp2
    go_loopw [5] (fun i wr => ∃ k q : Nat, k ≤ n ∧ i = .int .i64 k ∧ Hid (xs.take k = ys.take k) ∧ wr = w.drewN q) (fun i _ => n - (intOf i).toNat)
    case atStart => exact ⟨0, 0, by omega, rfl, rfl, rfl⟩
    case round =>
      obtain ⟨k, q, hk, rfl, he, rfl⟩ := hrel
      by_cases hlt : k < n
      · obtain ⟨b, off, rfl, _, hc⟩ := hx.at_ hlt
        obtain ⟨b', off', rfl, _, hc'⟩ := hy.at_ hlt
        go_wp2
        go_quiet (fail)
        go_wp2
        · go_ret
          exact ⟨ret_bool (sameI_ne hlt hx.len hy.len (by assumption)), _, World.drewN_drewN _ _ _⟩
        · exact ⟨⟨k + 1, _, by omega, by go_num, take_next hlt hx.len hy.len he.out (by assumption), rfl⟩, by simp [intOf]; omega⟩
      · go_wp2
        go_ret
        exact ⟨ret_bool (sameI_eq (by omega) hx.len hy.len he.out), _, rfl⟩
  · have hne : ((n : Int) != (m : Int)) = true := by simp; omega
    go_enter Try.func73, Try.ntmps73
    go_wp2
    go_ret
    exact ⟨ret_bool (sameI_len hnm hx.len hy.len), 0, rfl⟩
theorem b10Nums_yes (A B : Option Addr) (n c d : Nat) (xs : List Int) (w : World) (hx : SI w A n xs) (hy : SI w B n xs) (hn : n ≤ 9223372036854775807) :
    Calls Try.prog 73 #[.slice A n c, .slice B n d] w fun e w' => e = .returned (.bool true) ∧ ∃ q, w' = w.drewN q :=
  (b10Nums_any A B n n c d xs xs w hx hy hn).mono fun _ _ ⟨h1, h2⟩ => ⟨by rw [h1]; simp [sameI], h2⟩
theorem b10Long_yes (A : Option Addr) (n c : Nat) (w : World) (h : 1048576 < n) : Calls Try.prog 24 #[.slice A n c] w fun e w' => e = .returned (.bool true) ∧ w = w' := by
  have i1 : (1048576 : Int) < (n : Int) := by omega
  go_enter Try.func24, Try.ntmps24
  go_wp2_with fail
  go_ret
  exact ⟨ret_bool (by simp), rfl⟩
theorem b10Long_no (A : Option Addr) (n c : Nat) (w : World) (h : ¬ 1048576 < n) : Calls Try.prog 24 #[.slice A n c] w fun e w' => e = .returned (.bool false) ∧ w = w' := by
  have i1 : ¬ (1048576 : Int) < (n : Int) := by omega
  go_enter Try.func24, Try.ntmps24
  go_wp2_with fail
  go_ret
  exact ⟨ret_bool (by simp), rfl⟩
end Go.Proofs.Ytbpofkggoolmpaa

/-
  Contract of laws.b10At.
-/
namespace Go.Proofs.Ytbpofkggoolmpaa
open Go.RowKit

set_option maxHeartbeats 1000000 in
theorem b10At_low (A : Option Addr) (m c : Nat) (xs : List Int) (k N : Nat) (w : World) (hx : SB w A m xs) (_hm : m ≤ 9223372036854775807) (hk : k ≤ 1000) (hN0 : 1 < N) (hN : N ≤ 1000) :
    Calls Try.prog 26 #[.slice A m c, .int .i64 (k : Int), .int .i64 (N : Int)] w fun e w' => ∃ v : Nat, e = .returned (.int .i64 (v : Int)) ∧ v < N ∧ w = w' := by
  have HL := Lib.hid hx.len
  have n1 : ¬ (N : Int) ≤ 1 := by omega
  have n0 : ¬ (N : Int) = 0 := by omega
  by_cases h2 : m ≤ k
  · have i1 : ¬ (k : Int) < (m : Int) := by omega
    obtain ⟨v, hv⟩ : ∃ v : Nat, ((k : Int) * 37 + 11).tmod (N : Int) = (v : Int) := ⟨(((k : Int) * 37 + 11).tmod (N : Int)).toNat, by rw [Int.tmod_eq_emod_of_nonneg (by omega)]; have := Int.emod_nonneg ((k : Int) * 37 + 11) n0; omega⟩
    have hvN : v < N := by
      rw [Int.tmod_eq_emod_of_nonneg (by omega)] at hv
      have := Int.emod_lt_of_pos ((k : Int) * 37 + 11) (show (0 : Int) < (N : Int) by omega)
      omega
    have w1 : IntKind.i64.wrap ((k : Int) * 37) = (k : Int) * 37 := IntWalk.i64_in _ (by omega)
    have w2 : IntKind.i64.wrap ((k : Int) * 37 + 11) = (k : Int) * 37 + 11 := IntWalk.i64_in _ (by omega)
    have w3 : IntKind.i64.wrap (v : Int) = (v : Int) := IntWalk.i64_in _ (by omega)
    go_enter Try.func26, Try.ntmps26
    go_wp2_with fail
    go_ret
    exact ⟨v, by first | rfl | (rw [hv]) | (rw [hv, w3]), hvN, rfl⟩
  have hkm : k < m := by omega
  obtain ⟨b, off, rfl, _, hc⟩ := hx.at_ hkm
  obtain ⟨y, hy⟩ : ∃ y, y = xs[k]'(by rw [HL.out]; exact hkm) := ⟨_, rfl⟩
  have hy2 := hx.2 _ (List.getElem_mem (l := xs) (n := k) (by rw [HL.out]; exact hkm))
  rw [← hy] at hc hy2
  clear hy
  have i1 : (0 : Int) ≤ (k : Int) := by omega
  have i2 : (k : Int) < (m : Int) := by omega
  obtain ⟨v, hv⟩ : ∃ v : Nat, y % (N : Int) = (v : Int) := ⟨(y % (N : Int)).toNat, by have := Int.emod_nonneg y n0; omega⟩
  have hvN : v < N := by
    have := Int.emod_lt_of_pos y (show (0 : Int) < (N : Int) by omega)
    omega
  have HV := Lib.hid hv
  clear hv
  go_enter Try.func26, Try.ntmps26
  go_wp2_with fail
  go_ret
  exact ⟨v, ret_int HV.out, hvN, rfl⟩
end Go.Proofs.Ytbpofkggoolmpaa
