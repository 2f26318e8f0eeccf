/-
  What CollatzNumbers returns; the tag system of Collatz; words of zeros.
-/
import Derived.Test.YtfdbhlhlhjdpbaaPkCyclicTags1
import Derived.Test.YtfdbhlhlhjdpbaaPkCyclicTags2
import Derived.Test.YtfdbhlhlhjdpbaaPkCyclicTags3
import Derived.Lib.QuietBelow
import Derived.BigGuardPart
namespace Go.Proofs.Ytfdbhlhlhjdpbaa
open Go.RowKit

def collWords : List (List Int) := [[1, 2], [0], [0, 0, 0]]
def collSys : Sys (List Int) := tagSys 2 collWords []
def zeros (n : Nat) : List Int := List.replicate n 0
theorem zeros_len (n : Nat) : (zeros n).length = n := by simp [zeros]
def zeroB (xs : List Int) : Bool := allIn xs 0 0
/-- The lengths of the words of zeros among the first i words. -/
def zlens (s : Sys (List Int)) (xs : List Int) : Nat → List Int
  | 0 => []
  | i + 1 => if zeroB (s.it xs i) = true then zlens s xs i ++ [((s.it xs i).length : Int)] else zlens s xs i
theorem zlens_le (s : Sys (List Int)) (xs : List Int) (i : Nat) : (zlens s xs i).length ≤ i := by
  induction i with
  | zero => simp [zlens]
  | succ i ih =>
    rw [zlens]
    split
    · rw [List.length_append]; simp only [List.length_cons, List.length_nil]; omega
    · omega
theorem zlens_yes {s : Sys (List Int)} {xs : List Int} {i : Nat} (h : zeroB (s.it xs i) = true) : zlens s xs (i + 1) = zlens s xs i ++ [((s.it xs i).length : Int)] := by rw [zlens, if_pos h]
theorem zlens_no {s : Sys (List Int)} {xs : List Int} {i : Nat} (h : zeroB (s.it xs i) = false) : zlens s xs (i + 1) = zlens s xs i := by rw [zlens, if_neg (by simp [h])]
def collF (n b : Int) : List Int × Int :=
  if inB n 1 1000 then
    if inB b 1 20000 then
      match collSys.run b.toNat (zeros n.toNat) with
      | some i => if collSys.halt (collSys.it (zeros n.toNat) i) then (zlens collSys (zeros n.toNat) (i + 1), 0) else ([], 5)
      | none => ([], 5)
    else ([], 2)
  else ([], 2)
theorem collF_n {n b : Int} (h : inB n 1 1000 = false) : collF n b = ([], 2) := by unfold collF; rw [h]; simp
theorem collF_b {n b : Int} (h : inB b 1 20000 = false) : collF n b = ([], 2) := by unfold collF; rw [h]; simp
theorem collF_halt {n N i : Nat} (h : inB (n : Int) 1 1000 = true) (h1 : inB (N : Int) 1 20000 = true) (h2 : collSys.Ended (zeros n) N i) (h3 : collSys.halt (collSys.it (zeros n) i) = true) : collF n N = (zlens collSys (zeros n) (i + 1), 0) := by
  unfold collF; rw [h, h1, Int.toNat_natCast, Int.toNat_natCast, Sys.run_ended h2]; simp [h3]
theorem collF_runs {n N i : Nat} (h : inB (n : Int) 1 1000 = true) (h1 : inB (N : Int) 1 20000 = true) (h2 : collSys.Ended (zeros n) N i) (h3 : collSys.halt (collSys.it (zeros n) i) = false) : collF n N = ([], 5) := by
  unfold collF; rw [h, h1, Int.toNat_natCast, Int.toNat_natCast, Sys.run_ended h2]; simp [h3]
theorem collF_full {n N i : Nat} (h : inB (n : Int) 1 1000 = true) (h1 : inB (N : Int) 1 20000 = true) (h2 : collSys.Full (zeros n) N i) : collF n N = ([], 5) := by
  unfold collF; rw [h, h1, Int.toNat_natCast, Int.toNat_natCast, Sys.run_full h2]; simp
theorem collF_len (n b : Int) : (collF n b).1.length ≤ 1048576 := by
  unfold collF
  split
  · split
    · rename_i h1 h2
      have hb := (inB_iff _ _ _).1 h2
      cases hi : collSys.run b.toNat (zeros n.toNat) with
      | none => simp
      | some i =>
        have h3 := Sys.run_le hi
        have h4 := zlens_le collSys (zeros n.toNat) (i + 1)
        dsimp only
        split
        · dsimp only; omega
        · simp
    · simp
  · simp
theorem coll_code {n : Nat} (h : inB (n : Int) 1 1000 = true) : tagCodeF 2 collWords [] (zeros n) = 0 := by
  rw [tagCode_zero]
  have hb := (inB_iff _ _ _).1 h
  refine ⟨by decide, ?_⟩
  unfold tagWordB allIn zeros
  simp [collWords, inB]
  omega
/-- No word of a run is empty. -/
theorem coll_pos {n i : Nat} (h : inB (n : Int) 1 1000 = true) (hal : collSys.Alive (zeros n) i) : 1 ≤ (collSys.it (zeros n) i).length := by
  have hb := (inB_iff _ _ _).1 h
  induction i with
  | zero => show 1 ≤ (zeros n).length; rw [zeros_len]; omega
  | succ i ih =>
    have hal' : collSys.Alive (zeros n) i := fun j hj => hal j (by omega)
    have hg : tagCodeF 2 collWords [] (collSys.it (zeros n) i) = 0 := tagAlive_good (coll_code h) hal'
    have hh := (hal i (by omega)).1
    have h2 : (2 : Int) ≤ (collSys.it (zeros n) i).length := haltsB_false hh
    have hx := (tagCode_parts hg).2.2.2.2.1
    generalize hxs : collSys.it (zeros n) i = xs at *
    have hnx : collSys.it (zeros n) (i + 1) = (xs ++ tagWordOf collWords xs).drop 2 := by
      show collSys.next (collSys.it (zeros n) i) = _
      rw [hxs]; rfl
    rw [hnx, List.length_drop, List.length_append]
    have hw : 1 ≤ (tagWordOf collWords xs).length := by
      obtain ⟨x0, h3, h4⟩ := head_letter (xs := xs) (n := 3) (by omega) (fun x hx' => by have := hx x hx'; simp [collWords] at this; omega)
      unfold tagWordOf
      rw [h4, Int.toNat_natCast]
      have : x0 = 0 ∨ x0 = 1 ∨ x0 = 2 := by omega
      rcases this with rfl | rfl | rfl <;> decide
    omega
theorem coll_halt (xs : List Int) (h : 1 ≤ xs.length) : collSys.halt xs = decide ((xs.length : Int) = 1) := by
  show haltsB 2 [] xs = _
  unfold haltsB
  simp only [List.not_mem_nil, decide_false, Bool.or_false, decide_eq_decide]
  omega
theorem made_zeros (n : Nat) : (madeCells (Value.int .i64 0).cells (n * 1)).toList = ints (zeros n) := by
  rw [made_ints n (zeros n) (zeros_len n)]
  congr 1
  unfold copied zeros
  simp
end Go.Proofs.Ytfdbhlhlhjdpbaa

/-
  Contract of impl.codesOf: the codes of letters.
-/
namespace Go.Proofs.Ytfdbhlhlhjdpbaa
open Go.RowKit

theorem zeros_unit {n x0 : Nat} : (zeros n).set x0 1 = unitL n x0 := by
  apply List.ext_getElem
  · simp [zeros, unitL]
  · intro k h1 h2
    simp only [List.getElem_set, zeros, unitL, List.getElem_map, List.getElem_range, List.getElem_replicate]
    by_cases h : x0 = k
    · subst h; simp
    · rw [if_neg h, if_neg (fun e => h e.symm)]
theorem codes_set {n l i x0 : Nat} {xs : List Int} (hl : xs.length = l) (hi : i < l) (hx : xs[i]'(by omega) = (x0 : Int)) (hx0 : x0 < n) :
    (codesL n (xs.take i) ++ zeros ((l - i) * n)).set (i * n + x0) 1 = codesL n (xs.take (i + 1)) ++ zeros ((l - (i + 1)) * n) := by
  have hcl : (codesL n (xs.take i)).length = i * n := by rw [codesL_len, List.length_take]; congr 1; omega
  have hz : zeros ((l - i) * n) = zeros n ++ zeros ((l - (i + 1)) * n) := by
    rw [show zeros n ++ zeros ((l - (i + 1)) * n) = zeros (n + (l - (i + 1)) * n) from by simp [zeros]]
    congr 1
    rw [show l - i = (l - (i + 1)) + 1 from by omega, Nat.succ_mul]; omega
  rw [List.set_append_right _ _ (by omega), hcl, Nat.add_sub_cancel_left, hz, List.set_append_left _ _ (by rw [zeros_len]; exact hx0), zeros_unit, List.take_succ_eq_append_getElem (by omega), codesL_append, hx]
  simp [codesL]

set_option maxHeartbeats 2000000 in
theorem codesOf_any (C : Option Addr) (l r : Nat) (xs : List Int) (n : Nat) (w : World) (hz : SI w C l xs) (hn : 1 ≤ n) (hle : ∀ y ∈ xs, 0 ≤ y ∧ y < (n : Int)) (hs : l * n ≤ 1048576) (hn2 : n ≤ 1048576) (hl2 : l ≤ 1048576) :
    Calls Try.prog 55 #[.slice C l r, .int .i64 (n : Int)] w fun e w' => ∃ A, e = .returned (.slice A (l * n) (l * n)) ∧ Own w' w.heap.size 2 1 A (l * n) (l * n) (ints (codesL n xs)) ∧ Below w.heap.size w w' := by
  have HL := Lib.hid hz.len
  have HLE := Lib.hid hle
  clear hle
  obtain ⟨M, hM⟩ : ∃ M, M = l * n := ⟨_, rfl⟩
  have w1 : IntKind.i64.wrap ((l : Int) * (n : Int)) = (M : Int) := by rw [IntWalk.i64_in _ (by rw [← Int.natCast_mul, ← hM]; omega), hM]; simp
  have HM := Lib.hid hM
  rw [← hM] at hs ⊢
  clear hM
  go_enter Try.func55, Try.ntmps55
  go_wp2_with (first
    | (go_at_call 54; refine (sizeI_any _ _ _ _ (by omega)).mono ?_; rintro e w' ⟨rfl, rfl⟩)
    | (at_make; refine wpList_make_Own rfl (.tmp 11) (.tmp 11) rfl elI (n := M) (lo := w.heap.size) rfl rfl (by omega) (by unfold maxLen; omega) (Nat.le_refl _) ?_; intro w2 ho2 hb2 hs2))
  rw [made_zeros M] at ho2
  have HS := Lib.hid hs2
  have h0 : Own w2 w.heap.size 2 1 (some ⟨w.heap.size, 0, none⟩) M M (ints (codesL n (xs.take 0) ++ zeros ((l - 0) * n))) := by
    simpa [codesL, ← HM.out] using ho2
  clear hs2 w1 ho2
  go_loopw [15] (fun i wr => ∃ k : Nat, k ≤ l ∧ i = .int .i64 (k : Int) ∧ Own wr w.heap.size 2 1 (some ⟨w.heap.size, 0, none⟩) M M (ints (codesL n (xs.take k) ++ zeros ((l - k) * n))) ∧ Below w.heap.size w wr) (fun i _ => l - (intOf i).toNat)
  case atStart => exact ⟨0, by omega, rfl, h0, hb2⟩
  case round =>
    obtain ⟨k, hk, rfl, ho, hb⟩ := hrel
    clear h0
    by_cases hlt : k < l
    · obtain ⟨b, off, rfl, hbl, hc⟩ := (hz.below hb).at_ hlt
      have hmem := HLE.out _ (List.getElem_mem (l := xs) (n := k) (by rw [HL.out]; exact hlt))
      obtain ⟨x0, hx0⟩ : ∃ x0 : Nat, xs[k]'(by rw [HL.out]; exact hlt) = (x0 : Int) := ⟨(xs[k]'(by rw [HL.out]; exact hlt)).toNat, by omega⟩
      rw [hx0] at hc hmem
      have hxn : x0 < n := by omega
      obtain ⟨K, hK⟩ : ∃ K, K = k * n := ⟨_, rfl⟩
      obtain ⟨J, hJ⟩ : ∃ J, J = K + x0 := ⟨_, rfl⟩
      have hkM : K + n ≤ M := by rw [hK, HM.out, ← Nat.succ_mul]; exact Nat.mul_le_mul_right _ hlt
      have w1 : IntKind.i64.wrap ((k : Int) * (n : Int)) = (K : Int) := by rw [IntWalk.i64_in _ (by rw [← Int.natCast_mul, ← hK]; omega), hK]; simp
      have w2 : IntKind.i64.wrap ((K : Int) + (x0 : Int)) = (J : Int) := by rw [IntWalk.i64_in _ (by omega)]; omega
      have i1 : (0 : Int) ≤ (J : Int) := by omega
      have i2 : (J : Int) < (M : Int) := by omega
      have hml : J < (ints (codesL n (xs.take k) ++ zeros ((l - k) * n))).length := by have := ho.1; omega
      obtain ⟨b', off', he, hlo, _, hc', hf'⟩ := ho.at_ hml
      simp only [Option.some.injEq, Addr.mk.injEq, and_true] at he
      obtain ⟨rfl, rfl⟩ := he
      have ho3 := ho.set_ hml (.int .i64 1)
      have HST := Lib.hid (codes_set (n := n) HL.out hlt hx0 hxn)
      rw [ints_set, hJ, hK, HST.out] at ho3
      have hb3 := hb.setCell (p := ⟨w.heap.size, 0 + J, none⟩) (Nat.le_refl _) (.int .i64 1)
      rw [← hK, ← hJ] at ho3
      simp only [Nat.zero_add] at hc' hf' ho3 hb3
      clear hx0 hmem hK hJ
      go_wp2_with fail
      exact ⟨⟨k + 1, by omega, by go_num, ho3, hb3⟩, by simp [intOf]; omega⟩
    · have hoo := ho
      rw [List.take_of_length_le (by rw [HL.out]; omega), show l - k = 0 from by omega] at hoo
      have hoo' : Own wr w.heap.size 2 1 (some ⟨w.heap.size, 0, none⟩) M M (ints (codesL n xs)) := by simpa [zeros] using hoo
      clear hoo
      go_wp2_with fail
      go_ret
      exact ⟨_, rfl, hoo', hb⟩
end Go.Proofs.Ytfdbhlhlhjdpbaa

/-
  Contract of impl.cyclicOfTag: the cyclic tag system of a tag system.
-/
namespace Go.Proofs.Ytfdbhlhlhjdpbaa
open Go.RowKit

def cycFitsB (d : Nat) (words : List (List Int)) : Bool := decide (words.length * d ≤ 400) && words.all fun v => decide (v.length * words.length ≤ 1000)
theorem validTag_parts {d : Int} {words : List (List Int)} {hs : List Int} (h : validTagB d words hs = true) : 1 ≤ d ∧ d ≤ 4 ∧ 1 ≤ words.length ∧ words.length ≤ 200 ∧ ∀ v ∈ words, v.length ≤ 1000 ∧ ∀ y ∈ v, 0 ≤ y ∧ y < (words.length : Int) := by
  unfold validTagB wordsB at h
  simp only [Bool.and_eq_true, List.all_eq_true, inB_iff] at h
  obtain ⟨⟨⟨⟨h1, h2⟩, h3⟩, _⟩, _⟩ := h
  refine ⟨h1.1, h1.2, by omega, by omega, fun v hv => ?_⟩
  have h4 := h3 v hv
  unfold tagWordB allIn at h4
  simp only [Bool.and_eq_true, List.all_eq_true, inB_iff, decide_eq_true_eq] at h4
  exact ⟨h4.1, fun y hy => by have := h4.2 y hy; omega⟩
/-- What cyclicOfTag returns. -/
def NewCyc (w : World) (d : Nat) (words : List (List Int)) (N : Nat) (e : Ending) (w' : World) : Prop :=
  ((cycFitsB d words = true ∧ ∃ A us, e = .returned (.tuple #[.agg #[.slice A N N], .int .i64 0]) ∧ OII w' w.heap.size 25 2 A N N us ∧ nums us = cycWords d words) ∨
    (cycFitsB d words = false ∧ e = .returned (.tuple #[.agg #[.slice none 0 0], .int .i64 5]))) ∧ Below w.heap.size w w'

set_option maxRecDepth 100000 in
set_option maxHeartbeats 8000000 in
theorem cyclicOfTag_any (d : Nat) (A : Option Addr) (n c : Nat) (ts : List Sl) (B : Option Addr) (m k : Nat) (hs : List Int) (w : World) (hx : SII w A n ts) (hv : validTagB (d : Int) (nums ts) hs = true) :
    Calls Try.prog 47 #[.agg #[.int .i64 (d : Int), .slice A n c, .slice B m k]] w (NewCyc w d (nums ts) (n * d)) := by
  have hln : (nums ts).length = n := by have := hx.len; simpa [nums] using this
  obtain ⟨v1, v2, v3, v4, v5⟩ := validTag_parts hv
  rw [hln] at v3 v4 v5
  have HLN := Lib.hid hln
  have V5 := Lib.hid v5
  clear v5 hv hln
  have hnd : n * d ≤ 200 * 4 := Nat.mul_le_mul v4 (by omega)
  have hnd1 : n ≤ n * d := Nat.le_mul_of_pos_right _ (by omega)
  obtain ⟨N, hN⟩ : ∃ N, N = n * d := ⟨_, rfl⟩
  have w1 : IntKind.i64.wrap ((n : Int) * (d : Int)) = (N : Int) := by rw [IntWalk.i64_in _ (by rw [← Int.natCast_mul, ← hN]; omega), hN]; simp
  have HN := Lib.hid hN
  rw [← hN] at hnd hnd1 ⊢
  clear hN
  obtain ⟨W, hW_⟩ : ∃ W, W = (w.alloc (.cells #[.int .i64 (d : Int), .slice A n c, .slice B m k] 27)).alloc (.cells #[.slice none 0 0] 95) := ⟨_, rfl⟩
  have s_1 : (w.alloc (.cells #[.int .i64 (d : Int), .slice A n c, .slice B m k] 27)).heap.size = w.heap.size + 1 := by simp
  have b0 : Blk W w.heap.size 27 #[.int .i64 (d : Int), .slice A n c, .slice B m k] := by rw [hW_]; exact (Blk.new w _ _).alloc _
  have b1 : Blk W (w.heap.size + 1) 95 #[.slice none 0 0] := by rw [hW_, ← s_1]; exact Blk.new _ _ _
  have y0 : Below w.heap.size w W := by rw [hW_]; exact ((Below.refl _ _).alloc (Nat.le_refl _) _).alloc (by simp) _
  have HW := Lib.hid hW_
  clear hW_ s_1
  have q0 : W.cell? ⟨w.heap.size, 0, none⟩ = some (.int .i64 (d : Int)) := b0.cell 0
  have q1 : W.cell? ⟨w.heap.size, 1, none⟩ = some (.slice A n c) := b0.cell 1
  have q2 : W.cell? ⟨w.heap.size, 2, none⟩ = some (.slice B m k) := b0.cell 2
  have r0 : W.cell? ⟨w.heap.size + 1, 0, none⟩ = some (.slice none 0 0) := b1.cell 0
  have f0 := b1.frozen 0
  have hWw : w.heap.size + 1 < W.heap.size := b1.lt
  by_cases h400 : N ≤ 400
  rotate_left
  · have hgt : (400 : Int) < (N : Int) := by omega
    have HF : Hid (cycFitsB d (nums ts) = false) := Lib.hid (by unfold cycFitsB; rw [HLN.out, ← HN.out]; simp; omega)
    go_enter Try.func47, Try.ntmps47
    go_upto_region 1 with fail
    rw [← HW.out]
    go_wp2_with (go_at_call 49; refine (sizeII_any _ _ _ _ (by omega)).mono ?_; rintro e w' ⟨rfl, rfl⟩)
    have d1 := b1.set_ 0 (.slice none 0 0)
    exact bodyPost_ret (v := .tuple #[.agg #[.slice none 0 0], .int .i64 5]) (by simp [results, Try.results47, go_sem, d1.cell 0]) rfl ⟨.inr ⟨HF.out, rfl⟩, y0.setCell (by simp) _⟩
  have hgt : ¬ (400 : Int) < (N : Int) := by omega
  go_enter Try.func47, Try.ntmps47
  go_upto_region 1 with fail
  rw [← HW.out]
  go_upto_region 5 with (first
    | (go_at_call 49; refine (sizeII_any _ _ _ _ (by omega)).mono ?_; rintro e w' ⟨rfl, rfl⟩)
    | (at_make; refine wpList_make_Own rfl (.tmp 20) (.tmp 20) rfl elII (n := N) (lo := W.heap.size) rfl rfl (by omega) (by unfold maxLen; omega) (Nat.le_refl _) ?_; intro w2 ho2 hb2 hs2))
  rw [made_rows N] at ho2
  obtain ⟨w3, hw3⟩ : ∃ w3, w3 = w2.alloc (.cells #[.slice (some ⟨W.heap.size, 0, none⟩) N N] 95) := ⟨_, rfl⟩
  have e3 : Blk w3 (W.heap.size + 1) 95 #[.slice (some ⟨W.heap.size, 0, none⟩) N N] := by rw [hw3, ← hs2]; exact Blk.new w2 _ _
  have z3 : Below w2.heap.size w2 w3 := by rw [hw3]; exact (Below.refl _ _).alloc (Nat.le_refl _) _
  have ho3 := ho2.below z3
  have hb3 : Below W.heap.size W w3 := hb2.trans (z3.mono hb2.size)
  have HW3 := Lib.hid hw3
  clear hw3 hs2 ho2 hb2 z3 w1
  rw [← HW3.out]
  clear q0 q1 q2 r0 f0
  have b03 := b0.below' hb3
  have q0 : w3.cell? ⟨w.heap.size, 0, none⟩ = some (.int .i64 (d : Int)) := b03.cell 0
  have q1 : w3.cell? ⟨w.heap.size, 1, none⟩ = some (.slice A n c) := b03.cell 1
  have q2 : w3.cell? ⟨w.heap.size, 2, none⟩ = some (.slice B m k) := b03.cell 2
  go_wp2_with fail
  go_loopw [26] (fun i wr => ∃ (j : Nat) (us : List Sl), j ≤ n ∧ i = .int .i64 (j : Int) ∧ Hid (us.length = j) ∧ Hid (nums us = ((nums ts).map (codesL n)).take j) ∧ Hid (∀ v ∈ (nums ts).take j, v.length * n ≤ 1000) ∧ Own wr W.heap.size 25 1 (some ⟨W.heap.size, 0, none⟩) N N (halfRows us (N - j)) ∧
    Hid (∀ u ∈ us, Own wr W.heap.size 2 1 u.A u.xs.length u.c (ints u.xs)) ∧ us.Pairwise Apt ∧ Blk wr (W.heap.size + 1) 95 #[.slice (some ⟨W.heap.size, 0, none⟩) N N] ∧ Below W.heap.size W wr) (fun i _ => n - (intOf i).toNat)
  case atStart => exact ⟨0, [], by omega, rfl, rfl, by simp [nums, Hid], by simp [Hid], ho3, fun _ h => absurd h (by simp), List.Pairwise.nil, e3, hb3⟩
  case round =>
    obtain ⟨j, us, hj, rfl, hul, hnu, hfit, ho, hu, hp, hbx, hb⟩ := hrel
    clear q0 q1 q2 ho3 e3 b03 hb3
    have hbc := b0.below' hb
    have b1r := b1.below' hb
    have q0 : wr.cell? ⟨w.heap.size, 0, none⟩ = some (.int .i64 (d : Int)) := hbc.cell 0
    have q1 : wr.cell? ⟨w.heap.size, 1, none⟩ = some (.slice A n c) := hbc.cell 1
    have q2 : wr.cell? ⟨w.heap.size, 2, none⟩ = some (.slice B m k) := hbc.cell 2
    have r0 : wr.cell? ⟨w.heap.size + 1, 0, none⟩ = some (.slice none 0 0) := b1r.cell 0
    have f0 := b1r.frozen 0
    have x0 : wr.cell? ⟨W.heap.size + 1, 0, none⟩ = some (.slice (some ⟨W.heap.size, 0, none⟩) N N) := hbx.cell 0
    have yb : Below w.heap.size w wr := y0.trans (hb.mono y0.size)
    by_cases hlt : j < n
    · obtain ⟨t, b, off, hT, htm, rfl, hbl, hc, hr⟩ := (hx.below yb).pick hlt
      obtain ⟨hrl, hrlet⟩ := V5.out t.xs (List.mem_map.2 ⟨t, htm, rfl⟩)
      obtain ⟨M, hM⟩ : ∃ M, M = t.xs.length * n := ⟨_, rfl⟩
      have hM2 : t.xs.length * n ≤ 1000 * 200 := Nat.mul_le_mul hrl v4
      have w1 : IntKind.i64.wrap ((t.xs.length : Int) * (n : Int)) = (M : Int) := by rw [IntWalk.i64_in _ (by rw [← Int.natCast_mul, ← hM]; omega), hM]; simp
      have HM := Lib.hid hM
      rw [← hM] at hM2
      clear hM
      by_cases hM1 : M ≤ 1000
      · have hgM : ¬ (1000 : Int) < (M : Int) := by omega
        go_upto_region 10 with (go_at_call 54; refine (sizeI_any _ _ _ _ (by omega)).mono ?_; rintro e w' ⟨rfl, rfl⟩)
        clear w1
        have i1 : (0 : Int) ≤ (j : Int) := by omega
        have i2 : (j : Int) < (N : Int) := by omega
        have hcod := fun (w : World) (h : SI w t.A t.xs.length t.xs) => codesOf_any t.A t.xs.length t.c t.xs n w h v3 hrlet (by rw [← HM.out]; omega) (by omega) (by omega)
        rw [← HM.out] at hcod
        have HCOD := Lib.hid hcod
        clear hcod
        have hjl : j < (halfRows us (N - j)).length := by rw [halfRows_len, hul.out]; omega
        refine wp_region_any (by kernel_rfl) ?_
        try (change wpAny _ _ _ _ _ _ _ (World.drew _))
        refine wpAny_take (i := 0) (v := ?_) rfl (by kernel_rfl) (by kernel_rfl) (by kernel_rfl) (fun _ _ _ h => h) (Or.inl ⟨by rfl, ?_⟩) ?_
        rotate_left
        · intro w
          go_simp
          try with_reducible rfl
        try simp only [Act.put, List.setIfInBounds_toArray, List.set_cons_zero, List.set_cons_succ]
        refine wpAny_take (i := 2) (v := ?_) rfl (by kernel_rfl) (by kernel_rfl) (by kernel_rfl) (fun _ _ _ h => h) (Or.inl ⟨by rfl, ?_⟩) ?_
        rotate_left
        · intro w
          go_simp
          try with_reducible rfl
        try simp only [Act.put, List.setIfInBounds_toArray, List.set_cons_zero, List.set_cons_succ]
        refine wpAny_take (i := 3) (v := ?_) rfl (by kernel_rfl) (by kernel_rfl) (by kernel_rfl) (fun _ _ _ h => h) (Or.inl ⟨by rfl, ?_⟩) ?_
        rotate_left
        · intro w
          go_simp
          try with_reducible rfl
        try simp only [Act.put, List.setIfInBounds_toArray, List.set_cons_zero, List.set_cons_succ]
        refine wpAny_take (i := 4) (v := ?_) rfl (by kernel_rfl) (by kernel_rfl) (by kernel_rfl) (fun _ _ _ h => h) (Or.inl ⟨by rfl, ?_⟩) ?_
        rotate_left
        · intro w
          go_simp
          try with_reducible rfl
        try simp only [Act.put, List.setIfInBounds_toArray, List.set_cons_zero, List.set_cons_succ]
        refine wpAny_ready (rs := [1, 5]) (by kernel_rfl) (by simp) ?_
        refine AllReady.cons rfl (fun K hK => ?_) ?_
        · go_simp
          refine hK _ _ ?_
          clear hK K
          try simp only [Act.put, List.setIfInBounds_toArray, List.set_cons_zero, List.set_cons_succ]
          refine wpAny_ready (rs := [5]) (by kernel_rfl) (by simp) ?_
          refine AllReady.cons rfl (fun K hK => ?_) ?_
          · go_simp
            refine (HCOD.out _ (hr.drewN 1)).mono ?_
            rintro e W9 ⟨A9, rfl, o9, z9'⟩
            have z9 : Below wr.heap.size wr W9 := below_undrew (n := 1) z9'
            have x09 : W9.cell? ⟨W.heap.size + 1, 0, none⟩ = some (.slice (some ⟨W.heap.size, 0, none⟩) N N) := (hbx.below' z9).cell 0
            obtain ⟨b', off', he', hlo', _, hc', hf'⟩ := (ho.below z9).at_ hjl
            simp only [Option.some.injEq, Addr.mk.injEq, and_true] at he'
            obtain ⟨rfl, rfl⟩ := he'
            simp only [Nat.zero_add] at hc' hf'
            clear z9'
            refine hK _ _ ?_
            clear hK K
            try simp only [Act.put, List.setIfInBounds_toArray, List.set_cons_zero, List.set_cons_succ]
            refine wpAny_ready (rs := [6]) (by kernel_rfl) (by simp) ?_
            refine AllReady.cons rfl (fun K hK => ?_) ?_
            · go_simp
              refine hK _ _ ?_
              clear hK K
              try simp only [Act.put, List.setIfInBounds_toArray, List.set_cons_zero, List.set_cons_succ]
              refine wpAny_ready (rs := [7]) (by kernel_rfl) (by simp) ?_
              refine AllReady.cons rfl (fun K hK => ?_) ?_
              · go_simp
                refine hK _ _ ?_
                clear hK K
                try simp only [Act.put, List.setIfInBounds_toArray, List.set_cons_zero, List.set_cons_succ]
                refine wpAny_done (by kernel_rfl) ?_ _
                have ho9 := ho.below z9
                have ho10 := ho9.set_ hjl (.slice A9 M M)
                have hcl : (codesL n t.xs).length = M := by rw [codesL_len, HM.out]
                have e5 : (halfRows us (N - j)).set j (.slice A9 M M) = halfRows (us ++ [⟨A9, M, codesL n t.xs⟩]) (N - (j + 1)) := by
                  have := halfRows_next us (N - (j + 1)) ⟨A9, M, codesL n t.xs⟩
                  rw [hul.out, show N - (j + 1) + 1 = N - j from by omega] at this
                  rw [← this]; unfold Sl.val; rw [hcl]
                rw [e5] at ho10
                simp only [Nat.zero_add] at ho10
                have hzr : W.heap.size < wr.heap.size := ho.blk_lt W.heap.size rfl
                have hb10 := (hb.trans (z9.mono hb.size)).setCell (p := ⟨W.heap.size, j, none⟩) (Nat.le_refl _) (.slice A9 M M)
                have hu10 : Hid (∀ u ∈ us ++ [(⟨A9, M, codesL n t.xs⟩ : Sl)], Own (W9.setCell ⟨W.heap.size, j, none⟩ (.slice A9 M M)) W.heap.size 2 1 u.A u.xs.length u.c (ints u.xs)) := by
                  intro u hum
                  rcases List.mem_append.1 hum with h | h
                  · exact ((hu.out u h).below z9).far (p := ⟨W.heap.size, j, none⟩) (fun e => Own.blk_ne (hu.out u h) ho (by decide) _ e rfl) _
                  · simp only [List.mem_singleton] at h
                    subst h
                    show Own _ _ _ _ A9 (codesL n t.xs).length M _
                    rw [hcl]
                    refine (o9.mono (by simp; omega)).far (p := ⟨W.heap.size, j, none⟩) (fun e => ?_) _
                    have := o9.blk_ge _ e
                    simp at this; omega
                have hp10 : (us ++ [(⟨A9, M, codesL n t.xs⟩ : Sl)]).Pairwise Apt := Apt.snoc hp (fun u hum b hb1 hb2 => by
                  have h1 := (hu.out u hum).blk_lt b hb1
                  have h2 := o9.blk_ge b hb2
                  simp at h2
                  omega)
                have hlj : j < (nums ts).length := by rw [HLN.out]; exact hlt
                have hgj : (nums ts)[j]'hlj = t.xs := by
                  have := hT.out
                  obtain ⟨h1, h2⟩ := List.getElem?_eq_some_iff.1 this
                  simp [nums, h2]
                have hnu10 : Hid (nums (us ++ [(⟨A9, M, codesL n t.xs⟩ : Sl)]) = ((nums ts).map (codesL n)).take (j + 1)) := Lib.hid (by
                  rw [nums_append, hnu.out, List.take_succ_eq_append_getElem (by simpa using hlj), List.getElem_map, hgj])
                have hfit10 : Hid (∀ v ∈ (nums ts).take (j + 1), v.length * n ≤ 1000) := Lib.hid (by
                  rw [List.take_succ_eq_append_getElem hlj, hgj]
                  intro v hv
                  rcases List.mem_append.1 hv with h | h
                  · exact hfit.out v h
                  · rw [List.mem_singleton.1 h, ← HM.out]; exact hM1)
                have hul10 : Hid ((us ++ [(⟨A9, M, codesL n t.xs⟩ : Sl)]).length = j + 1) := by show _ = _; rw [List.length_append, hul.out]; rfl
                have hbx10 : Blk (W9.setCell ⟨W.heap.size, j, none⟩ (.slice A9 M M)) (W.heap.size + 1) 95 #[.slice (some ⟨W.heap.size, 0, none⟩) N N] := (hbx.below' z9).far (p := ⟨W.heap.size, j, none⟩) (by simp) _
                clear e5 ho9 ho HCOD
                go_wp2_with fail
                exact ⟨⟨j + 1, _, by omega, by go_num, hul10, hnu10, hfit10, ho10, hu10, hp10, hbx10, hb10⟩, by simp [intOf]; omega⟩
              exact AllReady.nil
            exact AllReady.nil
          exact AllReady.nil
        refine AllReady.cons rfl (fun K hK => ?_) ?_
        · go_simp
          refine (HCOD.out _ (hr.drewN 1)).mono ?_
          rintro e W9 ⟨A9, rfl, o9, z9'⟩
          have z9 : Below wr.heap.size wr W9 := below_undrew (n := 1) z9'
          have x09 : W9.cell? ⟨W.heap.size + 1, 0, none⟩ = some (.slice (some ⟨W.heap.size, 0, none⟩) N N) := (hbx.below' z9).cell 0
          obtain ⟨b', off', he', hlo', _, hc', hf'⟩ := (ho.below z9).at_ hjl
          simp only [Option.some.injEq, Addr.mk.injEq, and_true] at he'
          obtain ⟨rfl, rfl⟩ := he'
          simp only [Nat.zero_add] at hc' hf'
          clear z9'
          refine hK _ _ ?_
          clear hK K
          try simp only [Act.put, List.setIfInBounds_toArray, List.set_cons_zero, List.set_cons_succ]
          refine wpAny_ready (rs := [1]) (by kernel_rfl) (by simp) ?_
          refine AllReady.cons rfl (fun K hK => ?_) ?_
          · go_simp
            refine hK _ _ ?_
            clear hK K
            try simp only [Act.put, List.setIfInBounds_toArray, List.set_cons_zero, List.set_cons_succ]
            refine wpAny_ready (rs := [6]) (by kernel_rfl) (by simp) ?_
            refine AllReady.cons rfl (fun K hK => ?_) ?_
            · go_simp
              refine hK _ _ ?_
              clear hK K
              try simp only [Act.put, List.setIfInBounds_toArray, List.set_cons_zero, List.set_cons_succ]
              refine wpAny_ready (rs := [7]) (by kernel_rfl) (by simp) ?_
              refine AllReady.cons rfl (fun K hK => ?_) ?_
              · go_simp
                refine hK _ _ ?_
                clear hK K
                try simp only [Act.put, List.setIfInBounds_toArray, List.set_cons_zero, List.set_cons_succ]
                refine wpAny_done (by kernel_rfl) ?_ _
                have ho9 := ho.below z9
                have ho10 := ho9.set_ hjl (.slice A9 M M)
                have hcl : (codesL n t.xs).length = M := by rw [codesL_len, HM.out]
                have e5 : (halfRows us (N - j)).set j (.slice A9 M M) = halfRows (us ++ [⟨A9, M, codesL n t.xs⟩]) (N - (j + 1)) := by
                  have := halfRows_next us (N - (j + 1)) ⟨A9, M, codesL n t.xs⟩
                  rw [hul.out, show N - (j + 1) + 1 = N - j from by omega] at this
                  rw [← this]; unfold Sl.val; rw [hcl]
                rw [e5] at ho10
                simp only [Nat.zero_add] at ho10
                have hzr : W.heap.size < wr.heap.size := ho.blk_lt W.heap.size rfl
                have hb10 := (hb.trans (z9.mono hb.size)).setCell (p := ⟨W.heap.size, j, none⟩) (Nat.le_refl _) (.slice A9 M M)
                have hu10 : Hid (∀ u ∈ us ++ [(⟨A9, M, codesL n t.xs⟩ : Sl)], Own (W9.setCell ⟨W.heap.size, j, none⟩ (.slice A9 M M)) W.heap.size 2 1 u.A u.xs.length u.c (ints u.xs)) := by
                  intro u hum
                  rcases List.mem_append.1 hum with h | h
                  · exact ((hu.out u h).below z9).far (p := ⟨W.heap.size, j, none⟩) (fun e => Own.blk_ne (hu.out u h) ho (by decide) _ e rfl) _
                  · simp only [List.mem_singleton] at h
                    subst h
                    show Own _ _ _ _ A9 (codesL n t.xs).length M _
                    rw [hcl]
                    refine (o9.mono (by simp; omega)).far (p := ⟨W.heap.size, j, none⟩) (fun e => ?_) _
                    have := o9.blk_ge _ e
                    simp at this; omega
                have hp10 : (us ++ [(⟨A9, M, codesL n t.xs⟩ : Sl)]).Pairwise Apt := Apt.snoc hp (fun u hum b hb1 hb2 => by
                  have h1 := (hu.out u hum).blk_lt b hb1
                  have h2 := o9.blk_ge b hb2
                  simp at h2
                  omega)
                have hlj : j < (nums ts).length := by rw [HLN.out]; exact hlt
                have hgj : (nums ts)[j]'hlj = t.xs := by
                  have := hT.out
                  obtain ⟨h1, h2⟩ := List.getElem?_eq_some_iff.1 this
                  simp [nums, h2]
                have hnu10 : Hid (nums (us ++ [(⟨A9, M, codesL n t.xs⟩ : Sl)]) = ((nums ts).map (codesL n)).take (j + 1)) := Lib.hid (by
                  rw [nums_append, hnu.out, List.take_succ_eq_append_getElem (by simpa using hlj), List.getElem_map, hgj])
                have hfit10 : Hid (∀ v ∈ (nums ts).take (j + 1), v.length * n ≤ 1000) := Lib.hid (by
                  rw [List.take_succ_eq_append_getElem hlj, hgj]
                  intro v hv
                  rcases List.mem_append.1 hv with h | h
                  · exact hfit.out v h
                  · rw [List.mem_singleton.1 h, ← HM.out]; exact hM1)
                have hul10 : Hid ((us ++ [(⟨A9, M, codesL n t.xs⟩ : Sl)]).length = j + 1) := by show _ = _; rw [List.length_append, hul.out]; rfl
                have hbx10 : Blk (W9.setCell ⟨W.heap.size, j, none⟩ (.slice A9 M M)) (W.heap.size + 1) 95 #[.slice (some ⟨W.heap.size, 0, none⟩) N N] := (hbx.below' z9).far (p := ⟨W.heap.size, j, none⟩) (by simp) _
                clear e5 ho9 ho HCOD
                go_wp2_with fail
                exact ⟨⟨j + 1, _, by omega, by go_num, hul10, hnu10, hfit10, ho10, hu10, hp10, hbx10, hb10⟩, by simp [intOf]; omega⟩
              exact AllReady.nil
            exact AllReady.nil
          exact AllReady.nil
        exact AllReady.nil
      · have hgM : (1000 : Int) < (M : Int) := by omega
        have HF : Hid (cycFitsB d (nums ts) = false) := Lib.hid (by
          unfold cycFitsB
          rw [Bool.and_eq_false_iff]
          refine .inr (List.all_eq_false.2 ⟨t.xs, List.mem_map.2 ⟨t, htm, rfl⟩, ?_⟩)
          rw [HLN.out, ← HM.out]
          simpa using hM1)
        go_wp2_with (go_at_call 54; refine (sizeI_any _ _ _ _ (by omega)).mono ?_; rintro e w' ⟨rfl, rfl⟩)
        have d1 := b1r.set_ 0 (.slice none 0 0)
        exact bodyPost_ret (v := .tuple #[.agg #[.slice none 0 0], .int .i64 5]) (by simp [results, Try.results47, go_sem, d1.cell 0]) rfl ⟨.inr ⟨HF.out, rfl⟩, yb.setCell (by simp) _⟩
    · have hjn : j = n := by omega
      subst hjn
      have HF : Hid (cycFitsB d (nums ts) = true) := Lib.hid (by
        unfold cycFitsB
        rw [HLN.out, ← HN.out]
        simp only [Bool.and_eq_true, decide_eq_true_eq, List.all_eq_true]
        refine ⟨h400, fun v hv => hfit.out v ?_⟩
        rw [List.take_of_length_le (by rw [HLN.out]; exact Nat.le_refl _)]; exact hv)
      have hne : ¬ W.heap.size + 1 = w.heap.size + 1 := by omega
      go_wp2_with fail
      have d1 := b1r.set_ 0 (.slice (some ⟨W.heap.size, 0, none⟩) N N)
      have hrest : us.map Sl.val ++ List.replicate (N - j) (Value.slice none 0 0) = (us ++ List.replicate (N - j) (⟨none, 0, []⟩ : Sl)).map Sl.val := by simp [Sl.val]
      have hnums : nums (us ++ List.replicate (N - j) (⟨none, 0, []⟩ : Sl)) = cycWords d (nums ts) := by
        have h1 := hnu.out
        rw [List.take_of_length_le (by rw [List.length_map, HLN.out]; exact Nat.le_refl _)] at h1
        unfold cycWords
        rw [HLN.out, ← h1, HN.out, show j * d - j = j * (d - 1) from by rw [Nat.mul_sub]; simp]
        simp [nums]
      have hoo : OII (wr.setCell ⟨w.heap.size + 1, 0, none⟩ (.slice (some ⟨W.heap.size, 0, none⟩) N N)) W.heap.size 25 2 (some ⟨W.heap.size, 0, none⟩) N N (us ++ List.replicate (N - j) (⟨none, 0, []⟩ : Sl)) := by
        refine ⟨?_, fun u hum => ?_, ?_⟩
        · rw [← hrest]
          exact ho.far (p := ⟨w.heap.size + 1, 0, none⟩) (by simp [blk]; omega) _
        · rcases List.mem_append.1 hum with h | h
          · exact (hu.out u h).far (p := ⟨w.heap.size + 1, 0, none⟩) (fun e => by have h1 : W.heap.size ≤ w.heap.size + 1 := (hu.out u h).blk_ge _ e; omega) _
          · rw [(List.mem_replicate.1 h).2]; exact Own.nil
        · rw [List.pairwise_append]
          refine ⟨hp, List.pairwise_replicate.2 (.inr (fun b h => by simp [blk] at h)), fun u _ v hv b _ h => ?_⟩
          rw [(List.mem_replicate.1 hv).2] at h
          simp [blk] at h
      exact bodyPost_ret (v := .tuple #[.agg #[.slice (some ⟨W.heap.size, 0, none⟩) N N], .int .i64 0]) (by simp [results, Try.results47, go_sem, d1.cell 0]) rfl ⟨.inl ⟨HF.out, _, _, rfl, OII.mono hoo y0.size, hnums⟩, yb.setCell (by simp) _⟩
end Go.Proofs.Ytfdbhlhlhjdpbaa

/-
  Contracts of impl.ValidCyclic and of the reference's l09Bits, l09IsCyclic.
-/
namespace Go.Proofs.Ytfdbhlhlhjdpbaa
open Go.RowKit

set_option maxHeartbeats 1000000 in
theorem validCyclic_any (A : Option Addr) (n c : Nat) (ts : List Sl) (w : World) (hx : SII w A n ts) (hn : n ≤ 1048576) (hns : ∀ t ∈ ts, t.xs.length ≤ 1048576) :
    Calls Try.prog 107 #[.agg #[.slice A n c]] w fun e w' => e = .returned (.bool (validCyclB (nums ts))) ∧ Below w.heap.size w w' := by
  obtain ⟨W, hW_⟩ : ∃ W, W = w.alloc (.cells #[.slice A n c] 95) := ⟨_, rfl⟩
  have b0 : Blk W w.heap.size 95 #[.slice A n c] := by rw [hW_]; exact Blk.new w _ _
  have y0 : Below w.heap.size w W := by rw [hW_]; exact (Below.refl _ _).alloc (Nat.le_refl _) _
  have HW := Lib.hid hW_
  clear hW_
  have q0 : W.cell? ⟨w.heap.size, 0, none⟩ = some (.slice A n c) := b0.cell 0
  have HL : Hid ((nums ts).length = n) := by show _ = _; have := hx.len; simpa [nums] using this
  have HNS := Lib.hid hns
  clear hns
  cases a1 : inB n 1 400
  · have A1 := Lib.hid a1
    clear a1
    go_enter Try.func107, Try.ntmps107
    go_wp2_with (first
      | (go_at_call 49; refine (sizeII_any _ _ _ _ (by omega)).mono ?_; rintro e w' ⟨rfl, rfl⟩)
      | (go_at_call 41; refine (within_is A1.out _).mono ?_; rintro e w' ⟨rfl, rfl⟩))
    go_ret
    exact ⟨ret_bool (by unfold validCyclB; rw [HL.out, A1.out]; rfl), by rw [← HW.out]; exact y0⟩
  · have A1 := Lib.hid a1
    clear a1
    go_enter Try.func107, Try.ntmps107
    go_wp2_with (first
      | (go_at_call 49; refine (sizeII_any _ _ _ _ (by omega)).mono ?_; rintro e w' ⟨rfl, rfl⟩)
      | (go_at_call 41; refine (within_is A1.out _).mono ?_; rintro e w' ⟨rfl, rfl⟩))
    rw [← HW.out]
    refine (wordsOk_any _ _ _ ts _ _ (hx.below y0) (by omega) (fun t ht => by have := HNS.out t ht; omega) (by omega) (by omega)).mono ?_
    rintro e w2 ⟨rfl, hb2⟩
    go_wp2_with fail
    go_ret
    exact ⟨ret_bool (by unfold validCyclB; rw [HL.out, A1.out]; simp), y0.trans (hb2.mono y0.size)⟩
end Go.Proofs.Ytfdbhlhlhjdpbaa

/-
  A cyclic tag system that runs: ValidTurn, its state in memory, cyclicRunOf, halts, word, turn.
-/
namespace Go.Proofs.Ytfdbhlhlhjdpbaa
open Go.RowKit Go.Sort

set_option maxRecDepth 100000 in
set_option maxHeartbeats 2000000 in
theorem validTurn_any (A : Option Addr) (n c : Nat) (ts : List Sl) (a : Int) (C : Option Addr) (l r : Nat) (xs : List Int) (w : World) (hx : SII w A n ts) (hz : SI w C l xs) (hn : n ≤ 1048576) (hl : l ≤ 1048576) (hns : ∀ t ∈ ts, t.xs.length ≤ 1048576) :
    Calls Try.prog 57 #[.agg #[.slice A n c], .agg #[.int .i64 a, .slice C l r]] w fun e w' => e = .returned (.bool (validTurnB (nums ts) ⟨a, xs⟩)) ∧ Below w.heap.size w w' := by
  obtain ⟨W, hW_⟩ : ∃ W, W = (w.alloc (.cells #[.slice A n c] 95)).alloc (.cells #[.int .i64 a, .slice C l r] 36) := ⟨_, rfl⟩
  have s_1 : (w.alloc (.cells #[.slice A n c] 95)).heap.size = w.heap.size + 1 := by simp
  have b0 : Blk W w.heap.size 95 #[.slice A n c] := by rw [hW_]; exact (Blk.new w _ _).alloc _
  have b1 : Blk W (w.heap.size + 1) 36 #[.int .i64 a, .slice C l r] := by rw [hW_, ← s_1]; exact Blk.new _ _ _
  have y0 : Below w.heap.size w W := by rw [hW_]; exact ((Below.refl _ _).alloc (Nat.le_refl _) _).alloc (by simp) _
  have HW := Lib.hid hW_
  clear hW_ s_1
  have u0 : W.cell? ⟨w.heap.size, 0, none⟩ = some (.slice A n c) := b0.cell 0
  have v0 : W.cell? ⟨(w.heap.size + 1), 0, none⟩ = some (.int .i64 a) := b1.cell 0
  have v1 : W.cell? ⟨(w.heap.size + 1), 1, none⟩ = some (.slice C l r) := b1.cell 1
  have HNS := Lib.hid hns
  clear hns
  have HF : Hid (validTurnB (nums ts) ⟨a, xs⟩ = (validCyclB (nums ts) && inB a 0 ((n : Int) - 1) && tagWordB xs 2)) := Lib.hid (by
    have hln : ((nums ts).length : Int) = n := by have := hx.len; simp [nums]; omega
    unfold validTurnB; rw [hln])
  have HC : Hid (∀ d' os, Calls Try.prog 107 #[.agg #[.slice A n c]] (grow (redrawn W d') os) fun e w' => e = .returned (.bool (validCyclB (nums ts))) ∧ ∃ p : Regrown, w' = grow (redrawn W p.d) p.os) :=
    fun d' os => Calls.regrown_of (validCyclic_any _ _ _ ts _ ((hx.below y0).below (below_regrown W d' os)) hn HNS.out)
  have HZ : Hid (∀ d' os, SI (grow (redrawn W d') os) C l xs) := fun d' os => (hz.below y0).below (below_regrown W d' os)
  obtain ⟨v1, e1⟩ : ∃ v, v = validCyclB (nums ts) := ⟨_, rfl⟩
  obtain ⟨v2, e2⟩ : ∃ v, v = inB a 0 ((n : Int) - 1) := ⟨_, rfl⟩
  have E1 := Lib.hid e1.symm
  have E2 := Lib.hid e2.symm
  rw [← e1] at HC
  clear e1 e2
  cases v1 <;> cases v2
  all_goals
    go_enter Try.func57, Try.ntmps57
    go_wp2_with fail
    rw [← HW.out]
    have k0 := cell_regrown u0
    have m0 := cell_regrown v0
    have m1 := cell_regrown v1
    refine wp_region_quiet_below (by kernel_rfl) (by kernel_rfl) ?_
    repeat (go_big_quiet_step ((first
      | (go_at_call 107; exact HC.out _ _)
      | (go_at_call 49; exact Calls.regrown_of ((sizeII_any _ _ _ _ (by omega)).mono fun _ _ ⟨he, hw⟩ => ⟨he, hw ▸ Below.refl _ _⟩))
      | (go_at_call 41; exact Calls.regrown_of ((within_is E2.out _).mono fun _ _ ⟨he, hw⟩ => ⟨he, hw ▸ Below.refl _ _⟩))
      | (go_at_call 99; exact Calls.regrown_of ((isTagWord_any _ _ _ xs _ _ (HZ.out _ _) (by omega) (by omega) (by omega)).mono fun _ _ ⟨he, hw⟩ => ⟨he, hw ▸ Below.refl _ _⟩)))))
    refine wpQuiet_nil ?_
    intro _ hw'
    obtain ⟨⟨dq, osq⟩, hw''⟩ := hw'
    subst hw''
    have z1 := below_regrown W dq osq
    clear k0 m0 m1
    generalize grow (redrawn W dq) osq = W1 at *
    go_wp2_with fail
    go_ret
    exact ⟨ret_bool (by rw [HF.out, E1.out, E2.out]; simp), y0.trans (z1.mono y0.size)⟩

/-- A run of a cyclic tag system in memory. -/
def CRun (w : World) (g : Nat) (A : Option Addr) (n c : Nat) (a : Int) (Q : Option Addr) (l r : Nat) : Prop := Blk w g 157 #[.slice A n c, .int .i64 a, .slice Q l r]
def NewCRun (w : World) (A : Option Addr) (n c : Nat) (x : Tu) (e : Ending) (w' : World) : Prop :=
  ∃ g Q r, e = .returned (.pointer (some ⟨g, 0, none⟩)) ∧ w.heap.size ≤ g ∧ CRun w' g A n c x.at_ Q x.word.length r ∧ Own w' w.heap.size 2 1 Q x.word.length r (ints x.word) ∧ Below w.heap.size w w'

set_option maxHeartbeats 1000000 in
theorem cyclicRunOf_any (A : Option Addr) (n c : Nat) (a : Int) (C : Option Addr) (l r : Nat) (xs : List Int) (w : World) (hz : SI w C l xs) (hl : l ≤ 1048576) :
    Calls Try.prog 48 #[.agg #[.slice A n c], .agg #[.int .i64 a, .slice C l r]] w (NewCRun w A n c ⟨a, xs⟩) := by
  obtain ⟨W, hW_⟩ : ∃ W, W = (w.alloc (.cells #[.slice A n c] 95)).alloc (.cells #[.int .i64 a, .slice C l r] 36) := ⟨_, rfl⟩
  have s_1 : (w.alloc (.cells #[.slice A n c] 95)).heap.size = w.heap.size + 1 := by simp
  have b0 : Blk W w.heap.size 95 #[.slice A n c] := by rw [hW_]; exact (Blk.new w _ _).alloc _
  have b1 : Blk W (w.heap.size + 1) 36 #[.int .i64 a, .slice C l r] := by rw [hW_, ← s_1]; exact Blk.new _ _ _
  have y0 : Below w.heap.size w W := by rw [hW_]; exact ((Below.refl _ _).alloc (Nat.le_refl _) _).alloc (by simp) _
  have HW := Lib.hid hW_
  clear hW_ s_1
  have u0 : W.cell? ⟨w.heap.size, 0, none⟩ = some (.slice A n c) := b0.cell 0
  have v0 : W.cell? ⟨(w.heap.size + 1), 0, none⟩ = some (.int .i64 a) := b1.cell 0
  have v1 : W.cell? ⟨(w.heap.size + 1), 1, none⟩ = some (.slice C l r) := b1.cell 1
  have hz1 := hz.below y0
  have g0 := b0.lt
  have g1 := b1.lt
  go_enter Try.func48, Try.ntmps48
  go_wp2_with fail
  rw [← HW.out]
  go_region_held3 (fun w' => w'.cell? ⟨w.heap.size, 0, none⟩ = some (.slice A n c) ∧ w'.cell? ⟨w.heap.size + 1, 0, none⟩ = some (.int .i64 a) ∧ w'.cell? ⟨w.heap.size + 1, 1, none⟩ = some (.slice C l r))
    (first
      | (go_keep; done)
      | (exact ⟨(hb.cell (p := ⟨w.heap.size, 0, none⟩) g0).trans u0, (hb.cell (p := ⟨w.heap.size + 1, 0, none⟩) g1).trans v0, (hb.cell (p := ⟨w.heap.size + 1, 1, none⟩) g1).trans v1⟩))
    (first
      | (go_at_call 45; refine (cloneI_any _ _ _ xs _ (Rd.drewN hz1 1) hl).mono ?_; rintro e w' ⟨A2, c2, rfl, ho, hb⟩))
  go_wp2
  go_ret
  have hwz : W.heap.size ≤ w'.heap.size := hb.size
  have hbl : Below W.heap.size W w' := below_undrew hb
  exact ⟨w'.heap.size, A2, c2, rfl, by omega, heap_alloc_new w' _, ((ho.mono (show w.heap.size ≤ W.heap.size by omega)).alloc _), (y0.trans (hbl.mono (by omega))).alloc (by omega) _⟩

theorem cyclicHalts_any {w : World} {g : Nat} {A : Option Addr} {n c : Nat} {a : Int} {Q : Option Addr} {l r : Nat} (h : CRun w g A n c a Q l r) :
    Calls Try.prog 50 #[.pointer (some ⟨g, 0, none⟩)] w fun e w' => e = .returned (.bool (decide (l = 0))) ∧ w = w' := by
  have k2 : w.cell? ⟨g, 2, none⟩ = some (.slice Q l r) := h.cell 2
  go_enter Try.func50, Try.ntmps50
  go_wp2
  go_ret
  exact ⟨ret_bool (by rw [Bool.eq_iff_iff]; simp), rfl⟩
theorem cyclicWord_any {w : World} {g : Nat} {A : Option Addr} {n c : Nat} {a : Int} {Q : Option Addr} {l r : Nat} (h : CRun w g A n c a Q l r) :
    Calls Try.prog 189 #[.pointer (some ⟨g, 0, none⟩)] w fun e w' => e = .returned (.slice Q l r) ∧ w = w' := by
  have k2 : w.cell? ⟨g, 2, none⟩ = some (.slice Q l r) := h.cell 2
  go_enter Try.func189, Try.ntmps189
  go_wp2
  go_ret
  exact ⟨rfl, rfl⟩

/-- A new turn. -/
def NewTu (w : World) (x : Tu) (e : Ending) (w' : World) : Prop :=
  ∃ Q r, e = .returned (.agg #[.int .i64 x.at_, .slice Q x.word.length r]) ∧ Own w' w.heap.size 2 1 Q x.word.length r (ints x.word) ∧ Below w.heap.size w w'
set_option maxHeartbeats 1000000 in
theorem cyclicTurn_any {w : World} {g : Nat} {A : Option Addr} {n c : Nat} {a : Int} {Q : Option Addr} {l r : Nat} {xs : List Int} (h : CRun w g A n c a Q l r) (hz : SI w Q l xs) (hl : l ≤ 1048576) :
    Calls Try.prog 53 #[.pointer (some ⟨g, 0, none⟩)] w (NewTu w ⟨a, xs⟩) := by
  obtain ⟨W, hW_⟩ : ∃ W, W = w.alloc (.cells #[.int .i64 0, .slice none 0 0] 36) := ⟨_, rfl⟩
  have b1 : Blk W w.heap.size 36 #[.int .i64 0, .slice none 0 0] := by rw [hW_]; exact Blk.new w _ _
  have y0 : Below w.heap.size w W := by rw [hW_]; exact (Below.refl _ _).alloc (Nat.le_refl _) _
  have HW := Lib.hid hW_
  clear hW_
  have h1 := h.below' y0
  have k1 : W.cell? ⟨g, 1, none⟩ = some (.int .i64 a) := h1.cell 1
  have k2 : W.cell? ⟨g, 2, none⟩ = some (.slice Q l r) := h1.cell 2
  have t0 : W.cell? ⟨w.heap.size, 0, none⟩ = some (.int .i64 0) := b1.cell 0
  have t1 : W.cell? ⟨w.heap.size, 1, none⟩ = some (.slice none 0 0) := b1.cell 1
  have f0 := b1.frozen 0
  have f1 := b1.frozen 1
  have hz1 := hz.below y0
  have hg1 := h1.lt
  have g1 := b1.lt
  have HL := Lib.hid hz.len
  have gne : g ≠ w.heap.size := by have := h.lt; omega
  go_enter Try.func53, Try.ntmps53
  go_wp2_with fail
  rw [← HW.out]
  go_region_held3 (fun w' => w'.cell? ⟨g, 1, none⟩ = some (.int .i64 a) ∧ w'.cell? ⟨g, 2, none⟩ = some (.slice Q l r))
    (first
      | (go_keep; done)
      | (exact ⟨h3.cell 1, h3.cell 2⟩)
      | (exact ⟨((h3.far (p := ⟨w.heap.size, 0, none⟩) gne _).far (p := ⟨w.heap.size, 1, none⟩) gne _).cell 1, ((h3.far (p := ⟨w.heap.size, 0, none⟩) gne _).far (p := ⟨w.heap.size, 1, none⟩) gne _).cell 2⟩))
    (first
      | (go_at_call 45; refine (cloneI_any _ _ _ xs _ (Rd.drewN hz1 1) hl).mono ?_; rintro e w' ⟨A2, c2, rfl, ho, hb⟩
         have h3 := (h1.drewN 1).below' hb
         have bt := (b1.drewN 1).below' hb
         have p0 : w'.cell? ⟨w.heap.size, 0, none⟩ = some (.int .i64 0) := bt.cell 0
         have p1 : w'.cell? ⟨w.heap.size, 1, none⟩ = some (.slice none 0 0) := bt.cell 1
         have q0 := bt.frozen 0
         have q1 := bt.frozen 1))
  go_wp2_with fail
  have hwz : W.heap.size ≤ w'.heap.size := hb.size
  have hbl : Below W.heap.size W w' := below_undrew hb
  have dB := (bt.set_ 0 (.int .i64 a)).set_ 1 (.slice A2 xs.length c2)
  have d0 : ((w'.setCell ⟨w.heap.size, 0, none⟩ (.int .i64 a)).setCell ⟨w.heap.size, 1, none⟩ (.slice A2 xs.length c2)).cell? ⟨w.heap.size, 0, none⟩ = some (.int .i64 a) := dB.cell 0
  have d1 : ((w'.setCell ⟨w.heap.size, 0, none⟩ (.int .i64 a)).setCell ⟨w.heap.size, 1, none⟩ (.slice A2 xs.length c2)).cell? ⟨w.heap.size, 1, none⟩ = some (.slice A2 xs.length c2) := dB.cell 1
  have yb : Below w.heap.size w ((w'.setCell ⟨w.heap.size, 0, none⟩ (.int .i64 a)).setCell ⟨w.heap.size, 1, none⟩ (.slice A2 xs.length c2)) := ((y0.trans (hbl.mono y0.size)).setCell (by simp) _).setCell (by simp) _
  have hbq : blk A2 ≠ some w.heap.size := fun e => by have := ho.blk_ge _ e; simp at this; omega
  have yo : Own ((w'.setCell ⟨w.heap.size, 0, none⟩ (.int .i64 a)).setCell ⟨w.heap.size, 1, none⟩ (.slice A2 xs.length c2)) w.heap.size 2 1 A2 xs.length c2 (ints xs) := ((ho.mono (by simpa using y0.size)).far (p := ⟨w.heap.size, 0, none⟩) hbq _).far (p := ⟨w.heap.size, 1, none⟩) hbq _
  generalize (w'.setCell ⟨w.heap.size, 0, none⟩ (.int .i64 a)).setCell ⟨w.heap.size, 1, none⟩ (.slice A2 xs.length c2) = wf at *
  have hres : NewTu w ⟨a, xs⟩ (.returned (.agg #[.int .i64 a, .slice A2 xs.length c2])) wf := ⟨A2, c2, rfl, yo, yb⟩
  exact bodyPost_ret (v := .agg #[.int .i64 a, .slice A2 xs.length c2]) (by simp [results, Try.results53, go_sem, d0, d1]) rfl hres
end Go.Proofs.Ytfdbhlhlhjdpbaa

/-
  Contracts of the laws' helpers over Turn: szTurn, toTurn, eqTurn, markTurn.
-/
namespace Go.Proofs.Ytfdbhlhlhjdpbaa
open Go.RowKit

def ToTurn (w : World) (d0 : Int) (n0 : Nat) (x0 : List Int) (e : Ending) (w' : World) : Prop :=
  ∃ B0, e = .returned (.agg #[.int .i64 d0, .slice B0 n0 n0]) ∧ Own w' w.heap.size 2 1 B0 n0 n0 (ints x0) ∧ Below w.heap.size w w'

def sameTurnB (d0 d0' : Int) (x0 x0' : List Int) : Bool :=
  decide (d0 = d0') && sameI x0 x0'
theorem sameTurnB_self (d0 : Int) (x0 : List Int) : sameTurnB d0 d0 x0 x0 = true := by simp [sameTurnB, sameI]

end Go.Proofs.Ytfdbhlhlhjdpbaa

/-
  Marks that are read again, for Turn; a turn in a box.
-/
namespace Go.Proofs.Ytfdbhlhlhjdpbaa
open Go.RowKit

theorem turn_set {w : World} {g : Nat} {a b : Value} {t : TypeId} (h : Blk w g t #[a, b]) (x y : Value) : Blk ((w.setCell ⟨g, 0, none⟩ x).setCell ⟨g, 1, none⟩ y) g t #[x, y] := (h.set_ 0 x).set_ 1 y
theorem turn_below {w w' : World} {g lo : Nat} (h : Below lo w w') (hg : lo ≤ g) (x y : Value) : Below lo w ((w'.setCell ⟨g, 0, none⟩ x).setCell ⟨g, 1, none⟩ y) := (h.setCell hg _).setCell hg _
theorem turn_far {w : World} {g lo s n c : Nat} {t : TypeId} {A : Option Addr} {cs : List Value} (h : Own w lo t s A n c cs) (hg : g < lo) (x y : Value) : Own ((w.setCell ⟨g, 0, none⟩ x).setCell ⟨g, 1, none⟩ y) lo t s A n c cs := by
  have hb : blk A ≠ some g := fun e => by have := h.blk_ge g e; omega
  exact (h.far (p := ⟨g, 0, none⟩) hb _).far (p := ⟨g, 1, none⟩) hb _
theorem turn_ne {w : World} {g : Nat} {cs : Array Value} {lo s n' c' : Nat} {X : Option Addr} {xs : List Value} (h : Blk w g 36 cs) (h' : Own w lo 2 s X n' c' xs) : blk X ≠ some g := by
  intro hb
  rcases h'.2 with ⟨rfl, _⟩ | ⟨b, off, cur, rfl, _, hg, _⟩
  · simp [blk] at hb
  · simp [blk] at hb; subst hb
    unfold Blk at h
    rw [hg] at h
    simp at h
theorem turn_far2 {w : World} {g lo n c : Nat} {A : Option Addr} {cs : List Value} {vs : Array Value} (hg : Blk w g 36 vs) (h : Own w lo 2 1 A n c cs) (x y : Value) : Own ((w.setCell ⟨g, 0, none⟩ x).setCell ⟨g, 1, none⟩ y) lo 2 1 A n c cs := by
  have hb : blk A ≠ some g := turn_ne hg h
  exact (h.far (p := ⟨g, 0, none⟩) hb _).far (p := ⟨g, 1, none⟩) hb _

def MarkTurn (w : World) (lo hi : Nat) (A : Option Addr) (n c : Nat) (p : Int) (e : Ending) (w' : World) : Prop :=
  e = .returned (.int .i64 (p + n)) ∧ OwnE w' lo 2 A n c (marks p n) ∧ Tch lo hi w w'

end Go.Proofs.Ytfdbhlhlhjdpbaa
