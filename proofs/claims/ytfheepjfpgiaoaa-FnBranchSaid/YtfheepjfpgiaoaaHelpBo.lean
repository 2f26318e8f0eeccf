/-
  Contracts of the laws' helpers over []bool: szBoolS, toBoolS, eqBoolS, markBoolS, heldBoolS.
-/
import Derived.Test.YtfheepjfpgiaoaaHelpA
import Derived.Test.YtfheepjfpgiaoaaBl
namespace Go.Proofs.Ytfheepjfpgiaoaa
open Go.RowKit

set_option maxHeartbeats 400000 in
theorem szBo (A : Option Addr) (n c : Nat) (left : Int) (w : World) (hn : n ≤ 9223372036854775807) (h0 : 0 ≤ left) (h1 : left ≤ 1048576) :
    Calls Try.prog 61 #[.slice A n c, .int .i64 left] w fun e w' => e = .returned (.int .i64 (szF left n)) ∧ w = w' := by
  by_cases h : left < n
  · have h2 : left - n < 0 := by omega
    go_enter Try.func61, Try.ntmps61
    go_wp2
    go_ret
    exact ⟨ret_int (by unfold szF; rw [if_pos h]), rfl⟩
  · have h2 : ¬ left - n < 0 := by omega
    go_enter Try.func61, Try.ntmps61
    go_wp2
    go_ret
    exact ⟨ret_int (by unfold szF; rw [if_neg (by omega)]), rfl⟩
set_option maxHeartbeats 400000 in
theorem eqBo (A B : Option Addr) (n m c d : Nat) (xs ys : List Bool) (w : World) (hx : SB w A n xs) (hy : SB w B m ys) (hn : n ≤ 9223372036854775807) :
    Calls Try.prog 73 #[.slice A n c, .slice B m d] w fun e w' => e = .returned (.bool (sameBo xs ys)) ∧ ∃ q, w' = w.drewN q := by
  by_cases hnm : n = m
  · subst hnm
    go_enter Try.func73, Try.ntmps73
    go_wp2
    go_loopw [5] (fun i wr => ∃ k q : Nat, k ≤ n ∧ i = .int .i64 k ∧ Hid (xs.take k = ys.take k) ∧ wr = w.drewN q) (fun i _ => n - (intOf i).toNat)
    case atStart => exact ⟨0, 0, by omega, rfl, rfl, rfl⟩
    case round =>
      obtain ⟨k, q, hk, rfl, he, rfl⟩ := hrel
      by_cases hlt : k < n
      · obtain ⟨b, off, rfl, _, hc⟩ := hx.at_ hlt
        obtain ⟨b', off', rfl, _, hc'⟩ := hy.at_ hlt
        go_wp2
        go_quiet (fail)
        go_wp2
        · go_ret
          exact ⟨ret_bool (sameBo_ne hlt hx.len hy.len (by assumption)), _, World.drewN_drewN _ _ _⟩
        · exact ⟨⟨k + 1, _, by omega, by go_num, takeB_next hlt hx.len hy.len he.out (by assumption), rfl⟩, by simp [intOf]; omega⟩
      · go_wp2
        go_ret
        exact ⟨ret_bool (sameBo_eq (by omega) hx.len hy.len he.out), _, rfl⟩
  · have hne : ((n : Int) != (m : Int)) = true := by simp; omega
    go_enter Try.func73, Try.ntmps73
    go_wp2
    go_ret
    exact ⟨ret_bool (sameBo_len hnm hx.len hy.len), 0, rfl⟩
set_option maxHeartbeats 400000 in
theorem heldBo (A : Option Addr) (n c : Nat) (xs : List Bool) (m : Int) (w : World) (hx : SB w A n xs) (h0 : 0 ≤ m) (h1 : m + n ≤ 9223372036854775807) :
    Calls Try.prog 77 #[.slice A n c, .int .i64 m] w fun e w' => e = .returned (.int .i64 (heldBF m xs)) ∧ w = w' := by
  go_enter Try.func77, Try.ntmps77
  go_wp2
  go_loop [1, 5] (fun q i => ∃ k : Nat, k ≤ n ∧ i = .int .i64 k ∧ q = .int .i64 (m + k) ∧ Hid (xs.take k = (marksB m n).take k)) (fun _ i => n - (intOf i).toNat)
  case atStart => exact ⟨0, by omega, rfl, by simp, rfl⟩
  case round =>
    obtain ⟨k, hk, rfl, rfl, he⟩ := hrel
    by_cases hlt : k < n
    · obtain ⟨b, off, rfl, _, hc⟩ := hx.at_ hlt
      have HM3 : Hid (∃ r : Int, Int.tmod (m + (k : Int)) 3 = r ∧ IntKind.i64.wrap r = r ∧ (r == 0) = markAt m k) := Lib.hid ⟨_, rfl, IntWalk.i64_in _ (by rw [Int.tmod_eq_emod_of_nonneg (by omega)]; omega), by unfold markAt; rw [Int.tmod_eq_emod_of_nonneg (by omega)]⟩
      obtain ⟨r, hr1, hr2, hr3⟩ := HM3.out
      clear HM3
      go_wp2
      · go_ret
        exact ⟨ret_int (heldBF_ne hlt hx.len (by assumption)), rfl⟩
      · exact ⟨⟨k + 1, by omega, by go_num, by go_num, heldB_next hlt hx.len he.out (by assumption)⟩, by simp [intOf]; omega⟩
    · go_wp2
      go_ret
      exact ⟨ret_int (heldBF_eq (by omega) hx.len he.out (by omega)), rfl⟩
def MarkBo (w : World) (lo hi : Nat) (A : Option Addr) (n c : Nat) (m : Int) (e : Ending) (w' : World) : Prop :=
  e = .returned (.int .i64 (m + n)) ∧ OwnBo w' lo 4 A n c (marksB m n) ∧ Tch lo hi w w' ∧ ∀ b, blk A ≠ some b → w'.heap[b]? = w.heap[b]?
set_option maxHeartbeats 400000 in
theorem markBo (A : Option Addr) (n c : Nat) (xs : List Bool) (m : Int) (w : World) (lo hi : Nat) (hx : OwnBo w lo 4 A n c xs) (hh : ∀ b, blk A = some b → b < hi) (h0 : 0 ≤ m) (h1 : m + n ≤ 9223372036854775807) :
    Calls Try.prog 76 #[.slice A n c, .int .i64 m] w (MarkBo w lo hi A n c m) := by
  have hl : xs.length = n := by have := hx.si.len; omega
  have HL := Lib.hid hl
  have hxl : n ≤ xs.length := by omega
  clear hl
  go_enter Try.func76, Try.ntmps76
  go_wp2
  go_loopw [1, 5] (fun q i wr => ∃ k : Nat, k ≤ n ∧ i = .int .i64 k ∧ q = .int .i64 (m + k) ∧ OwnBo wr lo 4 A n c (markedB m xs k) ∧ Tch lo hi w wr ∧ Hid (∀ b, blk A ≠ some b → wr.heap[b]? = w.heap[b]?)) (fun _ i _ => n - (intOf i).toNat)
  case atStart => exact ⟨0, by omega, rfl, by simp, by rw [markedB_zero]; exact hx, Tch.refl _ _ _, fun _ _ => rfl⟩
  case round =>
    obtain ⟨k, hk, rfl, rfl, ho, ht, hfar⟩ := hrel
    by_cases hlt : k < n
    · have hml : k < (bools (markedB m xs k)).length := by rw [length_bools, length_markedB _ _ _ (by omega)]; omega
      have ho := ho.resolve_left (fun h => by omega)
      obtain ⟨b, off, rfl, hlo, _, hc, hf⟩ := ho.at_ hml
      have hbh := hh b rfl
      have ho2 := ho.set_ hml (.bool (markAt m k))
      rw [bools_set, markedB_next _ _ _ (by omega)] at ho2
      have ht2 := ht.setCell (p := ⟨b, off + k, none⟩) hlo hbh (.bool (markAt m k))
      have hfar2 : Hid (∀ b', blk (some ⟨b, off, none⟩) ≠ some b' → (wr.setCell ⟨b, off + k, none⟩ (.bool (markAt m k))).heap[b']? = w.heap[b']?) := fun b' hb' => (Below.heap_setCell _ _ _ _ (fun e => hb' (by rw [e]; rfl))).trans (hfar.out b' hb')
      have HM3 : Hid (∃ r : Int, Int.tmod (m + (k : Int)) 3 = r ∧ IntKind.i64.wrap r = r ∧ (r == 0) = markAt m k) := Lib.hid ⟨_, rfl, IntWalk.i64_in _ (by rw [Int.tmod_eq_emod_of_nonneg (by omega)]; omega), by unfold markAt; rw [Int.tmod_eq_emod_of_nonneg (by omega)]⟩
      obtain ⟨r, hr1, hr2, hr3⟩ := HM3.out
      clear HM3
      go_wp2
      exact ⟨⟨k + 1, by omega, by go_num, by go_num, .inr ho2, ht2, hfar2⟩, by simp [intOf]; omega⟩
    · go_wp2
      go_ret
      obtain rfl : k = n := by omega
      have hoo := ho
      have e2 : markedB m xs k = marksB m k := by rw [← HL.out, markedB_end]
      rw [e2] at hoo
      exact ⟨rfl, hoo, ht, hfar.out⟩
def ToBo (w : World) (n : Nat) (xs : List Bool) (e : Ending) (w' : World) : Prop :=
  ∃ A, e = .returned (.slice A n n) ∧ Own w' w.heap.size 4 1 A n n (bools xs) ∧ Below w.heap.size w w'
set_option maxHeartbeats 400000 in
theorem toBo (A : Option Addr) (n c : Nat) (xs : List Bool) (w : World) (hx : SB w A n xs) (hn : n ≤ 1048576) :
    Calls Try.prog 67 #[.slice A n c] w (ToBo w n xs) := by
  have HL := Lib.hid hx.len
  have hxl : n ≤ xs.length := by have := hx.len; omega
  have hxl' : xs.length ≤ n := by have := hx.len; omega
  go_enter Try.func67, Try.ntmps67
  go_wp2_with (at_make; refine wpList_make_Own rfl (.tmp 6) (.tmp 6) rfl elBool (n := n) (lo := w.heap.size) rfl rfl (by omega) (by unfold maxLen; omega) (Nat.le_refl _) ?_; intro w2 ho2 hb2 hs2)
  rw [made_boolsC n xs HL.out] at ho2
  have HS := Lib.hid hs2
  clear hs2
  go_loopw [4] (fun i wr => ∃ k : Nat, k ≤ n ∧ i = .int .i64 k ∧ Own wr w.heap.size 4 1 (some ⟨w.heap.size, 0, none⟩) n n (bools (copiedB xs k)) ∧ Below w.heap.size w wr) (fun i _ => n - (intOf i).toNat)
  case atStart => exact ⟨0, by omega, rfl, ho2, hb2⟩
  case round =>
    obtain ⟨k, hk, rfl, ho, hb⟩ := hrel
    by_cases hlt : k < n
    · obtain ⟨b, off, rfl, hbl, hc⟩ := (hx.below hb).at_ hlt
      have hml : k < (bools (copiedB xs k)).length := by rw [length_bools, length_copiedB _ _ (by omega)]; omega
      obtain ⟨b', off', he, hlo, _, hc', hf'⟩ := ho.at_ hml
      simp only [Option.some.injEq, Addr.mk.injEq, and_true] at he
      obtain ⟨rfl, rfl⟩ := he
      have ho3 := ho.set_ hml (.bool (xs[k]'(by omega)))
      rw [bools_set, copiedB_next _ _ (by omega)] at ho3
      have hb3 := hb.setCell (p := ⟨w.heap.size, 0 + k, none⟩) (Nat.le_refl _) (.bool (xs[k]'(by omega)))
      simp only [Nat.zero_add] at hc' hf' ho3 hb3
      go_wp2
      exact ⟨⟨k + 1, by omega, by go_num, ho3, hb3⟩, by simp [intOf]; omega⟩
    · go_wp2
      go_ret
      have hoo := ho
      rw [copiedB_end xs (by omega)] at hoo
      exact ⟨_, rfl, hoo, hb⟩
set_option maxHeartbeats 400000 in
theorem markBo_m (T : List TypeId) (A : Option Addr) (n c : Nat) (m : Int) (w : World) (lo hi : Nat) (hx : Mk w lo hi 4 1 A n) (hT : 4 ∈ T) (h0 : 0 ≤ m) (h1 : m + n ≤ 9223372036854775807) :
    Calls Try.prog 76 #[.slice A n c, .int .i64 m] w (MarkP T w lo hi n m) := by
  have HT := Lib.hid hT
  clear hT
  go_enter Try.func76, Try.ntmps76
  go_wp2
  go_loopw [1, 5] (fun q i wr => ∃ k : Nat, k ≤ n ∧ i = .int .i64 k ∧ q = .int .i64 (m + k) ∧ Mk wr lo hi 4 1 A n ∧ MkF T lo hi w wr) (fun _ i _ => n - (intOf i).toNat)
  case atStart => exact ⟨0, by omega, rfl, by simp, hx, MkF.refl _ _ _ _⟩
  case round =>
    obtain ⟨k, hk, rfl, rfl, ho, ht⟩ := hrel
    by_cases hlt : k < n
    · obtain ⟨b, off, cur, v, rfl, hlo, hhi, hg, hc, hf⟩ := ho.at_ (k := k) (by omega)
      have ht2 := ht.setCell (i := off + k) hg HT.out hlo hhi (.bool (markAt m k))
      have ho2 := ho.mkf ((MkF.refl T lo hi wr).setCell (i := off + k) hg HT.out hlo hhi (.bool (markAt m k)))
      have HG := Lib.hid hg
      clear hg
      have HM3 : Hid (∃ r : Int, Int.tmod (m + (k : Int)) 3 = r ∧ IntKind.i64.wrap r = r ∧ (r == 0) = markAt m k) := Lib.hid ⟨_, rfl, IntWalk.i64_in _ (by rw [Int.tmod_eq_emod_of_nonneg (by omega)]; omega), by unfold markAt; rw [Int.tmod_eq_emod_of_nonneg (by omega)]⟩
      obtain ⟨r, hr1, hr2, hr3⟩ := HM3.out
      clear HM3
      go_wp2
      exact ⟨⟨k + 1, by omega, by go_num, by go_num, ho2, ht2⟩, by simp [intOf]; omega⟩
    · go_wp2
      go_ret
      obtain rfl : k = n := by omega
      exact ⟨rfl, ht⟩
/-- A slice of Bools in new memory. -/
def NewBo (w : World) (xs : List Bool) (e : Ending) (w' : World) : Prop :=
  ∃ A c, e = .returned (.slice A xs.length c) ∧ Own w' w.heap.size 4 1 A xs.length c (bools xs) ∧ Below w.heap.size w w'
/-- A slice of Bools in new memory and a number. -/
def NewBo2 (w : World) (r : List Bool × Int) (e : Ending) (w' : World) : Prop :=
  ∃ A c, e = .returned (.tuple #[.slice A r.1.length c, .int .i64 r.2]) ∧ Own w' w.heap.size 4 1 A r.1.length c (bools r.1) ∧ Below w.heap.size w w'
end Go.Proofs.Ytfheepjfpgiaoaa
