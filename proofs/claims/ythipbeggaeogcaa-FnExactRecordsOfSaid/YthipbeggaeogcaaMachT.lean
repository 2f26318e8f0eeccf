/-
  Contracts of the reference's functions on sides: l05Rest, l05Trim, l05Push.
-/
import Derived.Test.YthipbeggaeogcaaMachS
namespace Go.Proofs.Ythipbeggaeogcaa
open Go.RowKit

theorem rest_si {w : World} {A A' : Option Addr} {n : Nat} {xs : List Int} (h : SI w A n xs) (hn : 0 < n) (hA : 1 < n → ∀ b off, A = some ⟨b, off, none⟩ → A' = some ⟨b, off + 1, none⟩) : SI w A' (n - 1) xs.tail := by
  have hl := h.len
  have := Rd.cut h (i := 1) (j := n) (by omega) (Nat.le_refl _) (A' := A') hA
  rw [ints_take, ints_drop, List.take_of_length_le (by omega), List.drop_one] at this
  exact this

set_option maxHeartbeats 1000000 in
theorem l05Rest_any (A : Option Addr) (n c : Nat) (xs : List Int) (w : World) (hx : SI w A n xs) (hn : n ≤ 1048576) (hcap : n ≤ c) :
    Calls Try.prog 185 #[.slice A n c] w (NewI w xs.tail) := by
  have HL := Lib.hid hx.len
  by_cases hn0 : n = 0
  · subst hn0
    have hx0 : xs = [] := List.eq_nil_of_length_eq_zero HL.out
    subst hx0
    go_enter Try.func185, Try.ntmps185
    go_wp2
    go_ret
    exact ⟨_, _, rfl, Own.lit0 w _ 1, (Below.refl _ _).alloc (Nat.le_refl _) _⟩
  · have g0 : ((n : Int) == 0) = false := by simp; omega
    have i1 : 1 ≤ n := by omega
    have i2 : 1 ≤ c := by omega
    obtain ⟨b, off, rfl, _, _⟩ := hx.at0 (by omega)
    go_enter Try.func185, Try.ntmps185
    go_wp2_with fail
    · refine (l00Own_any _ _ _ xs.tail _ (rest_si hx (by omega) (fun h => by omega)) (by omega)).mono ?_
      rintro e w2 ⟨A2, c2, rfl, o2, z2⟩
      go_wp2_with fail
      go_ret
      exact ⟨A2, c2, ret_slice (by simp), o2, z2⟩
    · refine (l00Own_any _ _ _ xs.tail _ (rest_si hx (by omega) (fun _ b off e => by cases e; rfl)) (by omega)).mono ?_
      rintro e w2 ⟨A2, c2, rfl, o2, z2⟩
      go_wp2_with fail
      go_ret
      exact ⟨A2, c2, ret_slice (by simp), o2, z2⟩

/-- A side without the zeros at its end. -/
def trimI (xs : List Int) : List Int := (xs.reverse.dropWhile (· == 0)).reverse
theorem trim_snoc0 (xs : List Int) : trimI (xs ++ [0]) = trimI xs := by simp [trimI]
theorem trim_snoc (xs : List Int) {x : Int} (h : (x == 0) = false) : trimI (xs ++ [x]) = xs ++ [x] := by simp [trimI, h]
theorem take_pred {xs : List Int} {k : Nat} (hk : 0 < k) (hl : k ≤ xs.length) : xs.take k = xs.take (k - 1) ++ [nth xs (k - 1)] := by
  rw [nth_eq xs (k - 1) (by omega), ← List.take_succ_eq_append_getElem (by omega), show k - 1 + 1 = k from by omega]
theorem trim_next {xs : List Int} {k : Nat} (hk : 0 < k) (hl : k ≤ xs.length) (h : (nth xs (k - 1) == 0) = true) (he : trimI (xs.take k) = trimI xs) : trimI (xs.take (k - 1)) = trimI xs := by
  rw [take_pred hk hl] at he
  rw [beq_iff_eq] at h
  rw [h, trim_snoc0] at he
  exact he
theorem trim_stop {xs : List Int} {k : Nat} (hk : 0 < k) (hl : k ≤ xs.length) (h : (nth xs (k - 1) == 0) = false) (he : trimI (xs.take k) = trimI xs) : xs.take k = trimI xs := by
  rw [take_pred hk hl] at he ⊢
  rw [trim_snoc _ h] at he
  exact he

set_option maxHeartbeats 1000000 in
theorem l05Trim_any (A : Option Addr) (n c : Nat) (xs : List Int) (w : World) (hx : SI w A n xs) (hn : n ≤ 1048576) (hcap : n ≤ c) :
    Calls Try.prog 212 #[.slice A n c] w (NewI w (trimI xs)) := by
  have HL := Lib.hid hx.len
  have hcut : ∀ k, k ≤ n → SI w A k (xs.take k) := fun k hk => by
    have := Rd.cut hx (i := 0) (j := k) (by omega) hk (A' := A) (fun _ b off e => by rw [e]; rfl)
    rw [ints_take] at this
    exact this
  have HC := Lib.hid hcut
  clear hcut
  go_enter Try.func212, Try.ntmps212
  go_wp2
  go_loop [3] (fun i => ∃ k : Nat, k ≤ n ∧ i = .int .i64 k ∧ Hid (trimI (xs.take k) = trimI xs)) (fun i => (intOf i).toNat)
  case atStart => exact ⟨n, by omega, rfl, by show _ = _; rw [List.take_of_length_le (by rw [HL.out]; omega)]⟩
  case round =>
    obtain ⟨k, hk, rfl, he⟩ := hrel
    have hkc : k ≤ c := by omega
    by_cases hk0 : k = 0
    · subst hk0
      have HT : Hid (trimI xs = []) := by
        show _ = _
        rw [← he.out]; rfl
      go_wp2_with fail
      refine (l00Own_any _ _ _ [] _ SI.nil (by omega)).mono ?_
      rintro e w2 ⟨A2, c2, rfl, o2, z2⟩
      go_wp2_with fail
      go_ret
      exact ⟨A2, c2, by rw [HT.out]; rfl, by rw [HT.out]; exact o2, z2⟩
    · have i0 : (0 : Int) < (k : Int) := by omega
      have i00 : decide ((k : Int) > 0) = true := by simp; omega
      have i1 : (0 : Int) ≤ (k : Int) - 1 := by omega
      have i2 : ((k : Int) - 1).toNat = k - 1 := by omega
      obtain ⟨b, off, rfl, _, hc⟩ := hx.at_ (k := k - 1) (by omega)
      rw [← nth_eq] at hc
      cases hz : (nth xs (k - 1) == 0)
      · have HZ := Lib.hid hz
        have HT := Lib.hid (trim_stop (by omega) (by rw [HL.out]; exact hk) HZ.out he.out)
        go_wp2_with fail
        · refine (l00Own_any _ _ _ (xs.take k) _ (HC.out k hk) (by omega)).mono ?_
          rintro e w2 ⟨A2, c2, rfl, o2, z2⟩
          go_wp2_with fail
          go_ret
          exact ⟨A2, c2, ret_slice (by rw [← HT.out]; simp), by rw [← HT.out]; exact o2, z2⟩
        · omega
      · have HZ := Lib.hid hz
        go_wp2_with fail
        · exact ⟨⟨k - 1, by omega, by go_num, trim_next (by omega) (by rw [HL.out]; exact hk) HZ.out he.out⟩, by simp [intOf]; omega⟩
        · omega

set_option maxHeartbeats 1000000 in
theorem l05Push_any (x : Int) (A : Option Addr) (n c : Nat) (xs : List Int) (w : World) (hx : SI w A n xs) (hn : n ≤ 1048570) :
    Calls Try.prog 186 #[.int .i64 x, .slice A n c] w (NewI w (trimI (x :: xs))) := by
  have HL := Lib.hid hx.len
  go_enter Try.func186, Try.ntmps186
  go_wp2_with (at_builtin; refine wpList_append_Own rfl (.tmp 6) (.tmp 7) rfl elI (lo := w.heap.size) rfl (Own.lit w #[.int .i64 x] 2 1 1 w.heap.size (by simp) (by simp [maxLen]) (Nat.le_refl _)) rfl (Rd.alloc hx _) (ints_one xs) (by omega) (by simp only [maxLen]; omega) (by simp) ?_; intro A2 c2 w2 ho2 hg2 _)
  have hbb := (Own.lit w #[.int .i64 x] 2 1 1 w.heap.size (by simp) (by simp [maxLen]) (Nat.le_refl _)).below_of ((Below.refl _ _).alloc (Nat.le_refl _) _) hg2 (by simp)
  have ho3 : Own w2 w.heap.size 2 1 A2 (1 + n) c2 (ints (x :: xs)) := ho2
  refine (l05Trim_any _ _ _ (x :: xs) _ ho3.rd (by omega) ho3.le).mono ?_
  rintro e w3 ⟨A3, c3, rfl, o3, z3⟩
  go_wp2_with fail
  go_ret
  exact ⟨A3, c3, rfl, o3.mono hbb.size, hbb.trans (z3.mono hbb.size)⟩
end Go.Proofs.Ythipbeggaeogcaa
