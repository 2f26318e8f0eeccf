/-
  The reference's texts of paths.
-/
import Derived.Test.YtfdbhlhlhjdpbaaDoorPathT
namespace Go.Proofs.YtfdbhlhlhjdpbaaDoor
open Go.RowKit

set_option maxHeartbeats 1000000 in
theorem l06Row_any (A : Option Addr) (n c : Nat) (xs : List Int) (lo hi : Int) (w : World) (hx : SI w A n xs) (hn : n ≤ 9223372036854775807) :
    Calls Tryd.prog 80 #[.slice A n c, .int .i64 (n : Int), .int .i64 lo, .int .i64 hi] w fun e w' => e = .returned (.bool (allIn xs lo hi)) ∧ w = w' := by
  go_enter Tryd.func80, Tryd.ntmps80
  go_wp2
  go_loop [9] (fun i => ∃ k : Nat, k ≤ n ∧ i = .int .i64 k ∧ Hid (allIn (xs.take k) lo hi = true)) (fun i => n - (intOf i).toNat)
  case atStart => exact ⟨0, by omega, rfl, rfl⟩
  case round =>
    obtain ⟨k, hk, rfl, he⟩ := hrel
    by_cases hlt : k < n
    · obtain ⟨b, off, rfl, _, hc⟩ := hx.at_ hlt
      go_wp2_with (go_at_call 55; refine (l00In_any _ _ _ _).mono ?_; rintro e w' ⟨rfl, rfl⟩)
      · go_ret
        exact ⟨ret_bool (allIn_at hlt hx.len (by assumption)), rfl⟩
      · exact ⟨⟨k + 1, by omega, by go_num, allIn_next hlt hx.len (by assumption) he.out⟩, by simp [intOf]; omega⟩
    · go_wp2
      go_ret
      exact ⟨ret_bool (allIn_end (by omega) hx.len he.out), rfl⟩
theorem l30Fits_any (A : Option Addr) (n c : Nat) (xs : List Int) (w : World) (hx : SI w A n xs) (hn : n ≤ 9223372036854775807) :
    Calls Tryd.prog 50 #[.slice A n c] w fun e w' => e = .returned (.bool (fitsB xs)) ∧ w = w' := by
  have HL := Lib.hid hx.len
  by_cases h1 : n ≤ 36
  · have i1 : (n : Int) ≤ 36 := by omega
    go_enter Tryd.func50, Tryd.ntmps50
    go_wp2_with (go_at_call 80; refine (l06Row_any _ _ _ xs _ _ _ hx hn).mono ?_; rintro e w' ⟨rfl, rfl⟩)
    go_ret
    exact ⟨ret_bool (by unfold fitsB; rw [HL.out, decide_eq_true h1]; simp), rfl⟩
  · have i1 : ¬ (n : Int) ≤ 36 := by omega
    go_enter Tryd.func50, Tryd.ntmps50
    go_wp2_with fail
    go_ret
    exact ⟨ret_bool (by unfold fitsB; rw [HL.out, decide_eq_false h1]; simp), rfl⟩
/-- The text of the first k numbers. -/
def dotTo (xs : List Int) (k : Nat) : ByteArray := ⟨(joinD (xs.take k) ⟨#[46]⟩).toArray⟩
theorem dotTo_one {xs : List Int} {x : Int} (h : xs[0]? = some x) : dotTo xs 1 = decS x.toNat := by
  unfold dotTo joinD decs
  rw [List.take_add_one, h]
  simp [Lib.join_one]
theorem dl_take (xs : List Int) (k : Nat) : (decs (xs.take k)).map (·.data.toList) = ((decs xs).map (·.data.toList)).take k := by simp [decs, List.map_take]
theorem dotTo_next {xs : List Int} {k : Nat} {x : Int} (hk : 1 ≤ k) (h : xs[k]? = some x) : dotTo xs (k + 1) = dotTo xs k ++ (⟨#[46]⟩ ++ decS x.toNat) := by
  have key : joinD (xs.take (k + 1)) ⟨#[46]⟩ = joinD (xs.take k) ⟨#[46]⟩ ++ ([46] ++ (decS x.toNat).data.toList) := by
    unfold joinD
    rw [dl_take, dl_take]
    have hy : ((decs xs).map (·.data.toList))[k]? = some (decS x.toNat).data.toList := by simp [decs, h]
    generalize (decs xs).map (·.data.toList) = ys at hy
    cases ys with
    | nil => simp at hy
    | cons y r =>
      obtain ⟨k, rfl⟩ : ∃ j, k = j + 1 := ⟨k - 1, by omega⟩
      rw [List.take_succ_cons, List.take_succ_cons, Lib.join_cons, Lib.join_cons, Lib.joinTail_take_succ _ _ _ _ (by simpa using hy)]
      simp
  apply ByteArray.ext
  apply Array.toList_inj.1
  rw [ByteArray.data_append, ByteArray.data_append]
  unfold dotTo
  simp only [Array.toList_append, List.toList_toArray]
  rw [key]
set_option maxRecDepth 100000 in
set_option maxHeartbeats 2000000 in
theorem l30Text_any (A : Option Addr) (n c : Nat) (xs : List Int) (w : World) (hx : SI w A n xs) (hn : n ≤ 36) (hr : ∀ x ∈ xs, 0 ≤ x ∧ x ≤ 1000000000000) :
    Calls Tryd.prog 51 #[.slice A n c] w fun e w' => e = .returned (.string (dotS xs)) ∧ Below w.heap.size w w' := by
  have hl := hx.len
  by_cases h0 : n = 0
  · subst h0
    obtain rfl : xs = [] := List.eq_nil_of_length_eq_zero hl
    go_enter Tryd.func51, Tryd.ntmps51
    go_wp2_with fail
    go_ret
    exact ⟨rfl, Below.refl _ _⟩
  have HL := Lib.hid hl
  have HR := Lib.hid hr
  have HD : Hid (dotS xs = dotTo xs n) := Lib.hid (by unfold dotS dotTo; rw [if_neg (fun e => by rw [e] at hl; simp at hl; omega), List.take_of_length_le (by omega)])
  have i0 : ¬ (n : Int) = 0 := by omega
  have i1 : (0 : Int) < (n : Int) := by omega
  obtain ⟨b, off, rfl, _, hc⟩ := hx.at_ (k := 0) (by omega)
  obtain ⟨x0, hx0⟩ : ∃ x, x = xs[0]'(by omega) := ⟨_, rfl⟩
  have hr0 := hr x0 (by rw [hx0]; exact List.getElem_mem _)
  have hk0 : xs[0]? = some x0 := by rw [hx0]; exact List.getElem?_eq_getElem _
  have HO := Lib.hid (dotTo_one hk0)
  rw [← hx0, Nat.add_zero] at hc
  obtain ⟨u0, rfl⟩ : ∃ u : Nat, x0 = (u : Int) := ⟨x0.toNat, by omega⟩
  rw [Int.toNat_natCast] at HO
  have hu0 : u0 ≤ 1000000000000 := by omega
  clear hx0 hk0 hr hl hr0 h0
  go_enter Tryd.func51, Tryd.ntmps51
  go_wp2_with (go_at_call 81; refine (l01Dec_any u0 _ hu0).mono ?_; rintro e w1 ⟨rfl, z1⟩)
  rw [← HO.out]
  go_loopw [3, 4] (fun v i wr => ∃ k : Nat, 1 ≤ k ∧ k ≤ n ∧ i = .int .i64 (k : Int) ∧ v = .string (dotTo xs k) ∧ Hid (Below w.heap.size w wr)) (fun _ i _ => n - (intOf i).toNat)
  case atStart => exact ⟨1, by omega, by omega, rfl, rfl, Lib.hid z1⟩
  case round =>
    obtain ⟨k, hk1, hk, rfl, rfl, HZ⟩ := hrel
    rename World => W0
    clear z1
    by_cases hlt : k < n
    · have hw := hx.below HZ.out
      obtain ⟨b', off', he, _, hc1⟩ := hw.at_ hlt
      simp only [Option.some.injEq, Addr.mk.injEq, and_true] at he
      obtain ⟨rfl, rfl⟩ := he
      obtain ⟨x, hx_⟩ : ∃ x, x = xs[k]'(by rw [HL.out]; exact hlt) := ⟨_, rfl⟩
      have hxr := HR.out x (by rw [hx_]; exact List.getElem_mem _)
      have hxk : xs[k]? = some x := by rw [hx_]; exact List.getElem?_eq_getElem _
      have HN := Lib.hid (dotTo_next hk1 hxk)
      rw [← hx_] at hc1
      obtain ⟨u, rfl⟩ : ∃ u : Nat, x = (u : Int) := ⟨x.toNat, by omega⟩
      rw [Int.toNat_natCast] at HN
      have hu : u ≤ 1000000000000 := by omega
      have HS1 : Hid ((decS u).size ≤ 19) := Lib.hid (decS_len u hu)
      have HS2 : Hid ((dotTo xs k).size ≤ 100000) := Lib.hid (by
        have h1 := joinD_len (xs.take k) ⟨#[46]⟩ (fun y hy => HR.out y (List.mem_of_mem_take hy))
        have h2 : (xs.take k).length ≤ 36 := by rw [List.length_take]; omega
        have h3 : (xs.take k).length * ((⟨#[46]⟩ : ByteArray).data.toList.length + 19) ≤ 36 * (1 + 19) := Nat.mul_le_mul h2 (by simp)
        have h4 : (dotTo xs k).size = (joinD (xs.take k) ⟨#[46]⟩).length := by unfold dotTo; simp [ByteArray.size]
        omega)
      clear hx_ hxk hxr hw hc
      have j0 : (0 : Int) ≤ (k : Int) := by omega
      have j1 : (k : Int) < (n : Int) := by omega
      go_wp2_with (go_at_call 81; refine (l01Dec_any u _ hu).mono ?_; rintro e w2 ⟨rfl, z2⟩)
      all_goals first
        | (exfalso; have := HS1.out; have := HS2.out; omega)
        | (exfalso; have := HS1.out; have := HS2.out; simp at *; omega)
        | exact ⟨⟨k + 1, by omega, by omega, by go_num, by rw [HN.out], Lib.hid (HZ.out.trans (z2.mono HZ.out.size))⟩, by simp [intOf]; omega⟩
    · have j1 : ¬ (k : Int) < (n : Int) := by omega
      have HK : Hid (dotTo xs k = dotS xs) := Lib.hid (by rw [HD.out, show k = n by omega])
      go_wp2_with fail
      go_ret
      exact ⟨by rw [← HK.out]; rfl, HZ.out⟩
theorem pathS_any (A : Option Addr) (n c : Nat) (xs : List Int) (w : World) (hx : SI w A n xs) (hn : n ≤ 9223372036854775807) :
    Calls Tryd.prog 19 #[.slice A n c] w fun e w' => e = .returned (.string (pathS xs)) ∧ Below w.heap.size w w' := by
  have HL := Lib.hid hx.len
  have HW := Lib.hid (l30Fits_any A n c xs w hx hn)
  cases ha : fitsB xs
  · rw [ha] at HW
    have HP : Hid (pathS xs = ⟨#[]⟩) := Lib.hid (by unfold pathS; rw [ha]; rfl)
    clear ha
    go_enter Tryd.func19, Tryd.ntmps19
    go_wp2_with (go_at_call 50; refine HW.out.mono ?_; rintro e w' ⟨rfl, rfl⟩)
    go_ret
    exact ⟨by rw [HP.out]; rfl, Below.refl _ _⟩
  · rw [ha] at HW
    have HP : Hid (pathS xs = dotS xs) := Lib.hid (by unfold pathS; rw [ha]; rfl)
    have hp := fits_parts' ha
    have HC := Lib.hid (l30Text_any A n c xs w hx (by have := HL.out; omega) hp.2)
    clear ha hp
    go_enter Tryd.func19, Tryd.ntmps19
    go_wp2_with (first
      | (go_at_call 50; refine HW.out.mono ?_; rintro e w' ⟨rfl, rfl⟩)
      | (go_at_call 51; refine HC.out.mono ?_; rintro e w1 ⟨rfl, z1⟩))
    go_ret
    exact ⟨by rw [HP.out]; rfl, z1⟩
end Go.Proofs.YtfdbhlhlhjdpbaaDoor
