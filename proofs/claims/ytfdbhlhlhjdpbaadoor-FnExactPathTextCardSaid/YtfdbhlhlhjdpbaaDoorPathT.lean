/-
  Texts of paths on both sides.
-/
import Derived.Test.YtfdbhlhlhjdpbaaDoorDecI
import Derived.Test.YtfdbhlhlhjdpbaaDoorL00A
namespace Go.Proofs.YtfdbhlhlhjdpbaaDoor
open Go.RowKit

/-- Numbers with dots between them. -/
def dotS (xs : List Int) : ByteArray := if xs = [] then ⟨#[45]⟩ else ⟨(joinD xs ⟨#[46]⟩).toArray⟩
def fitsB (xs : List Int) : Bool := decide (xs.length ≤ 36) && allIn xs 0 1000000000000
def pathS (xs : List Int) : ByteArray := if fitsB xs then dotS xs else ⟨#[]⟩
theorem fits_parts' {xs : List Int} (h : fitsB xs = true) : xs.length ≤ 36 ∧ ∀ x ∈ xs, 0 ≤ x ∧ x ≤ 1000000000000 := by
  unfold fitsB allIn at h
  simp only [Bool.and_eq_true, decide_eq_true_eq, List.all_eq_true, inB_iff] at h
  exact h
set_option maxHeartbeats 1000000 in
theorem dotted_any (A : Option Addr) (n c : Nat) (xs : List Int) (w : World) (hx : SI w A n xs) (hn : n ≤ 1000000) (hr : ∀ x ∈ xs, 0 ≤ x ∧ x ≤ 1000000000000) (ht : Tab w) :
    Calls Tryd.prog 52 #[.slice A n c] w fun e w' => e = .returned (.string (dotS xs)) ∧ Below w.heap.size w w' := by
  have hl := hx.len
  by_cases h0 : n = 0
  · subst h0
    obtain rfl : xs = [] := List.eq_nil_of_length_eq_zero hl
    go_enter Tryd.func52, Tryd.ntmps52
    go_wp2_with fail
    go_ret
    exact ⟨rfl, Below.refl _ _⟩
  · have hn1 : 1 ≤ n := by omega
    have i0 : ¬ (n : Int) = 0 := by omega
    have HD : Hid (dotS xs = ⟨(joinD xs ⟨#[46]⟩).toArray⟩) := Lib.hid (by unfold dotS; rw [if_neg (fun e => by rw [e] at hl; simp at hl; omega)])
    have HC := Lib.hid (decimals_any A n c xs ⟨#[46]⟩ w hx hn hn1 hr (by simp) ht)
    go_enter Tryd.func52, Tryd.ntmps52
    go_wp2_with fail
    refine HC.out.mono ?_
    rintro e w1 ⟨rfl, z1⟩
    go_wp2_with fail
    go_ret
    exact ⟨by rw [HD.out]; rfl, z1⟩
set_option maxHeartbeats 1000000 in
theorem pathI_any (A : Option Addr) (n c : Nat) (xs : List Int) (w : World) (hx : SI w A n xs) (hn : n ≤ 9223372036854775807) (ht : Tab w) :
    Calls Tryd.prog 20 #[.slice A n c] w fun e w' => e = .returned (.string (pathS xs)) ∧ Below w.heap.size w w' := by
  have HL := Lib.hid hx.len
  have HT := Lib.hid ht
  by_cases h1 : 36 < n
  · have i1 : (36 : Int) < (n : Int) := by omega
    have HP : Hid (pathS xs = ⟨#[]⟩) := Lib.hid (by unfold pathS fitsB; rw [HL.out]; simp; omega)
    go_enter Tryd.func20, Tryd.ntmps20
    go_wp2_with fail
    go_ret
    exact ⟨by rw [HP.out]; rfl, Below.refl _ _⟩
  · have i1 : ¬ (36 : Int) < (n : Int) := by omega
    have HW := Lib.hid (allWithin_any A n c xs 0 1000000000000 w hx hn)
    cases ha : allIn xs 0 1000000000000
    · rw [ha] at HW
      have HP : Hid (pathS xs = ⟨#[]⟩) := Lib.hid (by unfold pathS fitsB; rw [ha]; simp)
      clear ha
      go_enter Tryd.func20, Tryd.ntmps20
      go_wp2_with (go_at_call 47; refine HW.out.mono ?_; rintro e w' ⟨rfl, rfl⟩)
      go_ret
      exact ⟨by rw [HP.out]; rfl, Below.refl _ _⟩
    · rw [ha] at HW
      have hf : fitsB xs = true := by unfold fitsB; rw [ha, HL.out]; simp; omega
      have HP : Hid (pathS xs = dotS xs) := Lib.hid (by unfold pathS; rw [hf]; rfl)
      have HC := Lib.hid (dotted_any A n c xs w hx (by omega) (fits_parts' hf).2 ht)
      clear ha hf
      go_enter Tryd.func20, Tryd.ntmps20
      go_wp2_with (first
        | (go_at_call 47; refine HW.out.mono ?_; rintro e w' ⟨rfl, rfl⟩)
        | (go_at_call 52; refine HC.out.mono ?_; rintro e w1 ⟨rfl, z1⟩))
      go_ret
      exact ⟨by rw [HP.out]; rfl, z1⟩
end Go.Proofs.YtfdbhlhlhjdpbaaDoor
