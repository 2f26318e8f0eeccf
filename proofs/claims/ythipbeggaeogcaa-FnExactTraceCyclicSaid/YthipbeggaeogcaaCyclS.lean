/-
  Contracts of the reference's l09Bits, l09IsCyclic, l09Turn, l09AskCyclic.
-/
import Derived.Test.YthipbeggaeogcaaCyclP
import Derived.Test.YthipbeggaeogcaaTagS
namespace Go.Proofs.Ythipbeggaeogcaa
open Go.RowKit

theorem l09Bits_any (A : Option Addr) (n c : Nat) (xs : List Int) (w : World) (hx : SI w A n xs) (hn : n ≤ 1048576) :
    Calls Try.prog 189 #[.slice A n c] w fun e w' => e = .returned (.bool (tagWordB xs 2)) ∧ w = w' := by
  go_enter Try.func189, Try.ntmps189
  go_wp2_with (go_at_call 191; refine (l09Over_any _ _ _ xs _ _ hx (by omega) (by omega) (by omega)).mono ?_; rintro e w' ⟨rfl, rfl⟩)
  go_ret
  exact ⟨rfl, rfl⟩

/-- A cyclic tag system, a turn behind a pointer. -/
def CyclAt (w : World) (g : Nat) (A : Option Addr) (n c : Nat) : Prop := w.cell? ⟨g, 0, none⟩ = some (.slice A n c)
def TurnAt (w : World) (g : Nat) (a : Int) (C : Option Addr) (l r : Nat) : Prop := w.cell? ⟨g, 0, none⟩ = some (.int .i64 a) ∧ w.cell? ⟨g, 1, none⟩ = some (.slice C l r)
theorem CyclAt.lt {w : World} {g : Nat} {A : Option Addr} {n c : Nat} (h : CyclAt w g A n c) : g < w.heap.size := World.block_lt_of_cell? w _ h
theorem TurnAt.lt {w : World} {g : Nat} {a : Int} {C : Option Addr} {l r : Nat} (h : TurnAt w g a C l r) : g < w.heap.size := World.block_lt_of_cell? w _ h.1
theorem CyclAt.below {w w' : World} {g : Nat} {A : Option Addr} {n c : Nat} (h : CyclAt w g A n c) (z : Below w.heap.size w w') : CyclAt w' g A n c := (z.cell (p := ⟨g, 0, none⟩) h.lt).trans h
theorem TurnAt.below {w w' : World} {g : Nat} {a : Int} {C : Option Addr} {l r : Nat} (h : TurnAt w g a C l r) (z : Below w.heap.size w w') : TurnAt w' g a C l r := ⟨(z.cell (p := ⟨g, 0, none⟩) h.lt).trans h.1, (z.cell (p := ⟨g, 1, none⟩) h.lt).trans h.2⟩

set_option maxHeartbeats 1000000 in
theorem l09IsCyclic_any (g : Nat) (A : Option Addr) (n c : Nat) (ts : List Sl) (w : World) (ht : CyclAt w g A n c) (hx : SII w A n ts) (hn : n ≤ 1048576) (hns : ∀ t ∈ ts, t.xs.length ≤ 1048576) :
    Calls Try.prog 144 #[.pointer (some ⟨g, 0, none⟩)] w fun e w' => e = .returned (.bool (validCyclB (nums ts))) ∧ w = w' := by
  have c0 : w.cell? ⟨g, 0, none⟩ = some (.slice A n c) := ht
  have HL : Hid ((nums ts).length = n) := by show _ = _; have := hx.len; simpa [nums] using this
  go_enter Try.func144, Try.ntmps144
  go_wp2_with fail
  go_loop [3] (fun i => ∃ j : Nat, j ≤ n ∧ i = .int .i64 j ∧ Hid (wordsB ((nums ts).take j) 2 = true)) (fun i => n - (intOf i).toNat)
  case atStart => exact ⟨0, by omega, rfl, rfl⟩
  case round =>
    obtain ⟨j, hj, rfl, he⟩ := hrel
    by_cases hlt : j < n
    · obtain ⟨t, b, off, hT, htm, rfl, _, hc, hr⟩ := hx.pick hlt
      have hrl := hns t htm
      cases hw : tagWordB t.xs 2 with
      | false =>
        have HW := Lib.hid hw
        have HV := Lib.hid (words_not (letters := 2) hT.out (by rw [hw]; rfl))
        clear hw
        go_wp2_with (go_at_call 189; refine (l09Bits_any _ _ _ t.xs _ hr hrl).mono ?_; rw [HW.out]; rintro e w' ⟨rfl, rfl⟩)
        go_ret
        exact ⟨ret_bool (by unfold validCyclB; rw [HV.out]; simp), rfl⟩
      | true =>
        have HW := Lib.hid hw
        have HV := Lib.hid (words_next (letters := 2) hT.out (by rw [hw]; rfl) he.out)
        clear hw
        go_wp2_with (go_at_call 189; refine (l09Bits_any _ _ _ t.xs _ hr hrl).mono ?_; rw [HW.out]; rintro e w' ⟨rfl, rfl⟩)
        exact ⟨⟨j + 1, by omega, by go_num, HV.out⟩, by simp [intOf]; omega⟩
    · have HV : Hid (wordsB (nums ts) 2 = true) := Lib.hid (by have := he.out; rwa [List.take_of_length_le (by rw [HL.out]; omega)] at this)
      by_cases h0 : 0 < n
      · have i0 : decide ((0 : Int) < (n : Int)) = true := by simp; omega
        go_wp2_with fail
        go_ret
        exact ⟨ret_bool (by unfold validCyclB inB; rw [HL.out, HV.out]; simp; omega), rfl⟩
      · have i0 : decide ((0 : Int) < (n : Int)) = false := by simp; omega
        go_wp2_with fail
        go_ret
        exact ⟨ret_bool (by unfold validCyclB inB; rw [HL.out, HV.out]; simp; omega), rfl⟩

set_option maxRecDepth 100000 in
set_option maxHeartbeats 1000000 in
theorem l09Turn_any (g f : Nat) (A : Option Addr) (n c : Nat) (a : Int) (C : Option Addr) (l r : Nat) (xs : List Int) (w : World) (ht : CyclAt w g A n c) (hf : TurnAt w f a C l r) (hz : SI w C l xs) (hn : n ≤ 1048576) (hl : l ≤ 1048576) :
    Calls Try.prog 145 #[.pointer (some ⟨g, 0, none⟩), .pointer (some ⟨f, 0, none⟩)] w fun e w' => e = .returned (.bool (inB a 0 ((n : Int) - 1) && tagWordB xs 2)) ∧ ∃ q, w' = w.drewN q := by
  have c0 : w.cell? ⟨g, 0, none⟩ = some (.slice A n c) := ht
  obtain ⟨c1, c2⟩ := hf
  cases a1 : inB a 0 ((n : Int) - 1) with
  | false =>
    have A1 := Lib.hid a1
    clear a1
    go_enter Try.func145, Try.ntmps145
    go_wp2_with fail
    go_quiet ((go_at_call 82; exact quiet_left (l00In_is A1.out _)))
    go_wp2_with fail
    go_ret
    exact ⟨rfl, _, rfl⟩
  | true =>
    have A1 := Lib.hid a1
    clear a1
    go_enter Try.func145, Try.ntmps145
    go_wp2_with fail
    go_quiet ((first
      | (go_at_call 82; exact quiet_left (l00In_is A1.out _))
      | (go_at_call 189; exact quiet_left (l09Bits_any _ _ _ xs _ (hz.drewN _) hl))))
    go_wp2_with fail
    go_ret
    exact ⟨rfl, _, rfl⟩

set_option maxHeartbeats 1000000 in
theorem l09AskCyclic_any (g f : Nat) (A : Option Addr) (n c : Nat) (ts : List Sl) (a : Int) (C : Option Addr) (l r : Nat) (xs : List Int) (w : World) (ht : CyclAt w g A n c) (hf : TurnAt w f a C l r) (hx : SII w A n ts) (hz : SI w C l xs) (hn : n ≤ 1048576) (hl : l ≤ 1048576) (hns : ∀ t ∈ ts, t.xs.length ≤ 1048576) :
    Calls Try.prog 72 #[.pointer (some ⟨g, 0, none⟩), .pointer (some ⟨f, 0, none⟩)] w fun e w' => e = .returned (.int .i64 (if validTurnB (nums ts) ⟨a, xs⟩ = true then 0 else 1)) ∧ ∃ q, w' = w.drewN q := by
  have HL : Hid (((nums ts).length : Int) = n) := by show _ = _; have := hx.len; simp [nums]; omega
  have e0 : validTurnB (nums ts) ⟨a, xs⟩ = (validCyclB (nums ts) && (inB a 0 ((n : Int) - 1) && tagWordB xs 2)) := by unfold validTurnB; rw [HL.out, Bool.and_assoc]
  rw [e0]
  clear e0
  cases h1 : validCyclB (nums ts) with
  | false =>
    have H1 := Lib.hid h1
    clear h1
    go_enter Try.func72, Try.ntmps72
    go_wp2_with (go_at_call 144; refine (l09IsCyclic_any _ _ _ _ ts _ ht hx hn hns).mono ?_; rw [H1.out]; rintro e w' ⟨rfl, rfl⟩)
    go_ret
    exact ⟨by simp, 0, rfl⟩
  | true =>
    have H1 := Lib.hid h1
    clear h1
    generalize hv : (inB a 0 ((n : Int) - 1) && tagWordB xs 2) = v
    have HV := Lib.hid hv
    clear hv
    cases v
    all_goals
      go_enter Try.func72, Try.ntmps72
      go_wp2_with (first
        | (go_at_call 144; refine (l09IsCyclic_any _ _ _ _ ts _ ht hx hn hns).mono ?_; rw [H1.out]; rintro e w' ⟨rfl, rfl⟩)
        | (go_at_call 145; refine (l09Turn_any _ _ _ _ _ _ _ _ _ xs _ ht hf hz hn hl).mono ?_; rw [HV.out]; rintro e w' ⟨rfl, q, rfl⟩))
      go_ret
      exact ⟨by simp, _, rfl⟩
end Go.Proofs.Ythipbeggaeogcaa
