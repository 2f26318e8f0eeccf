/-
  Contracts of impl's follows, termEnd over nodes, IsTree, areTrees.
-/
import Derived.Test.YtfheepjfpgiaoaaTreM
import Derived.Test.YtfheepjfpgiaoaaBl
import Derived.Deep.QuietTactic
import Derived.BigQuiet
namespace Go.Proofs.Ytfheepjfpgiaoaa
open Go.RowKit

theorem follows_any (b : Bool) (w : World) : Calls Try.prog 182 #[.bool b] w fun e w' => e = .returned (.int .i64 ((fB b : Nat) : Int)) ∧ w = w' := by
  cases b with
  | true =>
    go_enter Try.func182, Try.ntmps182
    go_wp2_with fail
    go_ret
    exact ⟨rfl, rfl⟩
  | false =>
    go_enter Try.func182, Try.ntmps182
    go_wp2_with fail
    go_ret
    exact ⟨rfl, rfl⟩
theorem sizeBool_any (A : Option Addr) (n c : Nat) (w : World) (_hn : n ≤ 9223372036854775807) :
    Calls Try.prog 107 #[.slice A n c] w fun e w' => e = .returned (.int .i64 n) ∧ w = w' := by
  go_enter Try.func107, Try.ntmps107
  go_wp2
  go_ret
  exact ⟨rfl, rfl⟩
theorem fB_le (b : Bool) : fB b ≤ 2 := by cases b <;> decide
set_option maxRecDepth 100000 in
set_option maxHeartbeats 1000000 in
theorem termEndB_any (A : Option Addr) (n c : Nat) (bs : List Bool) (w : World) (hx : SB w A n bs) (hn : n ≤ 1152921504606846976) :
    Calls Try.prog 181 #[.slice A n c, .int .i64 0, .func (.func 182) #[] #[]] w fun e w' => e = .returned (.int .i64 (endV fB bs 1 0)) ∧ w = w' := by
  have HL := Lib.hid hx.len
  have hcall := Try.call182
  go_enter Try.func181, Try.ntmps181
  go_wp2_with fail
  go_loop [1, 7] (fun s1 s7 => ∃ k o : Nat, k ≤ n ∧ o ≤ k + 1 ∧ s1 = .int .i64 (k : Int) ∧ s7 = .int .i64 (o : Int) ∧ Hid (endV fB bs o k = endV fB bs 1 0)) (fun s1 _ => n - (intOf s1).toNat)
  case atStart => exact ⟨0, 1, by omega, by omega, rfl, rfl, rfl⟩
  case round =>
    obtain ⟨k, o, hk, ho, rfl, rfl, he⟩ := hrel
    by_cases h0 : o = 0
    · subst h0
      have HE : Hid (endV fB bs 1 0 = (k : Int)) := Lib.hid (by rw [← he.out, endV_zero])
      have i1 : ¬ ((0 : Nat) : Int) > 0 := by omega
      go_wp2_with fail
      go_ret
      exact ⟨ret_int HE.out.symm, rfl⟩
    · have i1 : ((o : Nat) : Int) > 0 := by omega
      have i0 : 0 < o := by omega
      by_cases hlt : k < n
      · obtain ⟨b, g, off, HT, rfl, _, hc⟩ := hx.pick hlt
        have HN := Lib.hid (endV_next fB (l := bs) (o := o) i0 HT.out)
        have hf := fB_le b
        have HF := Lib.hid (follows_any b w)
        obtain ⟨f, hff⟩ : ∃ f, fB b = f := ⟨_, rfl⟩
        rw [hff] at HN hf HF
        have w1 : IntKind.i64.wrap ((f : Int) - 1) = (f : Int) - 1 := IntWalk.i64_in _ (by omega)
        have w2 : IntKind.i64.wrap ((o : Int) + ((f : Int) - 1)) = ((o - 1 + f : Nat) : Int) := by rw [IntWalk.i64_in _ (by omega)]; omega
        have w3 : IntKind.i64.wrap ((k : Int) + 1) = ((k + 1 : Nat) : Int) := by rw [IntWalk.i64_in _ (by omega)]; omega
        have hfo : o - 1 + f ≤ k + 1 + 1 := by omega
        obtain ⟨o', ho'⟩ : ∃ o', o - 1 + f = o' := ⟨_, rfl⟩
        rw [ho'] at w2 hfo HN
        clear hff hf ho'
        go_wp2_with (refine HF.out.mono ?_; rintro e w' ⟨rfl, rfl⟩)
        go_round
        case rel => exact ⟨k + 1, o', by omega, by omega, by go_num, rfl, Lib.hid (by rw [← HN.out]; exact he.out)⟩
        case measure => (simp [intOf] <;> omega)
      · have HE : Hid (endV fB bs 1 0 = -1) := Lib.hid (by rw [← he.out]; exact endV_out fB i0 (by rw [HL.out]; omega))
        go_wp2_with fail
        go_ret
        exact ⟨ret_int HE.out.symm, rfl⟩
set_option maxHeartbeats 1000000 in
theorem isTree_any (A : Option Addr) (n c : Nat) (bs : List Bool) (w : World) (hx : SB w A n bs) (hn : n ≤ 1152921504606846976) :
    Calls Try.prog 98 #[.slice A n c] w fun e w' => e = .returned (.bool (treeB bs)) ∧ w = w' := by
  have HL := Lib.hid hx.len
  have HT := Lib.hid (termEndB_any A n c bs w hx hn)
  have HS := Lib.hid (endV_whole (l := bs))
  rw [hx.len] at HS
  cases hin : inB (n : Int) 1 2000 with
  | false =>
    have HI := Lib.hid hin
    have HF : Hid (treeB bs = false) := Lib.hid (by
      have h1 : ¬ (1 ≤ (n : Int) ∧ (n : Int) ≤ 2000) := fun h => by rw [(inB_iff _ _ _).2 h] at hin; cases hin
      rcases Nat.eq_zero_or_pos n with h0 | h0
      · rw [show bs = [] from List.eq_nil_of_length_eq_zero (by rw [HL.out, h0])]; rfl
      · exact treeB_long (by rw [HL.out]; omega))
    clear hin
    go_enter Try.func98, Try.ntmps98
    go_wp2_with (first | (go_at_call 107; refine (sizeBool_any _ _ _ _ (by omega)).mono ?_; rintro e w' ⟨rfl, rfl⟩) | (go_at_call 109; refine (within_is HI.out _).mono ?_; rintro e w' ⟨rfl, rfl⟩))
    go_ret
    exact ⟨ret_bool HF.out.symm, rfl⟩
  | true =>
    have HI := Lib.hid hin
    have HF : Hid (treeB bs = wholeB bs) := Lib.hid (by
      have h1 := (inB_iff _ _ _).1 hin
      unfold treeB; rw [decide_eq_true (by rw [HL.out]; omega), Bool.true_and])
    clear hin
    obtain ⟨V, hV⟩ : ∃ V, endV fB bs 1 0 = V := ⟨_, rfl⟩
    rw [hV] at HT HS
    clear hV
    have hS2 : (V == (n : Int)) = treeB bs := by rw [HF.out]; exact HS.out
    obtain ⟨r, hr⟩ : ∃ r, treeB bs = r := ⟨_, rfl⟩
    rw [hr] at hS2 ⊢
    clear HF hr
    go_enter Try.func98, Try.ntmps98
    go_wp2_with (first | (go_at_call 107; refine (sizeBool_any _ _ _ _ (by omega)).mono ?_; rintro e w' ⟨rfl, rfl⟩) | (go_at_call 109; refine (within_is HI.out _).mono ?_; rintro e w' ⟨rfl, rfl⟩) | (go_at_call 181; refine HT.out.mono ?_; rintro e w' ⟨rfl, rfl⟩))
    go_ret
    exact ⟨rfl, rfl⟩
theorem areTrees1_any (A : Option Addr) (n c : Nat) (bs : List Bool) (w : World) (hx : SB w A n bs) (hn : n ≤ 1152921504606846976) :
    Calls Try.prog 179 #[.slice A n c] w fun e w' => e = .returned (.bool (!treeB bs)) ∧ w = w' := by
  go_enter Try.func179, Try.ntmps179
  go_wp2_with (go_at_call 98; refine (isTree_any _ _ _ _ _ hx hn).mono ?_; rintro e w' ⟨rfl, rfl⟩)
  go_ret
  exact ⟨rfl, rfl⟩
end Go.Proofs.Ytfheepjfpgiaoaa
