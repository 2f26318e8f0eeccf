/-
  Contract of impl.runSystem: a system that makes steps, seen through an interface.
-/
import Derived.Test.YthipbeggaeogcaaSys
import Derived.Test.YthipbeggaeogcaaHelpA
namespace Go.Proofs.Ythipbeggaeogcaa
open Go.RowKit

/-- What runSystem leaves. -/
def SysP {σ : Type} (s : Sys σ) (c : σ) (N : Nat) (vis : Nat → Bool) (K : Nat → World → Prop) (F : World → Prop) (e : Ending) (w' : World) : Prop :=
  (∃ i, i ≤ N ∧ s.Alive c i ∧ (∀ j, j < i → vis j = true) ∧ (vis i = false ∨ i = N ∨ s.halt (s.it c i) = true) ∧ e = .returned (.tuple #[.int .i64 (i : Int), .bool (s.halt (s.it c i)), .int .i64 0]) ∧ K i w') ∨
  (∃ i, i < N ∧ s.Alive c i ∧ (∀ j, j ≤ i → vis j = true) ∧ s.halt (s.it c i) = false ∧ s.room (s.it c i) = false ∧ e = .returned (.tuple #[.int .i64 0, .bool false, .int .i64 5]) ∧ F w')

theorem vis_next {vis : Nat → Bool} {i : Nat} (h : ∀ j, j < i → vis j = true) (hi : vis i = true) : ∀ j, j ≤ i → vis j = true := fun j hj => by
  by_cases e : j = i
  · subst e; exact hi
  · exact h j (by omega)

set_option maxRecDepth 100000 in
set_option maxHeartbeats 4000000 in
theorem runSystem_any {σ : Type} (s : Sys σ) (c : σ) (N : Nat) (T : TypeId) (v : Value) (fw fh fs fv : FuncId) (lb : Array Value) (vis : Nat → Bool) (I : Nat → World → Prop) (J : Nat → Value → World → Prop) (K : Nat → World → Prop) (F : World → Prop) (w : World)
    (hN : N ≤ 1000000) (mw : ∀ w, (method 386 T v "loop.example/g01079/impl.word").run Try.prog w = .ok (fw, v) w) (mh : ∀ w, (method 386 T v "loop.example/g01079/impl.halts").run Try.prog w = .ok (fh, v) w) (ms : ∀ w, (method 386 T v "loop.example/g01079/impl.step").run Try.prog w = .ok (fs, v) w)
    (cw : ∀ (args : Array Value) (w : World), (callFunc fw args).run Try.prog w = .ok (.enter fw args) w) (ch : ∀ (args : Array Value) (w : World), (callFunc fh args).run Try.prog w = .ok (.enter fh args) w) (cs : ∀ (args : Array Value) (w : World), (callFunc fs args).run Try.prog w = .ok (.enter fs args) w) (hcall : ∀ (args : Array Value) (w : World), (callFunc fv args).run Try.prog w = .ok (.enter fv args) w)
    (hA : ∀ i W, i ≤ N → s.Alive c i → I i W → Calls Try.prog fw #[v] W fun e W' => ∃ u, e = .returned u ∧ J i u W')
    (hB : ∀ i u W, i ≤ N → s.Alive c i → J i u W → Calls Try.prog fv (#[u] ++ lb) W fun e W' => e = .returned (.bool (vis i)) ∧ K i W')
    (hC : ∀ i W, i ≤ N → s.Alive c i → K i W → Calls Try.prog fh #[v] W fun e W' => e = .returned (.bool (s.halt (s.it c i))) ∧ K i W')
    (hD : ∀ i W, i < N → s.Alive c i → s.halt (s.it c i) = false → K i W → Calls Try.prog fs #[v] W fun e W' => e = .returned (.bool (s.room (s.it c i))) ∧ (s.room (s.it c i) = true → I (i + 1) W') ∧ (s.room (s.it c i) = false → F W')) (h0 : I 0 w) :
    Calls Try.prog 79 #[.iface T v, .int .i64 (N : Int), .func (.func fv) #[] lb] w (SysP s c N vis K F) := by
  go_enter Try.func79, Try.ntmps79
  go_wp2_with fail
  have HA := Lib.hid hA
  have HB := Lib.hid hB
  have HC := Lib.hid hC
  have HD := Lib.hid hD
  clear hA hB hC hD
  go_loopw [9] (fun n wr => ∃ i : Nat, n = .int .i64 (i : Int) ∧ i ≤ N ∧ s.Alive c i ∧ Hid (∀ j, j < i → vis j = true) ∧ I i wr) (fun n _ => N - (intOf n).toNat)
  case atStart => exact ⟨0, rfl, Nat.zero_le _, Sys.Alive.zero _ _, fun j h => absurd h (Nat.not_lt_zero j), h0⟩
  case round =>
    obtain ⟨i, rfl, hi, hal, hv, hI⟩ := hrel
    have HAL := Lib.hid hal
    have HA1 := Lib.hid (HA.out i wr hi hal hI)
    clear hal
    go_wp2_with fail
    refine HA1.out.mono ?_
    rintro e W1 ⟨u, rfl, hJ⟩
    have HB1 := Lib.hid (HB.out i u W1 hi HAL.out hJ)
    clear hI HA1
    go_wp2_with fail
    refine HB1.out.mono ?_
    rintro e W2 ⟨rfl, hK⟩
    have HC1 := Lib.hid (HC.out i W2 hi HAL.out hK)
    clear HB1 hJ
    cases hvi : vis i with
    | false =>
      have HVI := Lib.hid hvi
      clear hvi
      go_wp2_with fail
      refine HC1.out.mono ?_
      rintro e W3 ⟨rfl, hK3⟩
      go_wp2_with fail
      exact bodyPost_ret (v := .tuple #[.int .i64 (i : Int), .bool (s.halt (s.it c i)), .int .i64 0]) (by simp [results, Try.results79, go_sem]) rfl (.inl ⟨i, hi, HAL.out, hv.out, .inl HVI.out, rfl, hK3⟩)
    | true =>
      have HVI := Lib.hid hvi
      clear hvi
      by_cases hlt : i < N
      rotate_left
      · have hiN : i = N := by omega
        have HIN := Lib.hid hiN
        have hd : ((i : Int) == (N : Int)) = true := by simp; omega
        clear hiN
        go_wp2_with fail
        refine HC1.out.mono ?_
        rintro e W3 ⟨rfl, hK3⟩
        go_wp2_with fail
        exact bodyPost_ret (v := .tuple #[.int .i64 (i : Int), .bool (s.halt (s.it c i)), .int .i64 0]) (by simp [results, Try.results79, go_sem]) rfl (.inl ⟨i, hi, HAL.out, hv.out, .inr (.inl HIN.out), rfl, hK3⟩)
      have hd : ((i : Int) == (N : Int)) = false := by simp; omega
      go_wp2_with fail
      refine HC1.out.mono ?_
      rintro e W3 ⟨rfl, hK3⟩
      have HC3 := Lib.hid (HC.out i W3 hi HAL.out hK3)
      cases hh : s.halt (s.it c i) with
      | true =>
        have HH := Lib.hid hh
        rw [hh] at HC3
        clear hh
        go_wp2_with fail
        refine HC3.out.mono ?_
        rintro e W4 ⟨rfl, hK4⟩
        go_wp2_with fail
        exact bodyPost_ret (v := .tuple #[.int .i64 (i : Int), .bool true, .int .i64 0]) (by simp [results, Try.results79, go_sem]) rfl (.inl ⟨i, hi, HAL.out, hv.out, .inr (.inr HH.out), by rw [HH.out], hK4⟩)
      | false =>
        have HH := Lib.hid hh
        clear hh
        have HD1 := Lib.hid (HD.out i W3 hlt HAL.out HH.out hK3)
        go_wp2_with fail
        refine HD1.out.mono ?_
        rintro e W4 ⟨rfl, hI4, hF4⟩
        cases hr : s.room (s.it c i) with
        | true =>
          have HR := Lib.hid hr
          have hI5 := hI4 hr
          clear hr hI4 hF4
          go_wp2_with fail
          go_roundw
          case rel => exact ⟨i + 1, by go_num, by omega, HAL.out.step HH.out HR.out, (fun j hj => vis_next hv.out HVI.out j (by omega)), hI5⟩
          case measure => simp [intOf]; omega
        | false =>
          have HR := Lib.hid hr
          have hF5 := hF4 hr
          clear hr hI4 hF4
          go_wp2_with fail
          exact bodyPost_ret (v := .tuple #[.int .i64 0, .bool false, .int .i64 5]) (by simp [results, Try.results79, go_sem]) rfl (.inr ⟨i, hlt, HAL.out, (vis_next hv.out HVI.out), HH.out, HR.out, rfl, hF5⟩)
end Go.Proofs.Ythipbeggaeogcaa
