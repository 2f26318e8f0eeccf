/-
  Contract of impl's (*tree).equal.
-/
import Derived.Test.YtfheepjfpgiaoaaTreM
import Derived.Deep.QuietTactic
import Derived.BigQuiet
import Derived.LaidEqlPtr
namespace Go.Proofs.Ytfheepjfpgiaoaa
open Go.RowKit

theorem treeSize : (Try.prog.info? 224).map (·.size) = some 3 := by kernel_rfl
theorem run_eql_nil_ptr {P : Program} (w : World) {tp te : TypeId} (a : Addr) (hp : P.underlying tp = some (.pointer te)) :
    (binOp .eql tp (.pointer none) (.pointer (some a))).run P w = .ok (.bool false) w := by
  have h : ∀ d : Nat, (Op.equalIn (d + 1) tp (.pointer none) (.pointer (some a))).run P w = .ok false w := fun d => by
    simp [Op.equalIn, run_underlying hp]
  simp only [binOp]
  simp [Op.equal, Op.maxDepth, h 9999]
def EqP (w : World) (t u : Tr) (e : Ending) (w' : World) : Prop := e = .returned (.bool (decide (t = u))) ∧ ∃ m, w' = w.drewN m
set_option maxRecDepth 100000 in
set_option maxHeartbeats 2000000 in
theorem equal_any : ∀ (t u : Tr) (p q : Option Addr) (w : World), TrAt w t p → TrAt w u q → Calls Try.prog 174 #[.pointer p, .pointer q] w (EqP w t u) := by
  intro t
  induction t with
  | nil =>
    intro u p q w hp hq
    obtain rfl : p = none := hp
    cases u with
    | nil =>
      obtain rfl : q = none := hq
      go_enter Try.func174, Try.ntmps174
      go_wp2_with fail
      go_ret
      exact ⟨rfl, 0, rfl⟩
    | nd a b =>
      obtain ⟨g, x, y, rfl, hb, _, _⟩ := hq
      clear hb
      have hQ := run_eql_nil_ptr (P := Try.prog) w ⟨g, 0, none⟩ Try.underlying124
      go_enter Try.func174, Try.ntmps174
      go_wp2_with fail
      go_quiet (fail)
      go_wp2_with fail
      go_ret
      exact ⟨ret_bool rfl, _, rfl⟩
  | nd a b iha ihb =>
    intro u p q w hp hq
    cases u with
    | nil =>
      obtain rfl : q = none := hq
      obtain ⟨g, x, y, rfl, hb, _, _⟩ := hp
      clear hb
      go_enter Try.func174, Try.ntmps174
      go_wp2_with fail
      go_quiet (fail)
      go_wp2_with fail
      go_ret
      exact ⟨ret_bool rfl, _, rfl⟩
    | nd c d =>
      by_cases hpq : p = q
      · subst hpq
        have HE : Hid (decide (Tr.nd a b = Tr.nd c d) = true) := Lib.hid (by rw [TrAt.fn hp hq]; simp)
        obtain ⟨g, x, y, rfl, hb, _, _⟩ := hp
        obtain ⟨j, hj, hjs⟩ := Option.map_eq_some_iff.1 treeSize
        have hQ := run_eql_ptr_same (P := Try.prog) w ⟨g, 0, none⟩ Try.underlying124 hj
        clear hq hb hj hjs
        go_enter Try.func174, Try.ntmps174
        go_wp2_with fail
        go_ret
        exact ⟨ret_bool HE.out.symm, 0, rfl⟩
      · obtain ⟨g, x, y, rfl, hb, hx, hy⟩ := hp
        obtain ⟨g', x', y', rfl, hb', hx', hy'⟩ := hq
        have hgg : ¬ g = g' := fun e => hpq (by rw [e])
        obtain ⟨N, hN⟩ : ∃ N : Int, ((1 + a.nodes + b.nodes : Nat) : Int) = N := ⟨_, rfl⟩
        obtain ⟨M, hM⟩ : ∃ M : Int, ((1 + c.nodes + d.nodes : Nat) : Int) = M := ⟨_, rfl⟩
        rw [hN] at hb
        rw [hM] at hb'
        have p0 : w.cell? ⟨g, 0, none⟩ = some (.pointer x) := hb.cell 0
        have p1 : w.cell? ⟨g, 1, none⟩ = some (.pointer y) := hb.cell 1
        have p2 : w.cell? ⟨g, 2, none⟩ = some (.int .i64 N) := hb.cell 2
        have q0 : w.cell? ⟨g', 0, none⟩ = some (.pointer x') := hb'.cell 0
        have q1 : w.cell? ⟨g', 1, none⟩ = some (.pointer y') := hb'.cell 1
        have q2 : w.cell? ⟨g', 2, none⟩ = some (.int .i64 M) := hb'.cell 2
        obtain ⟨j, hj, hjs⟩ := Option.map_eq_some_iff.1 treeSize
        have hQ := run_eql_ptr_other (P := Try.prog) w (a := ⟨g, 0, none⟩) (b := ⟨g', 0, none⟩) Try.underlying124 hj (by omega) (fun e => hgg (congrArg Addr.block e)) hb hb'
        clear hpq hb hb' hj hjs
        by_cases hNM : N = M
        · have e1 : (N != M) = false := by simp [hNM]
          have IA := Lib.hid (fun k => iha c x x' (w.drewN k) (hx.drewN k) (hx'.drewN k))
          have IB := Lib.hid (fun k => ihb d y y' (w.drewN k) (hy.drewN k) (hy'.drewN k))
          have HD : Hid (decide (Tr.nd a b = Tr.nd c d) = (decide (a = c) && decide (b = d))) := Lib.hid (by simp)
          clear hNM hN hM iha ihb hx hx' hy hy'
          unfold EqP at IA IB
          cases hac : decide (a = c) with
          | true =>
            rw [hac] at IA HD
            rw [Bool.true_and] at HD
            clear hac
            go_enter Try.func174, Try.ntmps174
            go_wp2_with fail
            go_quiet (fail)
            go_wp2_with fail
            go_quiet (first | (go_at_call_of 174 x; exact quiet_add (IA.out _)) | (go_at_call 174; exact quiet_add (IB.out _)))
            go_wp2_with fail
            go_ret
            exact ⟨ret_bool HD.out.symm, _, World.drewN_drewN _ _ _⟩
          | false =>
            rw [hac] at IA HD
            rw [Bool.false_and] at HD
            clear hac
            go_enter Try.func174, Try.ntmps174
            go_wp2_with fail
            go_quiet (fail)
            go_wp2_with fail
            go_quiet (first | (go_at_call_of 174 x; exact quiet_add (IA.out _)) | (go_at_call 174; exact quiet_add (IB.out _)))
            go_wp2_with fail
            go_ret
            exact ⟨ret_bool HD.out.symm, _, World.drewN_drewN _ _ _⟩
        · have e1 : (N != M) = true := by simp [hNM]
          have HD : Hid (decide (Tr.nd a b = Tr.nd c d) = false) := Lib.hid (by
            rw [decide_eq_false_iff_not]
            intro h
            injection h with h1 h2
            exact hNM (by rw [← hN, ← hM, h1, h2]))
          clear hNM hN hM iha ihb
          go_enter Try.func174, Try.ntmps174
          go_wp2_with fail
          go_quiet (fail)
          go_wp2_with fail
          go_ret
          exact ⟨ret_bool HD.out.symm, _, rfl⟩
end Go.Proofs.Ytfheepjfpgiaoaa
