/-
  Contract of impl's (*tree).equal.
-/
import Derived.Test.YtfheepjfpgiaoaaPkBranch0
import Derived.Test.YtfheepjfpgiaoaaPkBranch2
import Derived.Deep.QuietTactic
import Derived.BigQuiet
import Derived.LaidEqlPtr
import Derived.Test.YtfheepjfpgiaoaaExI
import Derived.Recover
import Derived.WalkSmall
namespace Go.Proofs.Ytfheepjfpgiaoaa
open Go.RowKit

theorem treeSize : (Try.prog.info? 224).map (·.size) = some 3 := by kernel_rfl
theorem run_eql_nil_ptr {P : Program} (w : World) {tp te : TypeId} (a : Addr) (hp : P.underlying tp = some (.pointer te)) :
    (binOp .eql tp (.pointer none) (.pointer (some a))).run P w = .ok (.bool false) w := by
  have h : ∀ d : Nat, (Op.equalIn (d + 1) tp (.pointer none) (.pointer (some a))).run P w = .ok false w := fun d => by
    simp [Op.equalIn, run_underlying hp]
  simp only [binOp]
  simp [Op.equal, Op.maxDepth, h 9999]
def EqP (w : World) (t u : Tr) (e : Ending) (w' : World) : Prop := e = .returned (.bool (decide (t = u))) ∧ ∃ m, w' = w.drewN m
set_option maxRecDepth 100000 in
set_option maxHeartbeats 2000000 in
theorem equal_any : ∀ (t u : Tr) (p q : Option Addr) (w : World), TrAt w t p → TrAt w u q → Calls Try.prog 174 #[.pointer p, .pointer q] w (EqP w t u) := by
  intro t
  induction t with
  | nil =>
    intro u p q w hp hq
    obtain rfl : p = none := hp
    cases u with
    | nil =>
      obtain rfl : q = none := hq
      go_enter Try.func174, Try.ntmps174
      go_wp2_with fail
      go_ret
      exact ⟨rfl, 0, rfl⟩
    | nd a b =>
      obtain ⟨g, x, y, rfl, hb, _, _⟩ := hq
      clear hb
      have hQ := run_eql_nil_ptr (P := Try.prog) w ⟨g, 0, none⟩ Try.underlying124
      go_enter Try.func174, Try.ntmps174
      go_wp2_with fail
      go_quiet (fail)
      go_wp2_with fail
      go_ret
      exact ⟨ret_bool rfl, _, rfl⟩
  | nd a b iha ihb =>
    intro u p q w hp hq
    cases u with
    | nil =>
      obtain rfl : q = none := hq
      obtain ⟨g, x, y, rfl, hb, _, _⟩ := hp
      clear hb
      go_enter Try.func174, Try.ntmps174
      go_wp2_with fail
      go_quiet (fail)
      go_wp2_with fail
      go_ret
      exact ⟨ret_bool rfl, _, rfl⟩
    | nd c d =>
      by_cases hpq : p = q
      · subst hpq
        have HE : Hid (decide (Tr.nd a b = Tr.nd c d) = true) := Lib.hid (by rw [TrAt.fn hp hq]; simp)
        obtain ⟨g, x, y, rfl, hb, _, _⟩ := hp
        obtain ⟨j, hj, hjs⟩ := Option.map_eq_some_iff.1 treeSize
        have hQ := run_eql_ptr_same (P := Try.prog) w ⟨g, 0, none⟩ Try.underlying124 hj
        clear hq hb hj hjs
        go_enter Try.func174, Try.ntmps174
        go_wp2_with fail
        go_ret
        exact ⟨ret_bool HE.out.symm, 0, rfl⟩
      · obtain ⟨g, x, y, rfl, hb, hx, hy⟩ := hp
        obtain ⟨g', x', y', rfl, hb', hx', hy'⟩ := hq
        have hgg : ¬ g = g' := fun e => hpq (by rw [e])
        obtain ⟨N, hN⟩ : ∃ N : Int, ((1 + a.nodes + b.nodes : Nat) : Int) = N := ⟨_, rfl⟩
        obtain ⟨M, hM⟩ : ∃ M : Int, ((1 + c.nodes + d.nodes : Nat) : Int) = M := ⟨_, rfl⟩
        rw [hN] at hb
        rw [hM] at hb'
        have p0 : w.cell? ⟨g, 0, none⟩ = some (.pointer x) := hb.cell 0
        have p1 : w.cell? ⟨g, 1, none⟩ = some (.pointer y) := hb.cell 1
        have p2 : w.cell? ⟨g, 2, none⟩ = some (.int .i64 N) := hb.cell 2
        have q0 : w.cell? ⟨g', 0, none⟩ = some (.pointer x') := hb'.cell 0
        have q1 : w.cell? ⟨g', 1, none⟩ = some (.pointer y') := hb'.cell 1
        have q2 : w.cell? ⟨g', 2, none⟩ = some (.int .i64 M) := hb'.cell 2
        obtain ⟨j, hj, hjs⟩ := Option.map_eq_some_iff.1 treeSize
        have hQ := run_eql_ptr_other (P := Try.prog) w (a := ⟨g, 0, none⟩) (b := ⟨g', 0, none⟩) Try.underlying124 hj (by omega) (fun e => hgg (congrArg Addr.block e)) hb hb'
        clear hpq hb hb' hj hjs
        by_cases hNM : N = M
        · have e1 : (N != M) = false := by simp [hNM]
          have IA := Lib.hid (fun k => iha c x x' (w.drewN k) (hx.drewN k) (hx'.drewN k))
          have IB := Lib.hid (fun k => ihb d y y' (w.drewN k) (hy.drewN k) (hy'.drewN k))
          have HD : Hid (decide (Tr.nd a b = Tr.nd c d) = (decide (a = c) && decide (b = d))) := Lib.hid (by simp)
          clear hNM hN hM iha ihb hx hx' hy hy'
          unfold EqP at IA IB
          cases hac : decide (a = c) with
          | true =>
            rw [hac] at IA HD
            rw [Bool.true_and] at HD
            clear hac
            go_enter Try.func174, Try.ntmps174
            go_wp2_with fail
            go_quiet (fail)
            go_wp2_with fail
            go_quiet (first | (go_at_call_of 174 x; exact quiet_add (IA.out _)) | (go_at_call 174; exact quiet_add (IB.out _)))
            go_wp2_with fail
            go_ret
            exact ⟨ret_bool HD.out.symm, _, World.drewN_drewN _ _ _⟩
          | false =>
            rw [hac] at IA HD
            rw [Bool.false_and] at HD
            clear hac
            go_enter Try.func174, Try.ntmps174
            go_wp2_with fail
            go_quiet (fail)
            go_wp2_with fail
            go_quiet (first | (go_at_call_of 174 x; exact quiet_add (IA.out _)) | (go_at_call 174; exact quiet_add (IB.out _)))
            go_wp2_with fail
            go_ret
            exact ⟨ret_bool HD.out.symm, _, World.drewN_drewN _ _ _⟩
        · have e1 : (N != M) = true := by simp [hNM]
          have HD : Hid (decide (Tr.nd a b = Tr.nd c d) = false) := Lib.hid (by
            rw [decide_eq_false_iff_not]
            intro h
            injection h with h1 h2
            exact hNM (by rw [← hN, ← hM, h1, h2]))
          clear hNM hN hM iha ihb
          go_enter Try.func174, Try.ntmps174
          go_wp2_with fail
          go_quiet (fail)
          go_wp2_with fail
          go_ret
          exact ⟨ret_bool HD.out.symm, _, rfl⟩
end Go.Proofs.Ytfheepjfpgiaoaa

/-
  Contract of impl's exprValue.
-/
namespace Go.Proofs.Ytfheepjfpgiaoaa
open Go.RowKit

/-- What exprValue does: the value and the index behind the expression, or a panic. -/
def EvP (w : World) (l : Int) (r : Option Tr) (e : Ending) (w' : World) : Prop :=
  match r with
  | some x => (∃ p, e = .returned (.tuple #[.pointer p, .int .i64 l]) ∧ TrAt w' x p) ∧ Below w.heap.size w w'
  | none => e = .panicked [{ v := .iface 226 (.agg #[]), recovered := false }] ∧ Below w.heap.size w w'
/-- A store: six pointers to trees. -/
def StAt (w : World) (A : Option Addr) (s : List Tr) : Prop := ∃ ps : List (Option Addr), ps.length = 6 ∧ s.length = 6 ∧ Rd w 1 A 6 (ps.map Value.pointer) ∧ ∀ (k : Nat) (t : Tr), s[k]? = some t → ∃ p, ps[k]? = some p ∧ TrAt w t p
theorem StAt.pick {w : World} {A : Option Addr} {s : List Tr} (h : StAt w A s) {k : Nat} (hk : k < 6) : ∃ p b off, TrAt w (s.getD k .nil) p ∧ A = some ⟨b, off, none⟩ ∧ w.cell? ⟨b, off + k, none⟩ = some (.pointer p) := by
  obtain ⟨ps, hp, hs, hr, hT⟩ := h
  obtain ⟨p, h1, h2⟩ := hT k (s[k]'(by omega)) (List.getElem?_eq_getElem (by omega))
  obtain ⟨b, off, e, _, hc⟩ := hr.at_ (k := k) (by rw [List.length_map]; omega)
  obtain ⟨h3, h4⟩ := List.getElem?_eq_some_iff.1 h1
  refine ⟨p, b, off, ?_, e, ?_⟩
  · rw [List.getD_eq_getElem?_getD, List.getElem?_eq_getElem (by omega : k < s.length)]
    exact h2
  · rw [hc, List.getElem_map, h4]
theorem StAt.below {w w' : World} {A : Option Addr} {s : List Tr} (h : StAt w A s) (z : Below w.heap.size w w') : StAt w' A s := by
  obtain ⟨ps, hp, hs, hr, hT⟩ := h
  exact ⟨ps, hp, hs, hr.below z, fun k t hk => by obtain ⟨p, h1, h2⟩ := hT k t hk; exact ⟨p, h1, h2.below z⟩⟩
theorem ex_at {l : List R2} {k : Nat} {x : R2} {r : List R2} (h : l.drop k = x :: r) : l[k]? = some x ∧ l.drop (k + 1) = r := by
  have h1 := congrArg (·[0]?) h
  refine ⟨by simpa using h1, ?_⟩
  rw [← List.drop_drop, h]; rfl
theorem ex_behind {l : List R2} {k : Nat} {e : Ex} {r : List R2} (h : l.drop k = e.enc ++ r) : l.drop (k + e.len) = r := by
  rw [← List.drop_drop, h, ← ex_len, List.drop_left]
theorem ex_room {l : List R2} {k : Nat} {e : Ex} {r : List R2} (h : l.drop k = e.enc ++ r) : k + e.len ≤ l.length := by
  have h1 := congrArg List.length h
  have h2 := ex_pos e
  rw [List.length_drop, List.length_append, ex_len] at h1
  omega
set_option maxRecDepth 100000 in
set_option maxHeartbeats 4000000 in
theorem exprValue_any (A : Option Addr) (n c : Nat) (rs : List R2) (S : Option Addr) (sc : Nat) (s : List Tr) (hn : n ≤ 1000) (hs : ∀ t ∈ s, t.nodes ≤ 2000) : ∀ (e : Ex) (k : Nat) (rest : List R2) (w : World), rs.drop k = e.enc ++ rest → e.ok → S2 w A n rs → StAt w S s →
    Calls Try.prog 91 #[.slice A n c, .int .i64 (k : Int), .slice S 6 sc] w (EvP w ((k + e.len : Nat) : Int) (e.ev s)) := by
  intro e
  induction e with
  | nil =>
    intro k rest w hd hok hx hS
    have hroom := ex_room hd
    have hkn : k < n := by have := hx.len; have := ex_pos (Ex.nil); omega
    obtain ⟨hk, _⟩ := ex_at (x := (⟨0, 0⟩ : R2)) (r := rest) hd
    obtain ⟨r, g, off, HT, _, rfl, _, c0, c1⟩ := hx.pick hkn
    obtain rfl : r = (⟨0, 0⟩ : R2) := by have := HT.out; rw [hk] at this; cases this; rfl
    dsimp only at c0 c1
    have hgb : g < w.heap.size := World.block_lt_of_cell? w _ c0
    have HF := Lib.hid (exprFollow_any (⟨0, 0⟩ : R2) w)
    have HFZ : Hid ((fE (⟨0, 0⟩ : R2) : Nat) = 0) := Lib.hid rfl
    have i1 : (0 : Int) ≤ (k : Int) := by omega
    have i2 : (k : Int) < (n : Int) := by omega
    have w1 : IntKind.i64.wrap ((k : Int) + 1) = ((k + 1 : Nat) : Int) := by rw [IntWalk.i64_in _ (by omega)]; omega
    rw [HFZ.out] at HF
    obtain ⟨k2, hk2⟩ : ∃ k2, k + 1 = k2 := ⟨_, rfl⟩
    rw [hk2] at w1
    obtain ⟨L, hL⟩ : ∃ L, k + (Ex.nil).len = L := ⟨_, rfl⟩
    rw [hL]
    have hKL : k2 = L := by rw [← hL, ← hk2, Ex.len]
    have HKL := Lib.hid hKL
    have HS := Lib.hid hS
    have HX := Lib.hid hx
    clear hk hd hx hS HT hk2 hroom hL hKL hok HFZ hkn
    go_enter Try.func91, Try.ntmps91
    go_upto_region 3 with fail
    go_wp2_with fail
    refine HF.out.mono ?_
    rintro e W2 ⟨rfl, z2⟩
    have c0_ : W2.cell? ⟨g, off + k * 2, none⟩ = some (.int .i64 0) := (z2.cell (p := ⟨g, off + k * 2, none⟩) hgb).trans c0
    have HZ := Lib.hid z2
    clear z2 c0 c1 HF
    obtain rfl := HKL.out
    go_wp2_with fail
    exact bodyPost_ret (v := .tuple #[.pointer none, .int .i64 (k2 : Int)]) (by simp [results, Try.results91, go_sem]) rfl ⟨⟨_, rfl, rfl⟩, HZ.out⟩
  | var v =>
    intro k rest w hd hok hx hS
    have hroom := ex_room hd
    have hkn : k < n := by have := hx.len; have := ex_pos (.var v); omega
    obtain ⟨hk, _⟩ := ex_at (x := (⟨1, (v : Int)⟩ : R2)) (r := rest) hd
    obtain ⟨r, g, off, HT, _, rfl, _, c0, c1⟩ := hx.pick hkn
    obtain rfl : r = (⟨1, (v : Int)⟩ : R2) := by have := HT.out; rw [hk] at this; cases this; rfl
    dsimp only at c0 c1
    have hgb : g < w.heap.size := World.block_lt_of_cell? w _ c0
    have HF := Lib.hid (exprFollow_any (⟨1, (v : Int)⟩ : R2) w)
    have HFZ : Hid ((fE (⟨1, (v : Int)⟩ : R2) : Nat) = 0) := Lib.hid rfl
    have i1 : (0 : Int) ≤ (k : Int) := by omega
    have i2 : (k : Int) < (n : Int) := by omega
    have w1 : IntKind.i64.wrap ((k : Int) + 1) = ((k + 1 : Nat) : Int) := by rw [IntWalk.i64_in _ (by omega)]; omega
    rw [HFZ.out] at HF
    obtain ⟨k2, hk2⟩ : ∃ k2, k + 1 = k2 := ⟨_, rfl⟩
    rw [hk2] at w1
    obtain ⟨L, hL⟩ : ∃ L, k + (Ex.var v).len = L := ⟨_, rfl⟩
    rw [hL]
    have hKL : k2 = L := by rw [← hL, ← hk2, Ex.len]
    have HKL := Lib.hid hKL
    have HS := Lib.hid hS
    have HX := Lib.hid hx
    have hv : v < 6 := hok
    obtain ⟨p, sb, so, hp, rfl, sv⟩ := hS.pick hv
    have HP := Lib.hid hp
    have hsb : sb < w.heap.size := World.block_lt_of_cell? w _ sv
    have j1 : (0 : Int) ≤ (v : Int) := by omega
    have j2 : (v : Int) < 6 := by omega
    clear hp hv
    clear hk hd hx hS HT hk2 hroom hL hKL hok HFZ hkn
    go_enter Try.func91, Try.ntmps91
    go_upto_region 3 with fail
    go_wp2_with fail
    refine HF.out.mono ?_
    rintro e W2 ⟨rfl, z2⟩
    have c0_ : W2.cell? ⟨g, off + k * 2, none⟩ = some (.int .i64 1) := (z2.cell (p := ⟨g, off + k * 2, none⟩) hgb).trans c0
    have c1_ : W2.cell? ⟨g, off + k * 2 + 1, none⟩ = some (.int .i64 (v : Int)) := (z2.cell (p := ⟨g, off + k * 2 + 1, none⟩) hgb).trans c1
    have sv_ : W2.cell? ⟨sb, so + v, none⟩ = some (.pointer p) := (z2.cell (p := ⟨sb, so + v, none⟩) hsb).trans sv
    have HP2 := Lib.hid (HP.out.below z2)
    have HZ := Lib.hid z2
    clear z2 c0 c1 HF sv
    obtain rfl := HKL.out
    go_wp2_with fail
    exact bodyPost_ret (v := .tuple #[.pointer p, .int .i64 (k2 : Int)]) (by simp [results, Try.results91, go_sem]) rfl ⟨⟨_, rfl, HP2.out⟩, HZ.out⟩
  | cons a b iha ihb =>
    intro k rest w hd hok hx hS
    have hroom := ex_room hd
    have hkn : k < n := by have := hx.len; have := ex_pos (.cons a b); omega
    rw [Ex.enc, List.cons_append, List.append_assoc] at hd
    obtain ⟨hk, hd1⟩ := ex_at (x := (⟨2, 0⟩ : R2)) hd
    have hd2 := ex_behind hd1
    obtain ⟨r, g, off, HT, _, rfl, _, c0, c1⟩ := hx.pick hkn
    obtain rfl : r = (⟨2, 0⟩ : R2) := by have := HT.out; rw [hk] at this; cases this; rfl
    dsimp only at c0 c1
    have hgb : g < w.heap.size := World.block_lt_of_cell? w _ c0
    have HF := Lib.hid (exprFollow_any (⟨2, 0⟩ : R2) w)
    have HFZ : Hid ((fE (⟨2, 0⟩ : R2) : Nat) = 2) := Lib.hid rfl
    have i1 : (0 : Int) ≤ (k : Int) := by omega
    have i2 : (k : Int) < (n : Int) := by omega
    have w1 : IntKind.i64.wrap ((k : Int) + 1) = ((k + 1 : Nat) : Int) := by rw [IntWalk.i64_in _ (by omega)]; omega
    rw [HFZ.out] at HF
    obtain ⟨k2, hk2⟩ : ∃ k2, k + 1 = k2 := ⟨_, rfl⟩
    rw [hk2] at w1 hd1 hd2
    obtain ⟨L, hL⟩ : ∃ L, k + (Ex.cons a b).len = L := ⟨_, rfl⟩
    rw [hL]
    have hKL : k2 + a.len + b.len = L := by rw [← hL, ← hk2, Ex.len]; omega
    have HKL := Lib.hid hKL
    have HS := Lib.hid hS
    have HX := Lib.hid hx
    have HIA := Lib.hid iha
    have HIB := Lib.hid ihb
    have HOK := Lib.hid (show a.ok from hok.1)
    have HOK2 := Lib.hid (show b.ok from hok.2)
    have HD1 := Lib.hid hd1
    have HD2 := Lib.hid hd2
    clear hd1 hd2 iha ihb
    clear hk hd hx hS HT hk2 hroom hL hKL hok HFZ hkn
    go_enter Try.func91, Try.ntmps91
    go_upto_region 3 with fail
    go_wp2_with fail
    refine HF.out.mono ?_
    rintro e W2 ⟨rfl, z2⟩
    have c0_ : W2.cell? ⟨g, off + k * 2, none⟩ = some (.int .i64 2) := (z2.cell (p := ⟨g, off + k * 2, none⟩) hgb).trans c0
    have HZ := Lib.hid z2
    clear z2 c0 c1 HF
    obtain ⟨k3, hk3⟩ : ∃ k3, k2 + a.len = k3 := ⟨_, rfl⟩
    have HD2b := HD2.out
    have HKLb := HKL.out
    rw [hk3] at HD2b HKLb
    have HD3 := Lib.hid HD2b
    have HKL2 := Lib.hid HKLb
    clear HD2b HKLb HD2
    have HO := Lib.hid (HIA.out k2 _ W2 HD1.out HOK.out (HX.out.below HZ.out) (HS.out.below HZ.out))
    rw [hk3] at HO
    cases hra : a.ev s with
    | none =>
      have HEV : Hid ((Ex.cons a b).ev s = none) := Lib.hid (by simp only [Ex.ev, hra]; try rfl)
      rw [hra] at HO
      clear hra hk3
      go_wp2_with fail
      refine HO.out.mono ?_
      rintro e W3 ⟨rfl, z3⟩
      have HR : EvP w (L : Int) ((Ex.cons a b).ev s) (.panicked [{ v := .iface 226 (.agg #[]), recovered := false }]) W3 := by
        rw [HEV.out]
        exact ⟨rfl, HZ.out.trans (z3.mono HZ.out.size)⟩
      exact ⟨rfl, HR⟩
    | some x =>
      have HRA := Lib.hid hra
      rw [hra] at HO
      clear hra
      go_wp2_with fail
      refine HO.out.mono ?_
      rintro e W3 ⟨⟨p, rfl, hp⟩, z3⟩
      have z3w := HZ.out.trans (z3.mono HZ.out.size)
      have HZ3 := Lib.hid z3w
      have c0_3 : W3.cell? ⟨g, off + k * 2, none⟩ = some (.int .i64 2) := (z3.cell (p := ⟨g, off + k * 2, none⟩) (by have := HZ.out.size; simp; omega)).trans c0_
      have hxn : x.nodes ≤ 2000 := ev_nodes hs a x HRA.out
      clear c0_ z3 HO
      have HP := Lib.hid hp
      clear hp z3w
      obtain ⟨k4, hk4⟩ : ∃ k4, k3 + b.len = k4 := ⟨_, rfl⟩
      have HO := Lib.hid (HIB.out k3 _ W3 HD3.out HOK2.out (HX.out.below HZ3.out) (HS.out.below HZ3.out))
      rw [hk4] at HO
      cases hrb : b.ev s with
      | none =>
        have HEV : Hid ((Ex.cons a b).ev s = none) := Lib.hid (by simp only [Ex.ev, HRA.out, hrb])
        rw [hrb] at HO
        clear hrb hk4 hk3
        go_wp2_with fail
        refine HO.out.mono ?_
        rintro e W4 ⟨rfl, z4⟩
        have HR : EvP w (L : Int) ((Ex.cons a b).ev s) (.panicked [{ v := .iface 226 (.agg #[]), recovered := false }]) W4 := by
          rw [HEV.out]
          exact ⟨rfl, HZ3.out.trans (z4.mono HZ3.out.size)⟩
        exact ⟨rfl, HR⟩
      | some y =>
        have HRB := Lib.hid hrb
        rw [hrb] at HO
        clear hrb
        go_wp2_with fail
        refine HO.out.mono ?_
        rintro e W4 ⟨⟨q, rfl, hq⟩, z4⟩
        have HZ4 := Lib.hid (HZ3.out.trans (z4.mono HZ3.out.size))
        have c0_4 : W4.cell? ⟨g, off + k * 2, none⟩ = some (.int .i64 2) := (z4.cell (p := ⟨g, off + k * 2, none⟩) (by have := HZ3.out.size; simp; omega)).trans c0_3
        have hyn : y.nodes ≤ 2000 := ev_nodes hs b y HRB.out
        have hp4 := HP.out.below z4
        obtain rfl : k4 = L := by have := HKL2.out; omega
        have HPR := Lib.hid (pair_any x y p q W4 hp4 hq (by omega))
        have HNEW := Lib.hid (TrAt.new hp4 hq)
        have HY6 := Lib.hid (fun o => HZ4.out.alloc (w := W4) HZ4.out.size o)
        unfold PairP at HPR
        obtain ⟨N, hN⟩ : ∃ N : Nat, 1 + x.nodes + y.nodes = N := ⟨_, rfl⟩
        have HN := Lib.hid hN
        rw [hN] at HPR HNEW
        clear c0_3 z4 HO hk3 hk4 hp4 hq
        go_wp2_with fail
        refine HPR.out.mono ?_
        rintro e w' ⟨rfl, rfl⟩
        obtain ⟨W5, hW5⟩ : ∃ W5, W5 = W4.alloc (.cells #[.pointer p, .pointer q, .int .i64 (N : Int)] 224) := ⟨_, rfl⟩
        rw [← hW5]
        have n2 : W5.cell? ⟨W4.heap.size, 2, none⟩ = some (.int .i64 (N : Int)) := by rw [hW5]; exact (Blk.new W4 _ _).cell 2
        have HT5 : Hid (TrAt W5 (.nd x y) (some ⟨W4.heap.size, 0, none⟩)) := Lib.hid (by rw [hW5]; exact HNEW.out)
        have HZ5 : Hid (Below w.heap.size w W5) := Lib.hid (by rw [hW5]; exact HY6.out _)
        clear hW5 HPR HNEW c0_4
        by_cases hle : N ≤ 2000
        · have HEV : Hid ((Ex.cons a b).ev s = some (.nd x y)) := Lib.hid (by simp only [Ex.ev, HRA.out, HRB.out]; rw [if_pos (by rw [hN]; exact hle)])
          have i3 : ¬ (N : Int) > 2000 := by omega
          clear hN hle
          go_wp2_with fail
          rw [HEV.out]
          exact bodyPost_ret (v := .tuple #[.pointer (some ⟨W4.heap.size, 0, none⟩), .int .i64 (k4 : Int)]) (by simp [results, Try.results91, go_sem]) rfl ⟨⟨_, rfl, HT5.out⟩, HZ5.out⟩
        · have HEV : Hid ((Ex.cons a b).ev s = none) := Lib.hid (by simp only [Ex.ev, HRA.out, HRB.out]; rw [if_neg (by rw [hN]; exact hle)])
          have i3 : (N : Int) > 2000 := by omega
          clear hN hle
          have HR : EvP w (k4 : Int) ((Ex.cons a b).ev s) (.panicked [{ v := .iface 226 (.agg #[]), recovered := false }]) W5 := by
            rw [HEV.out]
            exact ⟨rfl, HZ5.out⟩
          go_wp2_with fail
          exact ⟨rfl, HR⟩
  | hd a iha =>
    intro k rest w hd hok hx hS
    have hroom := ex_room hd
    have hkn : k < n := by have := hx.len; have := ex_pos (.hd a); omega
    rw [Ex.enc, List.cons_append] at hd
    obtain ⟨hk, hd1⟩ := ex_at (x := (⟨3, 0⟩ : R2)) hd
    obtain ⟨r, g, off, HT, _, rfl, _, c0, c1⟩ := hx.pick hkn
    obtain rfl : r = (⟨3, 0⟩ : R2) := by have := HT.out; rw [hk] at this; cases this; rfl
    dsimp only at c0 c1
    have hgb : g < w.heap.size := World.block_lt_of_cell? w _ c0
    have HF := Lib.hid (exprFollow_any (⟨3, 0⟩ : R2) w)
    have HFZ : Hid ((fE (⟨3, 0⟩ : R2) : Nat) = 1) := Lib.hid rfl
    have i1 : (0 : Int) ≤ (k : Int) := by omega
    have i2 : (k : Int) < (n : Int) := by omega
    have w1 : IntKind.i64.wrap ((k : Int) + 1) = ((k + 1 : Nat) : Int) := by rw [IntWalk.i64_in _ (by omega)]; omega
    rw [HFZ.out] at HF
    obtain ⟨k2, hk2⟩ : ∃ k2, k + 1 = k2 := ⟨_, rfl⟩
    rw [hk2] at w1 hd1
    obtain ⟨L, hL⟩ : ∃ L, k + (Ex.hd a).len = L := ⟨_, rfl⟩
    rw [hL]
    have hKL : k2 + a.len = L := by rw [← hL, ← hk2, Ex.len]; omega
    have HKL := Lib.hid hKL
    have HS := Lib.hid hS
    have HX := Lib.hid hx
    have HIA := Lib.hid iha
    have HOK := Lib.hid (show a.ok from hok)
    have HD1 := Lib.hid hd1
    clear hd1 iha
    clear hk hd hx hS HT hk2 hroom hL hKL hok HFZ hkn
    go_enter Try.func91, Try.ntmps91
    go_upto_region 3 with fail
    go_wp2_with fail
    refine HF.out.mono ?_
    rintro e W2 ⟨rfl, z2⟩
    have c0_ : W2.cell? ⟨g, off + k * 2, none⟩ = some (.int .i64 3) := (z2.cell (p := ⟨g, off + k * 2, none⟩) hgb).trans c0
    have HZ := Lib.hid z2
    clear z2 c0 c1 HF
    obtain ⟨k3, hk3⟩ : ∃ k3, k2 + a.len = k3 := ⟨_, rfl⟩
    have HO := Lib.hid (HIA.out k2 _ W2 HD1.out HOK.out (HX.out.below HZ.out) (HS.out.below HZ.out))
    rw [hk3] at HO
    cases hra : a.ev s with
    | none =>
      have HEV : Hid ((Ex.hd a).ev s = none) := Lib.hid (by simp only [Ex.ev, hra]; try rfl)
      rw [hra] at HO
      clear hra hk3
      go_wp2_with fail
      refine HO.out.mono ?_
      rintro e W3 ⟨rfl, z3⟩
      have HR : EvP w (L : Int) ((Ex.hd a).ev s) (.panicked [{ v := .iface 226 (.agg #[]), recovered := false }]) W3 := by
        rw [HEV.out]
        exact ⟨rfl, HZ.out.trans (z3.mono HZ.out.size)⟩
      exact ⟨rfl, HR⟩
    | some x =>
      have HRA := Lib.hid hra
      rw [hra] at HO
      clear hra
      go_wp2_with fail
      refine HO.out.mono ?_
      rintro e W3 ⟨⟨p, rfl, hp⟩, z3⟩
      have z3w := HZ.out.trans (z3.mono HZ.out.size)
      have HZ3 := Lib.hid z3w
      have c0_3 : W3.cell? ⟨g, off + k * 2, none⟩ = some (.int .i64 3) := (z3.cell (p := ⟨g, off + k * 2, none⟩) (by have := HZ.out.size; simp; omega)).trans c0_
      have hxn : x.nodes ≤ 2000 := ev_nodes hs a x HRA.out
      clear c0_ z3 HO
      have HEV : Hid ((Ex.hd a).ev s = some x.hd) := Lib.hid (by simp only [Ex.ev, HRA.out]; rfl)
      have HH := Lib.hid (headOf_any x p W3 hp)
      obtain rfl : k3 = L := by have := HKL.out; omega
      clear hp z3w hk3
      go_wp2_with (go_at_call 96; refine HH.out.mono ?_; rintro e w' ⟨⟨q, rfl, hq⟩, rfl⟩; have HQ := Lib.hid hq)
      rw [HEV.out]
      exact bodyPost_ret (v := .tuple #[.pointer q, .int .i64 (k3 : Int)]) (by simp [results, Try.results91, go_sem]) rfl ⟨⟨_, rfl, HQ.out⟩, HZ3.out⟩
  | tl a iha =>
    intro k rest w hd hok hx hS
    have hroom := ex_room hd
    have hkn : k < n := by have := hx.len; have := ex_pos (.tl a); omega
    rw [Ex.enc, List.cons_append] at hd
    obtain ⟨hk, hd1⟩ := ex_at (x := (⟨4, 0⟩ : R2)) hd
    obtain ⟨r, g, off, HT, _, rfl, _, c0, c1⟩ := hx.pick hkn
    obtain rfl : r = (⟨4, 0⟩ : R2) := by have := HT.out; rw [hk] at this; cases this; rfl
    dsimp only at c0 c1
    have hgb : g < w.heap.size := World.block_lt_of_cell? w _ c0
    have HF := Lib.hid (exprFollow_any (⟨4, 0⟩ : R2) w)
    have HFZ : Hid ((fE (⟨4, 0⟩ : R2) : Nat) = 1) := Lib.hid rfl
    have i1 : (0 : Int) ≤ (k : Int) := by omega
    have i2 : (k : Int) < (n : Int) := by omega
    have w1 : IntKind.i64.wrap ((k : Int) + 1) = ((k + 1 : Nat) : Int) := by rw [IntWalk.i64_in _ (by omega)]; omega
    rw [HFZ.out] at HF
    obtain ⟨k2, hk2⟩ : ∃ k2, k + 1 = k2 := ⟨_, rfl⟩
    rw [hk2] at w1 hd1
    obtain ⟨L, hL⟩ : ∃ L, k + (Ex.tl a).len = L := ⟨_, rfl⟩
    rw [hL]
    have hKL : k2 + a.len = L := by rw [← hL, ← hk2, Ex.len]; omega
    have HKL := Lib.hid hKL
    have HS := Lib.hid hS
    have HX := Lib.hid hx
    have HIA := Lib.hid iha
    have HOK := Lib.hid (show a.ok from hok)
    have HD1 := Lib.hid hd1
    clear hd1 iha
    clear hk hd hx hS HT hk2 hroom hL hKL hok HFZ hkn
    go_enter Try.func91, Try.ntmps91
    go_upto_region 3 with fail
    go_wp2_with fail
    refine HF.out.mono ?_
    rintro e W2 ⟨rfl, z2⟩
    have c0_ : W2.cell? ⟨g, off + k * 2, none⟩ = some (.int .i64 4) := (z2.cell (p := ⟨g, off + k * 2, none⟩) hgb).trans c0
    have HZ := Lib.hid z2
    clear z2 c0 c1 HF
    obtain ⟨k3, hk3⟩ : ∃ k3, k2 + a.len = k3 := ⟨_, rfl⟩
    have HO := Lib.hid (HIA.out k2 _ W2 HD1.out HOK.out (HX.out.below HZ.out) (HS.out.below HZ.out))
    rw [hk3] at HO
    cases hra : a.ev s with
    | none =>
      have HEV : Hid ((Ex.tl a).ev s = none) := Lib.hid (by simp only [Ex.ev, hra]; try rfl)
      rw [hra] at HO
      clear hra hk3
      go_wp2_with fail
      refine HO.out.mono ?_
      rintro e W3 ⟨rfl, z3⟩
      have HR : EvP w (L : Int) ((Ex.tl a).ev s) (.panicked [{ v := .iface 226 (.agg #[]), recovered := false }]) W3 := by
        rw [HEV.out]
        exact ⟨rfl, HZ.out.trans (z3.mono HZ.out.size)⟩
      exact ⟨rfl, HR⟩
    | some x =>
      have HRA := Lib.hid hra
      rw [hra] at HO
      clear hra
      go_wp2_with fail
      refine HO.out.mono ?_
      rintro e W3 ⟨⟨p, rfl, hp⟩, z3⟩
      have z3w := HZ.out.trans (z3.mono HZ.out.size)
      have HZ3 := Lib.hid z3w
      have c0_3 : W3.cell? ⟨g, off + k * 2, none⟩ = some (.int .i64 4) := (z3.cell (p := ⟨g, off + k * 2, none⟩) (by have := HZ.out.size; simp; omega)).trans c0_
      have hxn : x.nodes ≤ 2000 := ev_nodes hs a x HRA.out
      clear c0_ z3 HO
      have HEV : Hid ((Ex.tl a).ev s = some x.tl) := Lib.hid (by simp only [Ex.ev, HRA.out]; rfl)
      have HH := Lib.hid (tailOf_any x p W3 hp)
      obtain rfl : k3 = L := by have := HKL.out; omega
      clear hp z3w hk3
      go_wp2_with (go_at_call 97; refine HH.out.mono ?_; rintro e w' ⟨⟨q, rfl, hq⟩, rfl⟩; have HQ := Lib.hid hq)
      rw [HEV.out]
      exact bodyPost_ret (v := .tuple #[.pointer q, .int .i64 (k3 : Int)]) (by simp [results, Try.results91, go_sem]) rfl ⟨⟨_, rfl, HQ.out⟩, HZ3.out⟩
  | same a b iha ihb =>
    intro k rest w hd hok hx hS
    have hroom := ex_room hd
    have hkn : k < n := by have := hx.len; have := ex_pos (.same a b); omega
    rw [Ex.enc, List.cons_append, List.append_assoc] at hd
    obtain ⟨hk, hd1⟩ := ex_at (x := (⟨5, 0⟩ : R2)) hd
    have hd2 := ex_behind hd1
    obtain ⟨r, g, off, HT, _, rfl, _, c0, c1⟩ := hx.pick hkn
    obtain rfl : r = (⟨5, 0⟩ : R2) := by have := HT.out; rw [hk] at this; cases this; rfl
    dsimp only at c0 c1
    have hgb : g < w.heap.size := World.block_lt_of_cell? w _ c0
    have HF := Lib.hid (exprFollow_any (⟨5, 0⟩ : R2) w)
    have HFZ : Hid ((fE (⟨5, 0⟩ : R2) : Nat) = 2) := Lib.hid rfl
    have i1 : (0 : Int) ≤ (k : Int) := by omega
    have i2 : (k : Int) < (n : Int) := by omega
    have w1 : IntKind.i64.wrap ((k : Int) + 1) = ((k + 1 : Nat) : Int) := by rw [IntWalk.i64_in _ (by omega)]; omega
    rw [HFZ.out] at HF
    obtain ⟨k2, hk2⟩ : ∃ k2, k + 1 = k2 := ⟨_, rfl⟩
    rw [hk2] at w1 hd1 hd2
    obtain ⟨L, hL⟩ : ∃ L, k + (Ex.same a b).len = L := ⟨_, rfl⟩
    rw [hL]
    have hKL : k2 + a.len + b.len = L := by rw [← hL, ← hk2, Ex.len]; omega
    have HKL := Lib.hid hKL
    have HS := Lib.hid hS
    have HX := Lib.hid hx
    have HIA := Lib.hid iha
    have HIB := Lib.hid ihb
    have HOK := Lib.hid (show a.ok from hok.1)
    have HOK2 := Lib.hid (show b.ok from hok.2)
    have HD1 := Lib.hid hd1
    have HD2 := Lib.hid hd2
    clear hd1 hd2 iha ihb
    clear hk hd hx hS HT hk2 hroom hL hKL hok HFZ hkn
    go_enter Try.func91, Try.ntmps91
    go_upto_region 3 with fail
    go_wp2_with fail
    refine HF.out.mono ?_
    rintro e W2 ⟨rfl, z2⟩
    have c0_ : W2.cell? ⟨g, off + k * 2, none⟩ = some (.int .i64 5) := (z2.cell (p := ⟨g, off + k * 2, none⟩) hgb).trans c0
    have HZ := Lib.hid z2
    clear z2 c0 c1 HF
    obtain ⟨k3, hk3⟩ : ∃ k3, k2 + a.len = k3 := ⟨_, rfl⟩
    have HD2b := HD2.out
    have HKLb := HKL.out
    rw [hk3] at HD2b HKLb
    have HD3 := Lib.hid HD2b
    have HKL2 := Lib.hid HKLb
    clear HD2b HKLb HD2
    have HO := Lib.hid (HIA.out k2 _ W2 HD1.out HOK.out (HX.out.below HZ.out) (HS.out.below HZ.out))
    rw [hk3] at HO
    cases hra : a.ev s with
    | none =>
      have HEV : Hid ((Ex.same a b).ev s = none) := Lib.hid (by simp only [Ex.ev, hra]; try rfl)
      rw [hra] at HO
      clear hra hk3
      go_wp2_with fail
      refine HO.out.mono ?_
      rintro e W3 ⟨rfl, z3⟩
      have HR : EvP w (L : Int) ((Ex.same a b).ev s) (.panicked [{ v := .iface 226 (.agg #[]), recovered := false }]) W3 := by
        rw [HEV.out]
        exact ⟨rfl, HZ.out.trans (z3.mono HZ.out.size)⟩
      exact ⟨rfl, HR⟩
    | some x =>
      have HRA := Lib.hid hra
      rw [hra] at HO
      clear hra
      go_wp2_with fail
      refine HO.out.mono ?_
      rintro e W3 ⟨⟨p, rfl, hp⟩, z3⟩
      have z3w := HZ.out.trans (z3.mono HZ.out.size)
      have HZ3 := Lib.hid z3w
      have c0_3 : W3.cell? ⟨g, off + k * 2, none⟩ = some (.int .i64 5) := (z3.cell (p := ⟨g, off + k * 2, none⟩) (by have := HZ.out.size; simp; omega)).trans c0_
      have hxn : x.nodes ≤ 2000 := ev_nodes hs a x HRA.out
      clear c0_ z3 HO
      have HP := Lib.hid hp
      clear hp z3w
      obtain ⟨k4, hk4⟩ : ∃ k4, k3 + b.len = k4 := ⟨_, rfl⟩
      have HO := Lib.hid (HIB.out k3 _ W3 HD3.out HOK2.out (HX.out.below HZ3.out) (HS.out.below HZ3.out))
      rw [hk4] at HO
      cases hrb : b.ev s with
      | none =>
        have HEV : Hid ((Ex.same a b).ev s = none) := Lib.hid (by simp only [Ex.ev, HRA.out, hrb])
        rw [hrb] at HO
        clear hrb hk4 hk3
        go_wp2_with fail
        refine HO.out.mono ?_
        rintro e W4 ⟨rfl, z4⟩
        have HR : EvP w (L : Int) ((Ex.same a b).ev s) (.panicked [{ v := .iface 226 (.agg #[]), recovered := false }]) W4 := by
          rw [HEV.out]
          exact ⟨rfl, HZ3.out.trans (z4.mono HZ3.out.size)⟩
        exact ⟨rfl, HR⟩
      | some y =>
        have HRB := Lib.hid hrb
        rw [hrb] at HO
        clear hrb
        go_wp2_with fail
        refine HO.out.mono ?_
        rintro e W4 ⟨⟨q, rfl, hq⟩, z4⟩
        have HZ4 := Lib.hid (HZ3.out.trans (z4.mono HZ3.out.size))
        have c0_4 : W4.cell? ⟨g, off + k * 2, none⟩ = some (.int .i64 5) := (z4.cell (p := ⟨g, off + k * 2, none⟩) (by have := HZ3.out.size; simp; omega)).trans c0_3
        have hyn : y.nodes ≤ 2000 := ev_nodes hs b y HRB.out
        have hp4 := HP.out.below z4
        obtain rfl : k4 = L := by have := HKL2.out; omega
        have HEQ := Lib.hid (equal_any x y p q W4 hp4 hq)
        unfold EqP at HEQ
        clear c0_3 z4 HO hk3 hk4
        by_cases hxy : x = y
        · have HEV : Hid ((Ex.same a b).ev s = some (.nd .nil .nil)) := Lib.hid (by simp only [Ex.ev, HRA.out, HRB.out]; rw [if_pos hxy])
          rw [decide_eq_true hxy] at HEQ
          clear hxy hp4 hq
          go_wp2_with fail
          refine HEQ.out.mono ?_
          rintro e W5 ⟨rfl, m, rfl⟩
          obtain ⟨W5, hW5⟩ : ∃ W5, W5 = W4.drewN m := ⟨_, rfl⟩
          rw [← hW5]
          have z5 : Below W4.heap.size W4 W5 := by rw [hW5]; exact below_drewN (Below.refl _ _) m
          have HZ5 := Lib.hid (HZ4.out.trans (z5.mono HZ4.out.size))
          have HPR := Lib.hid (pair_any .nil .nil none none W5 rfl rfl (by decide))
          have HNEW := Lib.hid (TrAt.new (w := W5) (h := .nil) (t := .nil) (a := none) (b := none) rfl rfl)
          have HY6 := Lib.hid (fun o => HZ5.out.alloc (w := W5) HZ5.out.size o)
          clear hW5 z5
          go_wp2_with (go_at_call 175; refine HPR.out.mono ?_; rintro e w' ⟨rfl, rfl⟩)
          rw [HEV.out]
          exact bodyPost_ret (v := .tuple #[.pointer (some ⟨W5.heap.size, 0, none⟩), .int .i64 (k4 : Int)]) (by simp [results, Try.results91, go_sem]) rfl ⟨⟨_, rfl, HNEW.out⟩, HY6.out _⟩
        · have HEV : Hid ((Ex.same a b).ev s = some .nil) := Lib.hid (by simp only [Ex.ev, HRA.out, HRB.out]; rw [if_neg hxy])
          rw [decide_eq_false hxy] at HEQ
          clear hxy hp4 hq
          go_wp2_with fail
          refine HEQ.out.mono ?_
          rintro e W5 ⟨rfl, m, rfl⟩
          obtain ⟨W5, hW5⟩ : ∃ W5, W5 = W4.drewN m := ⟨_, rfl⟩
          rw [← hW5]
          have z5 : Below W4.heap.size W4 W5 := by rw [hW5]; exact below_drewN (Below.refl _ _) m
          have HZ5 := Lib.hid (HZ4.out.trans (z5.mono HZ4.out.size))
          have c0_5 : W5.cell? ⟨g, off + k * 2, none⟩ = some (.int .i64 5) := by rw [hW5]; exact c0_4
          clear hW5 z5 c0_4
          go_wp2_with fail
          rw [HEV.out]
          exact bodyPost_ret (v := .tuple #[.pointer none, .int .i64 (k4 : Int)]) (by simp [results, Try.results91, go_sem]) rfl ⟨⟨_, rfl, rfl⟩, HZ5.out⟩
end Go.Proofs.Ytfheepjfpgiaoaa

/-
  The program's whileMachine: what lies in memory; contract of ended.
-/
namespace Go.Proofs.Ytfheepjfpgiaoaa
open Go.RowKit

/-- Blocks of other types than those that a step may write are as they were. -/
def KX (w w' : World) : Prop := ∀ b t cs, Blk w b t cs → t ≠ 3 → t ≠ 124 → t ≠ 199 → Blk w' b t cs
theorem KX.refl (w : World) : KX w w := fun _ _ _ h _ _ _ => h
theorem KX.trans {a b c : World} (h : KX a b) (k : KX b c) : KX a c := fun x t cs hb h1 h2 h3 => k x t cs (h x t cs hb h1 h2 h3) h1 h2 h3
theorem KX.below {w w' : World} (z : Below w.heap.size w w') : KX w w' := fun _ _ _ h _ _ _ => h.below' z
theorem KX.drewN (w : World) (n : Nat) : KX w (w.drewN n) := fun _ _ _ h _ _ _ => h.drewN n
theorem KX.setCell {w : World} {g i : Nat} {t : TypeId} {cur : Array Value} (h : Blk w g t cur) (ht : t = 3 ∨ t = 124 ∨ t = 199) (u : Value) : KX w (w.setCell ⟨g, i, none⟩ u) := fun g2 t2 cs x h1 h2 h3 => x.far (p := ⟨g, i, none⟩) (fun e => by
  have e : g2 = g := e
  subst e
  have h4 := Eq.trans (Eq.symm h) x
  simp at h4
  rcases ht with e | e | e
  · exact h1 (h4.2 ▸ e)
  · exact h2 (h4.2 ▸ e)
  · exact h3 (h4.2 ▸ e)) u
theorem KX.kt {w w' : World} (h : KX w w') : KT w w' := fun g cs x => h g _ cs x (by decide) (by decide) (by decide)
theorem KX.own {w : World} {lo n c s b off k : Nat} {e : TypeId} {cs : List Value} (h : Own w lo e s (some ⟨b, off, none⟩) n c cs) (he : e = 3 ∨ e = 124) (u : Value) : KX w (w.setCell ⟨b, off + k, none⟩ u) := fun g t cs' x h1 h2 h3 => x.far (p := ⟨b, off + k, none⟩) (fun e2 => by
  have e2 : g = b := e2
  subst e2
  have hne : t ≠ e := by
    rcases he with e1 | e1
    · rw [e1]; exact h1
    · rw [e1]; exact h2
  exact x.apt h hne rfl) u
theorem KX.grown {w w2 : World} {lo n c s : Nat} {e : TypeId} {A : Option Addr} {cs : List Value} (h : Own w lo e s A n c cs) (hg : w.grownBy w2 (blk A)) (he : e = 3) : KX w w2 := fun _ t _ x h1 _ _ => x.grown h hg (by rw [he]; exact h1)
theorem elIn : Elem Try.prog 193 3 1 8 (.int .i64 0) := ⟨Try.underlying193, by kernel_rfl, rfl, by decide⟩
theorem elTp : Elem Try.prog 102 124 1 8 (.pointer none) := ⟨Try.underlying102, by kernel_rfl, rfl, by decide⟩
/-- A machine in memory: the program behind PA, the store, the index, the open loops (the innermost first). -/
structure WmI (w0 w : World) (g : Nat) (PA : Option Addr) (n pc : Nat) (ts : List Ce) (SA : Option Addr) (sc : Nat) (s : List Tr) (i : Nat) (LA : Option Addr) (lc : Nat) (L : List Nat) : Prop where
  base : Below w0.heap.size w0 w
  prog : SC w0 PA n ts
  glo : w0.heap.size ≤ g
  box : Blk w g 199 #[.slice PA n pc, .slice SA 6 sc, .int .i64 (i : Int), .slice LA L.length lc]
  store : ∃ ps : List (Option Addr), ps.length = 6 ∧ s.length = 6 ∧ Own w w0.heap.size 124 1 SA 6 sc (ps.map Value.pointer) ∧ ∀ (k : Nat) (t : Tr), s[k]? = some t → ∃ p, ps[k]? = some p ∧ TrAt w t p
  loops : Own w w0.heap.size 3 1 LA L.length lc (ints (L.reverse.map fun j : Nat => (j : Int)))
section
variable {w0 w w' : World} {g : Nat} {PA : Option Addr} {n pc : Nat} {ts : List Ce} {SA : Option Addr} {sc : Nat} {s : List Tr} {i : Nat} {LA : Option Addr} {lc : Nat} {L : List Nat}
theorem WmI.low (h : WmI w0 w g PA n pc ts SA sc s i LA lc L) : w0.heap.size ≤ w.heap.size := h.base.size
theorem WmI.st (h : WmI w0 w g PA n pc ts SA sc s i LA lc L) : StAt w SA s := by
  obtain ⟨ps, h1, h2, h3, h4⟩ := h.store
  exact ⟨ps, h1, h2, h3.rd, h4⟩
theorem WmI.prg (h : WmI w0 w g PA n pc ts SA sc s i LA lc L) : SC w PA n ts := h.prog.below h.base
theorem WmI.below (h : WmI w0 w g PA n pc ts SA sc s i LA lc L) (z : Below w.heap.size w w') : WmI w0 w' g PA n pc ts SA sc s i LA lc L := by
  obtain ⟨ps, h1, h2, h3, h4⟩ := h.store
  exact ⟨h.base.trans (z.mono h.low), h.prog, h.glo, h.box.below' z, ⟨ps, h1, h2, h3.below z, fun k t hk => by obtain ⟨p, e, ht⟩ := h4 k t hk; exact ⟨p, e, ht.below z⟩⟩, h.loops.below z⟩
theorem WmI.drewN (h : WmI w0 w g PA n pc ts SA sc s i LA lc L) (k : Nat) : WmI w0 (w.drewN k) g PA n pc ts SA sc s i LA lc L := h.below (below_drewN (Below.refl _ _) k)
/-- The index is written. -/
theorem WmI.setAt (h : WmI w0 w g PA n pc ts SA sc s i LA lc L) (j : Nat) : WmI w0 (w.setCell ⟨g, 2, none⟩ (.int .i64 (j : Int))) g PA n pc ts SA sc s j LA lc L ∧ KX w (w.setCell ⟨g, 2, none⟩ (.int .i64 (j : Int))) := by
  obtain ⟨ps, h1, h2, h3, h4⟩ := h.store
  have k := KX.setCell (i := 2) h.box (.inr (.inr rfl)) (.int .i64 (j : Int))
  exact ⟨⟨h.base.setCell (p := ⟨g, 2, none⟩) h.glo _, h.prog, h.glo, h.box.set_ 2 _, ⟨ps, h1, h2, h3.far (p := ⟨g, 2, none⟩) (h.box.apt h3 (by decide)) _, fun k' t hk => by obtain ⟨p, e, ht⟩ := h4 k' t hk; exact ⟨p, e, ht.kt k.kt⟩⟩, h.loops.far (p := ⟨g, 2, none⟩) (h.box.apt h.loops (by decide)) _⟩, k⟩
/-- The open loops' slice is written. -/
theorem WmI.setLoops (h : WmI w0 w g PA n pc ts SA sc s i LA lc L) {LA' : Option Addr} {lc' : Nat} {L' : List Nat} (ho : Own w w0.heap.size 3 1 LA' L'.length lc' (ints (L'.reverse.map fun j : Nat => (j : Int)))) :
    WmI w0 (w.setCell ⟨g, 3, none⟩ (.slice LA' L'.length lc')) g PA n pc ts SA sc s i LA' lc' L' ∧ KX w (w.setCell ⟨g, 3, none⟩ (.slice LA' L'.length lc')) := by
  obtain ⟨ps, h1, h2, h3, h4⟩ := h.store
  have k := KX.setCell (i := 3) h.box (.inr (.inr rfl)) (.slice LA' L'.length lc')
  exact ⟨⟨h.base.setCell (p := ⟨g, 3, none⟩) h.glo _, h.prog, h.glo, h.box.set_ 3 _, ⟨ps, h1, h2, h3.far (p := ⟨g, 3, none⟩) (h.box.apt h3 (by decide)) _, fun k' t hk => by obtain ⟨p, e, ht⟩ := h4 k' t hk; exact ⟨p, e, ht.kt k.kt⟩⟩, ho.far (p := ⟨g, 3, none⟩) (h.box.apt ho (by decide)) _⟩, k⟩
/-- A variable is written. -/
theorem WmI.setVar {b off v : Nat} (h : WmI w0 w g PA n pc ts (some ⟨b, off, none⟩) sc s i LA lc L) (hv : v < 6) {x : Tr} {p : Option Addr} (hp : TrAt w x p) :
    WmI w0 (w.setCell ⟨b, off + v, none⟩ (.pointer p)) g PA n pc ts (some ⟨b, off, none⟩) sc (s.set v x) i LA lc L ∧ KX w (w.setCell ⟨b, off + v, none⟩ (.pointer p)) := by
  obtain ⟨ps, h1, h2, h3, h4⟩ := h.store
  have k := KX.own (k := v) h3 (.inr rfl) (.pointer p)
  have hb := h3.blk_ge b rfl
  have hgb : g ≠ b := fun e => h.box.apt h3 (by decide) (by rw [e]; rfl)
  have hlb : blk LA ≠ some b := fun e => Own.blk_ne h.loops h3 (by decide) b e rfl
  have o3 := h3.set_ (k := v) (by rw [List.length_map]; omega) (.pointer p)
  rw [← List.map_set] at o3
  refine ⟨⟨h.base.setCell (p := ⟨b, off + v, none⟩) hb _, h.prog, h.glo, h.box.far (p := ⟨b, off + v, none⟩) hgb _, ⟨ps.set v p, by rw [List.length_set]; exact h1, by rw [List.length_set]; exact h2, o3, fun k' t hk => ?_⟩, h.loops.far (p := ⟨b, off + v, none⟩) hlb _⟩, k⟩
  by_cases e : k' = v
  · subst e
    rw [List.getElem?_set_self (by omega)] at hk
    cases hk
    exact ⟨p, List.getElem?_set_self (by omega), hp.kt k.kt⟩
  · rw [List.getElem?_set_ne (by omega)] at hk
    obtain ⟨q, e2, ht⟩ := h4 k' t hk
    exact ⟨q, by rw [List.getElem?_set_ne (by omega)]; exact e2, ht.kt k.kt⟩
end
/-- What stands in memory behind ended or a step. -/
def WmQ (w0 w : World) (g : Nat) (PA : Option Addr) (n pc : Nat) (ts : List Ce) (SA : Option Addr) (sc : Nat) (s : List Tr) (p : Pg) (S : List Pg) (w' : World) : Prop :=
  ∃ i LA lc L, WmI w0 w' g PA n pc ts SA sc s i LA lc L ∧ Rel (cmds ts) L S i p ∧ KX w w'
theorem Rel.stk {l : List Cmd} {L : List Nat} {S : List Pg} {i : Nat} {p : Pg} (h : Rel l L S i p) : L.length = S.length := by
  induction h with
  | base => rfl
  | loop _ _ _ _ _ ih => simp [ih]
set_option maxRecDepth 100000 in
set_option maxHeartbeats 4000000 in
theorem ended_any (w0 : World) (g : Nat) (PA : Option Addr) (n pc : Nat) (ts : List Ce) (SA : Option Addr) (sc : Nat) (s : List Tr) (i : Nat) (LA : Option Addr) (lc : Nat) (L : List Nat) (p : Pg) (S : List Pg) (w : World) (h : WmI w0 w g PA n pc ts SA sc s i LA lc L) (hr : Rel (cmds ts) L S i p) (hn : n ≤ 1000) :
    Calls Try.prog 154 #[.pointer (some ⟨g, 0, none⟩)] w fun e w' => e = .returned (.bool (doneW p S)) ∧ WmQ w0 w g PA n pc ts SA sc s (normW p S).1 (normW p S).2 w' := by
  have hl : (cmds ts).length = n := by rw [cmds_len]; exact h.prog.len
  have hin : i ≤ n := by rw [← hl]; exact hr.le
  have g0 : w.cell? ⟨g, 0, none⟩ = some (.slice PA n pc) := h.box.cell 0
  have g2 : w.cell? ⟨g, 2, none⟩ = some (.int .i64 (i : Int)) := h.box.cell 2
  have g3 : w.cell? ⟨g, 3, none⟩ = some (.slice LA L.length lc) := h.box.cell 3
  cases hr with
  | base hd hi hk =>
    have HH := Lib.hid h
    have HR : Hid (Rel (cmds ts) [] [] i p) := Lib.hid (.base hd hi hk)
    have hD : ((i : Int) == (n : Int)) = doneW p [] := by
      cases p with
      | done =>
        have h1 := congrArg List.length hd
        rw [List.length_drop] at h1
        simp [Pg.enc] at h1
        show ((i : Int) == (n : Int)) = true
        simp; omega
      | set v e r =>
        have h1 := congrArg List.length hd
        rw [List.length_drop] at h1
        simp [Pg.enc] at h1
        show ((i : Int) == (n : Int)) = false
        simp; omega
      | wh e b r =>
        have h1 := congrArg List.length hd
        rw [List.length_drop] at h1
        simp [Pg.enc] at h1
        show ((i : Int) == (n : Int)) = false
        simp; omega
    have hN : normW p [] = (p, []) := by cases p <;> rfl
    have HN := Lib.hid hN
    obtain ⟨d, hdd⟩ : ∃ d, doneW p [] = d := ⟨_, rfl⟩
    rw [hdd] at hD
    have HDD := Lib.hid hdd
    have w1 : IntKind.i64.wrap (((0 : Nat) : Int) - 1) = -1 := IntWalk.i64_in _ (by omega)
    have w2 : IntKind.i64.wrap (0 - 1) = -1 := IntWalk.i64_in _ (by omega)
    clear h hd hi hk hN hdd hl
    dsimp only [List.length_nil] at g3
    go_enter Try.func154, Try.ntmps154
    go_wp2_with fail
    go_quiet (fail)
    go_wp2_with fail
    go_ret
    rw [HDD.out, HN.out]
    exact ⟨rfl, i, LA, lc, [], HH.out.drewN _, HR.out, KX.drewN _ _⟩
  | loop h1 hd hi hk hti =>
    rename_i L S t e b r rest
    have HH := Lib.hid h
    have HR : Hid (Rel (cmds ts) (t :: L) (.wh e b r :: S) i p) := Lib.hid (.loop h1 hd hi hk hti)
    have HR1 := Lib.hid h1
    obtain ⟨hwt, _, _, _⟩ := h1.wh
    have htn : t < n := by have := (List.getElem?_eq_some_iff.1 hwt).1; omega
    obtain ⟨ce, pb, po, HT, _, hPA, hpb, _, _, c2, _, _⟩ := h.prg.pick htn
    have hce : ce.l = (b.enc.length : Int) := by
      have h2 : (cmds ts)[t]? = some ce.cmd := by unfold cmds; rw [List.getElem?_map, HT.out]; rfl
      rw [hwt] at h2
      have h3 := Option.some.inj h2
      exact (congrArg Cmd.l h3).symm
    rw [hce] at c2
    have hbn : t + 1 + b.enc.length ≤ n := by
      obtain ⟨_, _, h2, _⟩ := h1.wh
      have h3 := h2.le; omega
    obtain ⟨lb, lo, hLA, _, hlb, lc0, _⟩ := h.loops.at_ (k := L.length) (by rw [length_ints]; simp)
    have hLc : w.cell? ⟨lb, lo + L.length, none⟩ = some (.int .i64 (t : Int)) := by
      rw [lc0, ints_get]
      simp
    obtain ⟨m, hm⟩ : ∃ m, L.length = m := ⟨_, rfl⟩
    obtain ⟨M, hM⟩ : ∃ M, (t :: L).length = M := ⟨_, rfl⟩
    obtain ⟨B, hB⟩ : ∃ B, b.enc.length = B := ⟨_, rfl⟩
    have hmM : m + 1 = M := by rw [← hm, ← hM]; rfl
    have hmL : m ≤ 1000 := by have h2 := h1.len_le; omega
    rw [hM] at g3
    rw [hB] at c2 hi hbn
    rw [hm] at hLc
    have HM := Lib.hid hM
    have Hm := Lib.hid hm
    have HmM := Lib.hid hmM
    subst hPA
    subst hLA
    have w1 : IntKind.i64.wrap ((M : Int) - 1) = (m : Int) := by rw [show ((M : Int) - 1) = (m : Int) by omega]; exact IntWalk.i64_in _ (by omega)
    have w3 : IntKind.i64.wrap ((t : Int) + (B : Int)) = ((t + B : Nat) : Int) := by rw [IntWalk.i64_in _ (by omega)]; omega
    obtain ⟨T, hT⟩ : ∃ T, t + B = T := ⟨_, rfl⟩
    rw [hT] at w3
    have i0 : ¬ (m : Int) < 0 := by omega
    have i1 : (0 : Int) ≤ (m : Int) := by omega
    have i2 : (m : Int) < (M : Int) := by omega
    have i3 : (0 : Int) ≤ (t : Int) := by omega
    have i4 : (t : Int) < (n : Int) := by omega
    by_cases hpe : p.enc.length = 0
    · obtain rfl : p = .done := by
        cases p with
        | done => rfl
        | set v e r => simp [Pg.enc] at hpe
        | wh e b r => simp [Pg.enc] at hpe
      have i5 : (i : Int) > (T : Int) := by omega
      have HL : Hid (Own w w0.heap.size 3 1 (some ⟨lb, lo, none⟩) L.length lc (ints (L.reverse.map fun j : Nat => (j : Int)))) := Lib.hid (by
        have h2 := Own.cut h.loops (i := 0) (j := L.length) (Nat.zero_le _) (by simp) (A' := some ⟨lb, lo, none⟩) (fun e => e) (fun b off e => .inl (by rw [e]; rfl))
        rw [Nat.sub_zero, Nat.sub_zero, List.drop_zero, ints_take] at h2
        have e2 : ((t :: L).reverse.map fun j : Nat => (j : Int)).take L.length = L.reverse.map fun j : Nat => (j : Int) := by
          rw [List.reverse_cons, List.map_append, List.take_append_of_le_length (by simp), List.take_of_length_le (by simp)]
        rw [e2] at h2
        exact h2)
      have f2 := h.box.frozen 2
      have f3 := h.box.frozen 3
      have hMc : M ≤ lc := by have h5 := h.loops.le; rw [hM] at h5; exact h5
      have j1 : ¬ (lc : Int) < (m : Int) := by omega
      have j2 : (m : Int) ≤ (lc : Int) := by omega
      have j3 : ¬ (lc : Int) = 0 := by omega
      have j4 : ¬ lc = 0 := by omega
      clear h h1 hd hi hk hti hwt HT hce hbn lc0 hm hM hB hmM hT hl hpe hin
      go_enter Try.func154, Try.ntmps154
      go_wp2_with fail
      go_quiet (fail)
      go_wp2_with fail
      go_region
      go_wp2_with fail
      go_ret
      have h2 := (HH.out.drewN (nq + 1)).setAt t
      have h3 := h2.1.setLoops (L' := L) ((HL.out.drewN (nq + 1)).far (p := ⟨g, 2, none⟩) ((HH.out.drewN (nq + 1)).box.apt HL.out (by decide)) (.int .i64 (t : Int)))
      have h4 := KX.drewN w (nq + 1)
      rw [Hm.out] at h3
      refine ⟨rfl, t, some ⟨lb, lo, none⟩, lc, L, ?_, HR1.out, (h4.trans h2.2).trans h3.2⟩
      exact h3.1
    · have i5 : ¬ (i : Int) > (T : Int) := by omega
      have HN : Hid (normW p (.wh e b r :: S) = (p, .wh e b r :: S) ∧ doneW p (.wh e b r :: S) = false) := Lib.hid (by
        cases p with
        | done => exact absurd rfl hpe
        | set v e r => exact ⟨rfl, rfl⟩
        | wh e b r => exact ⟨rfl, rfl⟩)
      clear h h1 hd hi hk hti hwt HT hce hbn lc0 hm hM hB hmM hT hl hpe hin
      go_enter Try.func154, Try.ntmps154
      go_wp2_with fail
      go_quiet (fail)
      go_wp2_with fail
      go_ret
      rw [HN.out.1, HN.out.2]
      exact ⟨rfl, i, some ⟨lb, lo, none⟩, lc, t :: L, HH.out.drewN _, HR.out, KX.drewN _ _⟩
end Go.Proofs.Ytfheepjfpgiaoaa
