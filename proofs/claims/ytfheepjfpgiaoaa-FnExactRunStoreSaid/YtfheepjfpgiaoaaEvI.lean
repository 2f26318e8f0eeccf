/-
  Contract of impl's exprValue.
-/
import Derived.Test.YtfheepjfpgiaoaaExI
import Derived.Test.YtfheepjfpgiaoaaTreE
import Derived.Recover
import Derived.WalkSmall
namespace Go.Proofs.Ytfheepjfpgiaoaa
open Go.RowKit

/-- What exprValue does: the value and the index behind the expression, or a panic. -/
def EvP (w : World) (l : Int) (r : Option Tr) (e : Ending) (w' : World) : Prop :=
  match r with
  | some x => (∃ p, e = .returned (.tuple #[.pointer p, .int .i64 l]) ∧ TrAt w' x p) ∧ Below w.heap.size w w'
  | none => e = .panicked [{ v := .iface 226 (.agg #[]), recovered := false }] ∧ Below w.heap.size w w'
/-- A store: six pointers to trees. -/
def StAt (w : World) (A : Option Addr) (s : List Tr) : Prop := ∃ ps : List (Option Addr), ps.length = 6 ∧ s.length = 6 ∧ Rd w 1 A 6 (ps.map Value.pointer) ∧ ∀ (k : Nat) (t : Tr), s[k]? = some t → ∃ p, ps[k]? = some p ∧ TrAt w t p
theorem StAt.pick {w : World} {A : Option Addr} {s : List Tr} (h : StAt w A s) {k : Nat} (hk : k < 6) : ∃ p b off, TrAt w (s.getD k .nil) p ∧ A = some ⟨b, off, none⟩ ∧ w.cell? ⟨b, off + k, none⟩ = some (.pointer p) := by
  obtain ⟨ps, hp, hs, hr, hT⟩ := h
  obtain ⟨p, h1, h2⟩ := hT k (s[k]'(by omega)) (List.getElem?_eq_getElem (by omega))
  obtain ⟨b, off, e, _, hc⟩ := hr.at_ (k := k) (by rw [List.length_map]; omega)
  obtain ⟨h3, h4⟩ := List.getElem?_eq_some_iff.1 h1
  refine ⟨p, b, off, ?_, e, ?_⟩
  · rw [List.getD_eq_getElem?_getD, List.getElem?_eq_getElem (by omega : k < s.length)]
    exact h2
  · rw [hc, List.getElem_map, h4]
theorem StAt.below {w w' : World} {A : Option Addr} {s : List Tr} (h : StAt w A s) (z : Below w.heap.size w w') : StAt w' A s := by
  obtain ⟨ps, hp, hs, hr, hT⟩ := h
  exact ⟨ps, hp, hs, hr.below z, fun k t hk => by obtain ⟨p, h1, h2⟩ := hT k t hk; exact ⟨p, h1, h2.below z⟩⟩
theorem ex_at {l : List R2} {k : Nat} {x : R2} {r : List R2} (h : l.drop k = x :: r) : l[k]? = some x ∧ l.drop (k + 1) = r := by
  have h1 := congrArg (·[0]?) h
  refine ⟨by simpa using h1, ?_⟩
  rw [← List.drop_drop, h]; rfl
theorem ex_behind {l : List R2} {k : Nat} {e : Ex} {r : List R2} (h : l.drop k = e.enc ++ r) : l.drop (k + e.len) = r := by
  rw [← List.drop_drop, h, ← ex_len, List.drop_left]
theorem ex_room {l : List R2} {k : Nat} {e : Ex} {r : List R2} (h : l.drop k = e.enc ++ r) : k + e.len ≤ l.length := by
  have h1 := congrArg List.length h
  have h2 := ex_pos e
  rw [List.length_drop, List.length_append, ex_len] at h1
  omega
set_option maxRecDepth 100000 in
set_option maxHeartbeats 4000000 in
theorem exprValue_any (A : Option Addr) (n c : Nat) (rs : List R2) (S : Option Addr) (sc : Nat) (s : List Tr) (hn : n ≤ 1000) (hs : ∀ t ∈ s, t.nodes ≤ 2000) : ∀ (e : Ex) (k : Nat) (rest : List R2) (w : World), rs.drop k = e.enc ++ rest → e.ok → S2 w A n rs → StAt w S s →
    Calls Try.prog 91 #[.slice A n c, .int .i64 (k : Int), .slice S 6 sc] w (EvP w ((k + e.len : Nat) : Int) (e.ev s)) := by
  intro e
  induction e with
  | nil =>
    intro k rest w hd hok hx hS
    have hroom := ex_room hd
    have hkn : k < n := by have := hx.len; have := ex_pos (Ex.nil); omega
    obtain ⟨hk, _⟩ := ex_at (x := (⟨0, 0⟩ : R2)) (r := rest) hd
    obtain ⟨r, g, off, HT, _, rfl, _, c0, c1⟩ := hx.pick hkn
    obtain rfl : r = (⟨0, 0⟩ : R2) := by have := HT.out; rw [hk] at this; cases this; rfl
    dsimp only at c0 c1
    have hgb : g < w.heap.size := World.block_lt_of_cell? w _ c0
    have HF := Lib.hid (exprFollow_any (⟨0, 0⟩ : R2) w)
    have HFZ : Hid ((fE (⟨0, 0⟩ : R2) : Nat) = 0) := Lib.hid rfl
    have i1 : (0 : Int) ≤ (k : Int) := by omega
    have i2 : (k : Int) < (n : Int) := by omega
    have w1 : IntKind.i64.wrap ((k : Int) + 1) = ((k + 1 : Nat) : Int) := by rw [IntWalk.i64_in _ (by omega)]; omega
    rw [HFZ.out] at HF
    obtain ⟨k2, hk2⟩ : ∃ k2, k + 1 = k2 := ⟨_, rfl⟩
    rw [hk2] at w1
    obtain ⟨L, hL⟩ : ∃ L, k + (Ex.nil).len = L := ⟨_, rfl⟩
    rw [hL]
    have hKL : k2 = L := by rw [← hL, ← hk2, Ex.len]
    have HKL := Lib.hid hKL
    have HS := Lib.hid hS
    have HX := Lib.hid hx
    clear hk hd hx hS HT hk2 hroom hL hKL hok HFZ hkn
    go_enter Try.func91, Try.ntmps91
    go_upto_region 3 with fail
    go_wp2_with fail
    refine HF.out.mono ?_
    rintro e W2 ⟨rfl, z2⟩
    have c0_ : W2.cell? ⟨g, off + k * 2, none⟩ = some (.int .i64 0) := (z2.cell (p := ⟨g, off + k * 2, none⟩) hgb).trans c0
    have HZ := Lib.hid z2
    clear z2 c0 c1 HF
    obtain rfl := HKL.out
    go_wp2_with fail
    exact bodyPost_ret (v := .tuple #[.pointer none, .int .i64 (k2 : Int)]) (by simp [results, Try.results91, go_sem]) rfl ⟨⟨_, rfl, rfl⟩, HZ.out⟩
  | var v =>
    intro k rest w hd hok hx hS
    have hroom := ex_room hd
    have hkn : k < n := by have := hx.len; have := ex_pos (.var v); omega
    obtain ⟨hk, _⟩ := ex_at (x := (⟨1, (v : Int)⟩ : R2)) (r := rest) hd
    obtain ⟨r, g, off, HT, _, rfl, _, c0, c1⟩ := hx.pick hkn
    obtain rfl : r = (⟨1, (v : Int)⟩ : R2) := by have := HT.out; rw [hk] at this; cases this; rfl
    dsimp only at c0 c1
    have hgb : g < w.heap.size := World.block_lt_of_cell? w _ c0
    have HF := Lib.hid (exprFollow_any (⟨1, (v : Int)⟩ : R2) w)
    have HFZ : Hid ((fE (⟨1, (v : Int)⟩ : R2) : Nat) = 0) := Lib.hid rfl
    have i1 : (0 : Int) ≤ (k : Int) := by omega
    have i2 : (k : Int) < (n : Int) := by omega
    have w1 : IntKind.i64.wrap ((k : Int) + 1) = ((k + 1 : Nat) : Int) := by rw [IntWalk.i64_in _ (by omega)]; omega
    rw [HFZ.out] at HF
    obtain ⟨k2, hk2⟩ : ∃ k2, k + 1 = k2 := ⟨_, rfl⟩
    rw [hk2] at w1
    obtain ⟨L, hL⟩ : ∃ L, k + (Ex.var v).len = L := ⟨_, rfl⟩
    rw [hL]
    have hKL : k2 = L := by rw [← hL, ← hk2, Ex.len]
    have HKL := Lib.hid hKL
    have HS := Lib.hid hS
    have HX := Lib.hid hx
    have hv : v < 6 := hok
    obtain ⟨p, sb, so, hp, rfl, sv⟩ := hS.pick hv
    have HP := Lib.hid hp
    have hsb : sb < w.heap.size := World.block_lt_of_cell? w _ sv
    have j1 : (0 : Int) ≤ (v : Int) := by omega
    have j2 : (v : Int) < 6 := by omega
    clear hp hv
    clear hk hd hx hS HT hk2 hroom hL hKL hok HFZ hkn
    go_enter Try.func91, Try.ntmps91
    go_upto_region 3 with fail
    go_wp2_with fail
    refine HF.out.mono ?_
    rintro e W2 ⟨rfl, z2⟩
    have c0_ : W2.cell? ⟨g, off + k * 2, none⟩ = some (.int .i64 1) := (z2.cell (p := ⟨g, off + k * 2, none⟩) hgb).trans c0
    have c1_ : W2.cell? ⟨g, off + k * 2 + 1, none⟩ = some (.int .i64 (v : Int)) := (z2.cell (p := ⟨g, off + k * 2 + 1, none⟩) hgb).trans c1
    have sv_ : W2.cell? ⟨sb, so + v, none⟩ = some (.pointer p) := (z2.cell (p := ⟨sb, so + v, none⟩) hsb).trans sv
    have HP2 := Lib.hid (HP.out.below z2)
    have HZ := Lib.hid z2
    clear z2 c0 c1 HF sv
    obtain rfl := HKL.out
    go_wp2_with fail
    exact bodyPost_ret (v := .tuple #[.pointer p, .int .i64 (k2 : Int)]) (by simp [results, Try.results91, go_sem]) rfl ⟨⟨_, rfl, HP2.out⟩, HZ.out⟩
  | cons a b iha ihb =>
    intro k rest w hd hok hx hS
    have hroom := ex_room hd
    have hkn : k < n := by have := hx.len; have := ex_pos (.cons a b); omega
    rw [Ex.enc, List.cons_append, List.append_assoc] at hd
    obtain ⟨hk, hd1⟩ := ex_at (x := (⟨2, 0⟩ : R2)) hd
    have hd2 := ex_behind hd1
    obtain ⟨r, g, off, HT, _, rfl, _, c0, c1⟩ := hx.pick hkn
    obtain rfl : r = (⟨2, 0⟩ : R2) := by have := HT.out; rw [hk] at this; cases this; rfl
    dsimp only at c0 c1
    have hgb : g < w.heap.size := World.block_lt_of_cell? w _ c0
    have HF := Lib.hid (exprFollow_any (⟨2, 0⟩ : R2) w)
    have HFZ : Hid ((fE (⟨2, 0⟩ : R2) : Nat) = 2) := Lib.hid rfl
    have i1 : (0 : Int) ≤ (k : Int) := by omega
    have i2 : (k : Int) < (n : Int) := by omega
    have w1 : IntKind.i64.wrap ((k : Int) + 1) = ((k + 1 : Nat) : Int) := by rw [IntWalk.i64_in _ (by omega)]; omega
    rw [HFZ.out] at HF
    obtain ⟨k2, hk2⟩ : ∃ k2, k + 1 = k2 := ⟨_, rfl⟩
    rw [hk2] at w1 hd1 hd2
    obtain ⟨L, hL⟩ : ∃ L, k + (Ex.cons a b).len = L := ⟨_, rfl⟩
    rw [hL]
    have hKL : k2 + a.len + b.len = L := by rw [← hL, ← hk2, Ex.len]; omega
    have HKL := Lib.hid hKL
    have HS := Lib.hid hS
    have HX := Lib.hid hx
    have HIA := Lib.hid iha
    have HIB := Lib.hid ihb
    have HOK := Lib.hid (show a.ok from hok.1)
    have HOK2 := Lib.hid (show b.ok from hok.2)
    have HD1 := Lib.hid hd1
    have HD2 := Lib.hid hd2
    clear hd1 hd2 iha ihb
    clear hk hd hx hS HT hk2 hroom hL hKL hok HFZ hkn
    go_enter Try.func91, Try.ntmps91
    go_upto_region 3 with fail
    go_wp2_with fail
    refine HF.out.mono ?_
    rintro e W2 ⟨rfl, z2⟩
    have c0_ : W2.cell? ⟨g, off + k * 2, none⟩ = some (.int .i64 2) := (z2.cell (p := ⟨g, off + k * 2, none⟩) hgb).trans c0
    have HZ := Lib.hid z2
    clear z2 c0 c1 HF
    obtain ⟨k3, hk3⟩ : ∃ k3, k2 + a.len = k3 := ⟨_, rfl⟩
    have HD2b := HD2.out
    have HKLb := HKL.out
    rw [hk3] at HD2b HKLb
    have HD3 := Lib.hid HD2b
    have HKL2 := Lib.hid HKLb
    clear HD2b HKLb HD2
    have HO := Lib.hid (HIA.out k2 _ W2 HD1.out HOK.out (HX.out.below HZ.out) (HS.out.below HZ.out))
    rw [hk3] at HO
    cases hra : a.ev s with
    | none =>
      have HEV : Hid ((Ex.cons a b).ev s = none) := Lib.hid (by simp only [Ex.ev, hra]; try rfl)
      rw [hra] at HO
      clear hra hk3
      go_wp2_with fail
      refine HO.out.mono ?_
      rintro e W3 ⟨rfl, z3⟩
      have HR : EvP w (L : Int) ((Ex.cons a b).ev s) (.panicked [{ v := .iface 226 (.agg #[]), recovered := false }]) W3 := by
        rw [HEV.out]
        exact ⟨rfl, HZ.out.trans (z3.mono HZ.out.size)⟩
      exact ⟨rfl, HR⟩
    | some x =>
      have HRA := Lib.hid hra
      rw [hra] at HO
      clear hra
      go_wp2_with fail
      refine HO.out.mono ?_
      rintro e W3 ⟨⟨p, rfl, hp⟩, z3⟩
      have z3w := HZ.out.trans (z3.mono HZ.out.size)
      have HZ3 := Lib.hid z3w
      have c0_3 : W3.cell? ⟨g, off + k * 2, none⟩ = some (.int .i64 2) := (z3.cell (p := ⟨g, off + k * 2, none⟩) (by have := HZ.out.size; simp; omega)).trans c0_
      have hxn : x.nodes ≤ 2000 := ev_nodes hs a x HRA.out
      clear c0_ z3 HO
      have HP := Lib.hid hp
      clear hp z3w
      obtain ⟨k4, hk4⟩ : ∃ k4, k3 + b.len = k4 := ⟨_, rfl⟩
      have HO := Lib.hid (HIB.out k3 _ W3 HD3.out HOK2.out (HX.out.below HZ3.out) (HS.out.below HZ3.out))
      rw [hk4] at HO
      cases hrb : b.ev s with
      | none =>
        have HEV : Hid ((Ex.cons a b).ev s = none) := Lib.hid (by simp only [Ex.ev, HRA.out, hrb])
        rw [hrb] at HO
        clear hrb hk4 hk3
        go_wp2_with fail
        refine HO.out.mono ?_
        rintro e W4 ⟨rfl, z4⟩
        have HR : EvP w (L : Int) ((Ex.cons a b).ev s) (.panicked [{ v := .iface 226 (.agg #[]), recovered := false }]) W4 := by
          rw [HEV.out]
          exact ⟨rfl, HZ3.out.trans (z4.mono HZ3.out.size)⟩
        exact ⟨rfl, HR⟩
      | some y =>
        have HRB := Lib.hid hrb
        rw [hrb] at HO
        clear hrb
        go_wp2_with fail
        refine HO.out.mono ?_
        rintro e W4 ⟨⟨q, rfl, hq⟩, z4⟩
        have HZ4 := Lib.hid (HZ3.out.trans (z4.mono HZ3.out.size))
        have c0_4 : W4.cell? ⟨g, off + k * 2, none⟩ = some (.int .i64 2) := (z4.cell (p := ⟨g, off + k * 2, none⟩) (by have := HZ3.out.size; simp; omega)).trans c0_3
        have hyn : y.nodes ≤ 2000 := ev_nodes hs b y HRB.out
        have hp4 := HP.out.below z4
        obtain rfl : k4 = L := by have := HKL2.out; omega
        have HPR := Lib.hid (pair_any x y p q W4 hp4 hq (by omega))
        have HNEW := Lib.hid (TrAt.new hp4 hq)
        have HY6 := Lib.hid (fun o => HZ4.out.alloc (w := W4) HZ4.out.size o)
        unfold PairP at HPR
        obtain ⟨N, hN⟩ : ∃ N : Nat, 1 + x.nodes + y.nodes = N := ⟨_, rfl⟩
        have HN := Lib.hid hN
        rw [hN] at HPR HNEW
        clear c0_3 z4 HO hk3 hk4 hp4 hq
        go_wp2_with fail
        refine HPR.out.mono ?_
        rintro e w' ⟨rfl, rfl⟩
        obtain ⟨W5, hW5⟩ : ∃ W5, W5 = W4.alloc (.cells #[.pointer p, .pointer q, .int .i64 (N : Int)] 224) := ⟨_, rfl⟩
        rw [← hW5]
        have n2 : W5.cell? ⟨W4.heap.size, 2, none⟩ = some (.int .i64 (N : Int)) := by rw [hW5]; exact (Blk.new W4 _ _).cell 2
        have HT5 : Hid (TrAt W5 (.nd x y) (some ⟨W4.heap.size, 0, none⟩)) := Lib.hid (by rw [hW5]; exact HNEW.out)
        have HZ5 : Hid (Below w.heap.size w W5) := Lib.hid (by rw [hW5]; exact HY6.out _)
        clear hW5 HPR HNEW c0_4
        by_cases hle : N ≤ 2000
        · have HEV : Hid ((Ex.cons a b).ev s = some (.nd x y)) := Lib.hid (by simp only [Ex.ev, HRA.out, HRB.out]; rw [if_pos (by rw [hN]; exact hle)])
          have i3 : ¬ (N : Int) > 2000 := by omega
          clear hN hle
          go_wp2_with fail
          rw [HEV.out]
          exact bodyPost_ret (v := .tuple #[.pointer (some ⟨W4.heap.size, 0, none⟩), .int .i64 (k4 : Int)]) (by simp [results, Try.results91, go_sem]) rfl ⟨⟨_, rfl, HT5.out⟩, HZ5.out⟩
        · have HEV : Hid ((Ex.cons a b).ev s = none) := Lib.hid (by simp only [Ex.ev, HRA.out, HRB.out]; rw [if_neg (by rw [hN]; exact hle)])
          have i3 : (N : Int) > 2000 := by omega
          clear hN hle
          have HR : EvP w (k4 : Int) ((Ex.cons a b).ev s) (.panicked [{ v := .iface 226 (.agg #[]), recovered := false }]) W5 := by
            rw [HEV.out]
            exact ⟨rfl, HZ5.out⟩
          go_wp2_with fail
          exact ⟨rfl, HR⟩
  | hd a iha =>
    intro k rest w hd hok hx hS
    have hroom := ex_room hd
    have hkn : k < n := by have := hx.len; have := ex_pos (.hd a); omega
    rw [Ex.enc, List.cons_append] at hd
    obtain ⟨hk, hd1⟩ := ex_at (x := (⟨3, 0⟩ : R2)) hd
    obtain ⟨r, g, off, HT, _, rfl, _, c0, c1⟩ := hx.pick hkn
    obtain rfl : r = (⟨3, 0⟩ : R2) := by have := HT.out; rw [hk] at this; cases this; rfl
    dsimp only at c0 c1
    have hgb : g < w.heap.size := World.block_lt_of_cell? w _ c0
    have HF := Lib.hid (exprFollow_any (⟨3, 0⟩ : R2) w)
    have HFZ : Hid ((fE (⟨3, 0⟩ : R2) : Nat) = 1) := Lib.hid rfl
    have i1 : (0 : Int) ≤ (k : Int) := by omega
    have i2 : (k : Int) < (n : Int) := by omega
    have w1 : IntKind.i64.wrap ((k : Int) + 1) = ((k + 1 : Nat) : Int) := by rw [IntWalk.i64_in _ (by omega)]; omega
    rw [HFZ.out] at HF
    obtain ⟨k2, hk2⟩ : ∃ k2, k + 1 = k2 := ⟨_, rfl⟩
    rw [hk2] at w1 hd1
    obtain ⟨L, hL⟩ : ∃ L, k + (Ex.hd a).len = L := ⟨_, rfl⟩
    rw [hL]
    have hKL : k2 + a.len = L := by rw [← hL, ← hk2, Ex.len]; omega
    have HKL := Lib.hid hKL
    have HS := Lib.hid hS
    have HX := Lib.hid hx
    have HIA := Lib.hid iha
    have HOK := Lib.hid (show a.ok from hok)
    have HD1 := Lib.hid hd1
    clear hd1 iha
    clear hk hd hx hS HT hk2 hroom hL hKL hok HFZ hkn
    go_enter Try.func91, Try.ntmps91
    go_upto_region 3 with fail
    go_wp2_with fail
    refine HF.out.mono ?_
    rintro e W2 ⟨rfl, z2⟩
    have c0_ : W2.cell? ⟨g, off + k * 2, none⟩ = some (.int .i64 3) := (z2.cell (p := ⟨g, off + k * 2, none⟩) hgb).trans c0
    have HZ := Lib.hid z2
    clear z2 c0 c1 HF
    obtain ⟨k3, hk3⟩ : ∃ k3, k2 + a.len = k3 := ⟨_, rfl⟩
    have HO := Lib.hid (HIA.out k2 _ W2 HD1.out HOK.out (HX.out.below HZ.out) (HS.out.below HZ.out))
    rw [hk3] at HO
    cases hra : a.ev s with
    | none =>
      have HEV : Hid ((Ex.hd a).ev s = none) := Lib.hid (by simp only [Ex.ev, hra]; try rfl)
      rw [hra] at HO
      clear hra hk3
      go_wp2_with fail
      refine HO.out.mono ?_
      rintro e W3 ⟨rfl, z3⟩
      have HR : EvP w (L : Int) ((Ex.hd a).ev s) (.panicked [{ v := .iface 226 (.agg #[]), recovered := false }]) W3 := by
        rw [HEV.out]
        exact ⟨rfl, HZ.out.trans (z3.mono HZ.out.size)⟩
      exact ⟨rfl, HR⟩
    | some x =>
      have HRA := Lib.hid hra
      rw [hra] at HO
      clear hra
      go_wp2_with fail
      refine HO.out.mono ?_
      rintro e W3 ⟨⟨p, rfl, hp⟩, z3⟩
      have z3w := HZ.out.trans (z3.mono HZ.out.size)
      have HZ3 := Lib.hid z3w
      have c0_3 : W3.cell? ⟨g, off + k * 2, none⟩ = some (.int .i64 3) := (z3.cell (p := ⟨g, off + k * 2, none⟩) (by have := HZ.out.size; simp; omega)).trans c0_
      have hxn : x.nodes ≤ 2000 := ev_nodes hs a x HRA.out
      clear c0_ z3 HO
      have HEV : Hid ((Ex.hd a).ev s = some x.hd) := Lib.hid (by simp only [Ex.ev, HRA.out]; rfl)
      have HH := Lib.hid (headOf_any x p W3 hp)
      obtain rfl : k3 = L := by have := HKL.out; omega
      clear hp z3w hk3
      go_wp2_with (go_at_call 96; refine HH.out.mono ?_; rintro e w' ⟨⟨q, rfl, hq⟩, rfl⟩; have HQ := Lib.hid hq)
      rw [HEV.out]
      exact bodyPost_ret (v := .tuple #[.pointer q, .int .i64 (k3 : Int)]) (by simp [results, Try.results91, go_sem]) rfl ⟨⟨_, rfl, HQ.out⟩, HZ3.out⟩
  | tl a iha =>
    intro k rest w hd hok hx hS
    have hroom := ex_room hd
    have hkn : k < n := by have := hx.len; have := ex_pos (.tl a); omega
    rw [Ex.enc, List.cons_append] at hd
    obtain ⟨hk, hd1⟩ := ex_at (x := (⟨4, 0⟩ : R2)) hd
    obtain ⟨r, g, off, HT, _, rfl, _, c0, c1⟩ := hx.pick hkn
    obtain rfl : r = (⟨4, 0⟩ : R2) := by have := HT.out; rw [hk] at this; cases this; rfl
    dsimp only at c0 c1
    have hgb : g < w.heap.size := World.block_lt_of_cell? w _ c0
    have HF := Lib.hid (exprFollow_any (⟨4, 0⟩ : R2) w)
    have HFZ : Hid ((fE (⟨4, 0⟩ : R2) : Nat) = 1) := Lib.hid rfl
    have i1 : (0 : Int) ≤ (k : Int) := by omega
    have i2 : (k : Int) < (n : Int) := by omega
    have w1 : IntKind.i64.wrap ((k : Int) + 1) = ((k + 1 : Nat) : Int) := by rw [IntWalk.i64_in _ (by omega)]; omega
    rw [HFZ.out] at HF
    obtain ⟨k2, hk2⟩ : ∃ k2, k + 1 = k2 := ⟨_, rfl⟩
    rw [hk2] at w1 hd1
    obtain ⟨L, hL⟩ : ∃ L, k + (Ex.tl a).len = L := ⟨_, rfl⟩
    rw [hL]
    have hKL : k2 + a.len = L := by rw [← hL, ← hk2, Ex.len]; omega
    have HKL := Lib.hid hKL
    have HS := Lib.hid hS
    have HX := Lib.hid hx
    have HIA := Lib.hid iha
    have HOK := Lib.hid (show a.ok from hok)
    have HD1 := Lib.hid hd1
    clear hd1 iha
    clear hk hd hx hS HT hk2 hroom hL hKL hok HFZ hkn
    go_enter Try.func91, Try.ntmps91
    go_upto_region 3 with fail
    go_wp2_with fail
    refine HF.out.mono ?_
    rintro e W2 ⟨rfl, z2⟩
    have c0_ : W2.cell? ⟨g, off + k * 2, none⟩ = some (.int .i64 4) := (z2.cell (p := ⟨g, off + k * 2, none⟩) hgb).trans c0
    have HZ := Lib.hid z2
    clear z2 c0 c1 HF
    obtain ⟨k3, hk3⟩ : ∃ k3, k2 + a.len = k3 := ⟨_, rfl⟩
    have HO := Lib.hid (HIA.out k2 _ W2 HD1.out HOK.out (HX.out.below HZ.out) (HS.out.below HZ.out))
    rw [hk3] at HO
    cases hra : a.ev s with
    | none =>
      have HEV : Hid ((Ex.tl a).ev s = none) := Lib.hid (by simp only [Ex.ev, hra]; try rfl)
      rw [hra] at HO
      clear hra hk3
      go_wp2_with fail
      refine HO.out.mono ?_
      rintro e W3 ⟨rfl, z3⟩
      have HR : EvP w (L : Int) ((Ex.tl a).ev s) (.panicked [{ v := .iface 226 (.agg #[]), recovered := false }]) W3 := by
        rw [HEV.out]
        exact ⟨rfl, HZ.out.trans (z3.mono HZ.out.size)⟩
      exact ⟨rfl, HR⟩
    | some x =>
      have HRA := Lib.hid hra
      rw [hra] at HO
      clear hra
      go_wp2_with fail
      refine HO.out.mono ?_
      rintro e W3 ⟨⟨p, rfl, hp⟩, z3⟩
      have z3w := HZ.out.trans (z3.mono HZ.out.size)
      have HZ3 := Lib.hid z3w
      have c0_3 : W3.cell? ⟨g, off + k * 2, none⟩ = some (.int .i64 4) := (z3.cell (p := ⟨g, off + k * 2, none⟩) (by have := HZ.out.size; simp; omega)).trans c0_
      have hxn : x.nodes ≤ 2000 := ev_nodes hs a x HRA.out
      clear c0_ z3 HO
      have HEV : Hid ((Ex.tl a).ev s = some x.tl) := Lib.hid (by simp only [Ex.ev, HRA.out]; rfl)
      have HH := Lib.hid (tailOf_any x p W3 hp)
      obtain rfl : k3 = L := by have := HKL.out; omega
      clear hp z3w hk3
      go_wp2_with (go_at_call 97; refine HH.out.mono ?_; rintro e w' ⟨⟨q, rfl, hq⟩, rfl⟩; have HQ := Lib.hid hq)
      rw [HEV.out]
      exact bodyPost_ret (v := .tuple #[.pointer q, .int .i64 (k3 : Int)]) (by simp [results, Try.results91, go_sem]) rfl ⟨⟨_, rfl, HQ.out⟩, HZ3.out⟩
  | same a b iha ihb =>
    intro k rest w hd hok hx hS
    have hroom := ex_room hd
    have hkn : k < n := by have := hx.len; have := ex_pos (.same a b); omega
    rw [Ex.enc, List.cons_append, List.append_assoc] at hd
    obtain ⟨hk, hd1⟩ := ex_at (x := (⟨5, 0⟩ : R2)) hd
    have hd2 := ex_behind hd1
    obtain ⟨r, g, off, HT, _, rfl, _, c0, c1⟩ := hx.pick hkn
    obtain rfl : r = (⟨5, 0⟩ : R2) := by have := HT.out; rw [hk] at this; cases this; rfl
    dsimp only at c0 c1
    have hgb : g < w.heap.size := World.block_lt_of_cell? w _ c0
    have HF := Lib.hid (exprFollow_any (⟨5, 0⟩ : R2) w)
    have HFZ : Hid ((fE (⟨5, 0⟩ : R2) : Nat) = 2) := Lib.hid rfl
    have i1 : (0 : Int) ≤ (k : Int) := by omega
    have i2 : (k : Int) < (n : Int) := by omega
    have w1 : IntKind.i64.wrap ((k : Int) + 1) = ((k + 1 : Nat) : Int) := by rw [IntWalk.i64_in _ (by omega)]; omega
    rw [HFZ.out] at HF
    obtain ⟨k2, hk2⟩ : ∃ k2, k + 1 = k2 := ⟨_, rfl⟩
    rw [hk2] at w1 hd1 hd2
    obtain ⟨L, hL⟩ : ∃ L, k + (Ex.same a b).len = L := ⟨_, rfl⟩
    rw [hL]
    have hKL : k2 + a.len + b.len = L := by rw [← hL, ← hk2, Ex.len]; omega
    have HKL := Lib.hid hKL
    have HS := Lib.hid hS
    have HX := Lib.hid hx
    have HIA := Lib.hid iha
    have HIB := Lib.hid ihb
    have HOK := Lib.hid (show a.ok from hok.1)
    have HOK2 := Lib.hid (show b.ok from hok.2)
    have HD1 := Lib.hid hd1
    have HD2 := Lib.hid hd2
    clear hd1 hd2 iha ihb
    clear hk hd hx hS HT hk2 hroom hL hKL hok HFZ hkn
    go_enter Try.func91, Try.ntmps91
    go_upto_region 3 with fail
    go_wp2_with fail
    refine HF.out.mono ?_
    rintro e W2 ⟨rfl, z2⟩
    have c0_ : W2.cell? ⟨g, off + k * 2, none⟩ = some (.int .i64 5) := (z2.cell (p := ⟨g, off + k * 2, none⟩) hgb).trans c0
    have HZ := Lib.hid z2
    clear z2 c0 c1 HF
    obtain ⟨k3, hk3⟩ : ∃ k3, k2 + a.len = k3 := ⟨_, rfl⟩
    have HD2b := HD2.out
    have HKLb := HKL.out
    rw [hk3] at HD2b HKLb
    have HD3 := Lib.hid HD2b
    have HKL2 := Lib.hid HKLb
    clear HD2b HKLb HD2
    have HO := Lib.hid (HIA.out k2 _ W2 HD1.out HOK.out (HX.out.below HZ.out) (HS.out.below HZ.out))
    rw [hk3] at HO
    cases hra : a.ev s with
    | none =>
      have HEV : Hid ((Ex.same a b).ev s = none) := Lib.hid (by simp only [Ex.ev, hra]; try rfl)
      rw [hra] at HO
      clear hra hk3
      go_wp2_with fail
      refine HO.out.mono ?_
      rintro e W3 ⟨rfl, z3⟩
      have HR : EvP w (L : Int) ((Ex.same a b).ev s) (.panicked [{ v := .iface 226 (.agg #[]), recovered := false }]) W3 := by
        rw [HEV.out]
        exact ⟨rfl, HZ.out.trans (z3.mono HZ.out.size)⟩
      exact ⟨rfl, HR⟩
    | some x =>
      have HRA := Lib.hid hra
      rw [hra] at HO
      clear hra
      go_wp2_with fail
      refine HO.out.mono ?_
      rintro e W3 ⟨⟨p, rfl, hp⟩, z3⟩
      have z3w := HZ.out.trans (z3.mono HZ.out.size)
      have HZ3 := Lib.hid z3w
      have c0_3 : W3.cell? ⟨g, off + k * 2, none⟩ = some (.int .i64 5) := (z3.cell (p := ⟨g, off + k * 2, none⟩) (by have := HZ.out.size; simp; omega)).trans c0_
      have hxn : x.nodes ≤ 2000 := ev_nodes hs a x HRA.out
      clear c0_ z3 HO
      have HP := Lib.hid hp
      clear hp z3w
      obtain ⟨k4, hk4⟩ : ∃ k4, k3 + b.len = k4 := ⟨_, rfl⟩
      have HO := Lib.hid (HIB.out k3 _ W3 HD3.out HOK2.out (HX.out.below HZ3.out) (HS.out.below HZ3.out))
      rw [hk4] at HO
      cases hrb : b.ev s with
      | none =>
        have HEV : Hid ((Ex.same a b).ev s = none) := Lib.hid (by simp only [Ex.ev, HRA.out, hrb])
        rw [hrb] at HO
        clear hrb hk4 hk3
        go_wp2_with fail
        refine HO.out.mono ?_
        rintro e W4 ⟨rfl, z4⟩
        have HR : EvP w (L : Int) ((Ex.same a b).ev s) (.panicked [{ v := .iface 226 (.agg #[]), recovered := false }]) W4 := by
          rw [HEV.out]
          exact ⟨rfl, HZ3.out.trans (z4.mono HZ3.out.size)⟩
        exact ⟨rfl, HR⟩
      | some y =>
        have HRB := Lib.hid hrb
        rw [hrb] at HO
        clear hrb
        go_wp2_with fail
        refine HO.out.mono ?_
        rintro e W4 ⟨⟨q, rfl, hq⟩, z4⟩
        have HZ4 := Lib.hid (HZ3.out.trans (z4.mono HZ3.out.size))
        have c0_4 : W4.cell? ⟨g, off + k * 2, none⟩ = some (.int .i64 5) := (z4.cell (p := ⟨g, off + k * 2, none⟩) (by have := HZ3.out.size; simp; omega)).trans c0_3
        have hyn : y.nodes ≤ 2000 := ev_nodes hs b y HRB.out
        have hp4 := HP.out.below z4
        obtain rfl : k4 = L := by have := HKL2.out; omega
        have HEQ := Lib.hid (equal_any x y p q W4 hp4 hq)
        unfold EqP at HEQ
        clear c0_3 z4 HO hk3 hk4
        by_cases hxy : x = y
        · have HEV : Hid ((Ex.same a b).ev s = some (.nd .nil .nil)) := Lib.hid (by simp only [Ex.ev, HRA.out, HRB.out]; rw [if_pos hxy])
          rw [decide_eq_true hxy] at HEQ
          clear hxy hp4 hq
          go_wp2_with fail
          refine HEQ.out.mono ?_
          rintro e W5 ⟨rfl, m, rfl⟩
          obtain ⟨W5, hW5⟩ : ∃ W5, W5 = W4.drewN m := ⟨_, rfl⟩
          rw [← hW5]
          have z5 : Below W4.heap.size W4 W5 := by rw [hW5]; exact below_drewN (Below.refl _ _) m
          have HZ5 := Lib.hid (HZ4.out.trans (z5.mono HZ4.out.size))
          have HPR := Lib.hid (pair_any .nil .nil none none W5 rfl rfl (by decide))
          have HNEW := Lib.hid (TrAt.new (w := W5) (h := .nil) (t := .nil) (a := none) (b := none) rfl rfl)
          have HY6 := Lib.hid (fun o => HZ5.out.alloc (w := W5) HZ5.out.size o)
          clear hW5 z5
          go_wp2_with (go_at_call 175; refine HPR.out.mono ?_; rintro e w' ⟨rfl, rfl⟩)
          rw [HEV.out]
          exact bodyPost_ret (v := .tuple #[.pointer (some ⟨W5.heap.size, 0, none⟩), .int .i64 (k4 : Int)]) (by simp [results, Try.results91, go_sem]) rfl ⟨⟨_, rfl, HNEW.out⟩, HY6.out _⟩
        · have HEV : Hid ((Ex.same a b).ev s = some .nil) := Lib.hid (by simp only [Ex.ev, HRA.out, HRB.out]; rw [if_neg hxy])
          rw [decide_eq_false hxy] at HEQ
          clear hxy hp4 hq
          go_wp2_with fail
          refine HEQ.out.mono ?_
          rintro e W5 ⟨rfl, m, rfl⟩
          obtain ⟨W5, hW5⟩ : ∃ W5, W5 = W4.drewN m := ⟨_, rfl⟩
          rw [← hW5]
          have z5 : Below W4.heap.size W4 W5 := by rw [hW5]; exact below_drewN (Below.refl _ _) m
          have HZ5 := Lib.hid (HZ4.out.trans (z5.mono HZ4.out.size))
          have c0_5 : W5.cell? ⟨g, off + k * 2, none⟩ = some (.int .i64 5) := by rw [hW5]; exact c0_4
          clear hW5 z5 c0_4
          go_wp2_with fail
          rw [HEV.out]
          exact bodyPost_ret (v := .tuple #[.pointer none, .int .i64 (k4 : Int)]) (by simp [results, Try.results91, go_sem]) rfl ⟨⟨_, rfl, rfl⟩, HZ5.out⟩
end Go.Proofs.Ytfheepjfpgiaoaa
