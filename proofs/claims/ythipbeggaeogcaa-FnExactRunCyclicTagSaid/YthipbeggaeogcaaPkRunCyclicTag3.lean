/-
  Contract of impl.runSystem: a system that makes steps, seen through an interface.
-/
import Derived.Test.YthipbeggaeogcaaPkRunCyclicTag1
import Derived.Test.YthipbeggaeogcaaPkRunCyclicTag2
import Derived.Deep.RegionHeld3
import Derived.Deep.DeepCutAuto
import Derived.Deep.RegionLaw
namespace Go.Proofs.Ythipbeggaeogcaa
open Go.RowKit

/-- What runSystem leaves. -/
def SysP {σ : Type} (s : Sys σ) (c : σ) (N : Nat) (vis : Nat → Bool) (K : Nat → World → Prop) (F : World → Prop) (e : Ending) (w' : World) : Prop :=
  (∃ i, i ≤ N ∧ s.Alive c i ∧ (∀ j, j < i → vis j = true) ∧ (vis i = false ∨ i = N ∨ s.halt (s.it c i) = true) ∧ e = .returned (.tuple #[.int .i64 (i : Int), .bool (s.halt (s.it c i)), .int .i64 0]) ∧ K i w') ∨
  (∃ i, i < N ∧ s.Alive c i ∧ (∀ j, j ≤ i → vis j = true) ∧ s.halt (s.it c i) = false ∧ s.room (s.it c i) = false ∧ e = .returned (.tuple #[.int .i64 0, .bool false, .int .i64 5]) ∧ F w')

theorem vis_next {vis : Nat → Bool} {i : Nat} (h : ∀ j, j < i → vis j = true) (hi : vis i = true) : ∀ j, j ≤ i → vis j = true := fun j hj => by
  by_cases e : j = i
  · subst e; exact hi
  · exact h j (by omega)

set_option maxRecDepth 100000 in
set_option maxHeartbeats 4000000 in
theorem runSystem_any {σ : Type} (s : Sys σ) (c : σ) (N : Nat) (T : TypeId) (v : Value) (fw fh fs fv : FuncId) (lb : Array Value) (vis : Nat → Bool) (I : Nat → World → Prop) (J : Nat → Value → World → Prop) (K : Nat → World → Prop) (F : World → Prop) (w : World)
    (hN : N ≤ 1000000) (mw : ∀ w, (method 386 T v "loop.example/g01079/impl.word").run Try.prog w = .ok (fw, v) w) (mh : ∀ w, (method 386 T v "loop.example/g01079/impl.halts").run Try.prog w = .ok (fh, v) w) (ms : ∀ w, (method 386 T v "loop.example/g01079/impl.step").run Try.prog w = .ok (fs, v) w)
    (cw : ∀ (args : Array Value) (w : World), (callFunc fw args).run Try.prog w = .ok (.enter fw args) w) (ch : ∀ (args : Array Value) (w : World), (callFunc fh args).run Try.prog w = .ok (.enter fh args) w) (cs : ∀ (args : Array Value) (w : World), (callFunc fs args).run Try.prog w = .ok (.enter fs args) w) (hcall : ∀ (args : Array Value) (w : World), (callFunc fv args).run Try.prog w = .ok (.enter fv args) w)
    (hA : ∀ i W, i ≤ N → s.Alive c i → I i W → Calls Try.prog fw #[v] W fun e W' => ∃ u, e = .returned u ∧ J i u W')
    (hB : ∀ i u W, i ≤ N → s.Alive c i → J i u W → Calls Try.prog fv (#[u] ++ lb) W fun e W' => e = .returned (.bool (vis i)) ∧ K i W')
    (hC : ∀ i W, i ≤ N → s.Alive c i → K i W → Calls Try.prog fh #[v] W fun e W' => e = .returned (.bool (s.halt (s.it c i))) ∧ K i W')
    (hD : ∀ i W, i < N → s.Alive c i → s.halt (s.it c i) = false → K i W → Calls Try.prog fs #[v] W fun e W' => e = .returned (.bool (s.room (s.it c i))) ∧ (s.room (s.it c i) = true → I (i + 1) W') ∧ (s.room (s.it c i) = false → F W')) (h0 : I 0 w) :
    Calls Try.prog 79 #[.iface T v, .int .i64 (N : Int), .func (.func fv) #[] lb] w (SysP s c N vis K F) := by
  go_enter Try.func79, Try.ntmps79
  go_wp2_with fail
  have HA := Lib.hid hA
  have HB := Lib.hid hB
  have HC := Lib.hid hC
  have HD := Lib.hid hD
  clear hA hB hC hD
  go_loopw [9] (fun n wr => ∃ i : Nat, n = .int .i64 (i : Int) ∧ i ≤ N ∧ s.Alive c i ∧ Hid (∀ j, j < i → vis j = true) ∧ I i wr) (fun n _ => N - (intOf n).toNat)
  case atStart => exact ⟨0, rfl, Nat.zero_le _, Sys.Alive.zero _ _, fun j h => absurd h (Nat.not_lt_zero j), h0⟩
  case round =>
    obtain ⟨i, rfl, hi, hal, hv, hI⟩ := hrel
    have HAL := Lib.hid hal
    have HA1 := Lib.hid (HA.out i wr hi hal hI)
    clear hal
    go_wp2_with fail
    refine HA1.out.mono ?_
    rintro e W1 ⟨u, rfl, hJ⟩
    have HB1 := Lib.hid (HB.out i u W1 hi HAL.out hJ)
    clear hI HA1
    go_wp2_with fail
    refine HB1.out.mono ?_
    rintro e W2 ⟨rfl, hK⟩
    have HC1 := Lib.hid (HC.out i W2 hi HAL.out hK)
    clear HB1 hJ
    cases hvi : vis i with
    | false =>
      have HVI := Lib.hid hvi
      clear hvi
      go_wp2_with fail
      refine HC1.out.mono ?_
      rintro e W3 ⟨rfl, hK3⟩
      go_wp2_with fail
      exact bodyPost_ret (v := .tuple #[.int .i64 (i : Int), .bool (s.halt (s.it c i)), .int .i64 0]) (by simp [results, Try.results79, go_sem]) rfl (.inl ⟨i, hi, HAL.out, hv.out, .inl HVI.out, rfl, hK3⟩)
    | true =>
      have HVI := Lib.hid hvi
      clear hvi
      by_cases hlt : i < N
      rotate_left
      · have hiN : i = N := by omega
        have HIN := Lib.hid hiN
        have hd : ((i : Int) == (N : Int)) = true := by simp; omega
        clear hiN
        go_wp2_with fail
        refine HC1.out.mono ?_
        rintro e W3 ⟨rfl, hK3⟩
        go_wp2_with fail
        exact bodyPost_ret (v := .tuple #[.int .i64 (i : Int), .bool (s.halt (s.it c i)), .int .i64 0]) (by simp [results, Try.results79, go_sem]) rfl (.inl ⟨i, hi, HAL.out, hv.out, .inr (.inl HIN.out), rfl, hK3⟩)
      have hd : ((i : Int) == (N : Int)) = false := by simp; omega
      go_wp2_with fail
      refine HC1.out.mono ?_
      rintro e W3 ⟨rfl, hK3⟩
      have HC3 := Lib.hid (HC.out i W3 hi HAL.out hK3)
      cases hh : s.halt (s.it c i) with
      | true =>
        have HH := Lib.hid hh
        rw [hh] at HC3
        clear hh
        go_wp2_with fail
        refine HC3.out.mono ?_
        rintro e W4 ⟨rfl, hK4⟩
        go_wp2_with fail
        exact bodyPost_ret (v := .tuple #[.int .i64 (i : Int), .bool true, .int .i64 0]) (by simp [results, Try.results79, go_sem]) rfl (.inl ⟨i, hi, HAL.out, hv.out, .inr (.inr HH.out), by rw [HH.out], hK4⟩)
      | false =>
        have HH := Lib.hid hh
        clear hh
        have HD1 := Lib.hid (HD.out i W3 hlt HAL.out HH.out hK3)
        go_wp2_with fail
        refine HD1.out.mono ?_
        rintro e W4 ⟨rfl, hI4, hF4⟩
        cases hr : s.room (s.it c i) with
        | true =>
          have HR := Lib.hid hr
          have hI5 := hI4 hr
          clear hr hI4 hF4
          go_wp2_with fail
          go_roundw
          case rel => exact ⟨i + 1, by go_num, by omega, HAL.out.step HH.out HR.out, (fun j hj => vis_next hv.out HVI.out j (by omega)), hI5⟩
          case measure => simp [intOf]; omega
        | false =>
          have HR := Lib.hid hr
          have hF5 := hF4 hr
          clear hr hI4 hF4
          go_wp2_with fail
          exact bodyPost_ret (v := .tuple #[.int .i64 0, .bool false, .int .i64 5]) (by simp [results, Try.results79, go_sem]) rfl (.inr ⟨i, hlt, HAL.out, (vis_next hv.out HVI.out), HH.out, HR.out, rfl, hF5⟩)
end Go.Proofs.Ythipbeggaeogcaa

/-
  A tag system that runs: its state in memory, and runSystem over it.
-/
namespace Go.Proofs.Ythipbeggaeogcaa
open Go.RowKit

def FrD (D : (Nat → Prop) → World → Prop) : Prop := ∀ X W W', D X W → Fr X W W' → D X W'
/-- The tag system that runs, as the contract speaks of it. -/
structure Tg where
  w0 : World
  g : Nat
  d : Int
  A : Option Addr
  n : Nat
  c : Nat
  ts : List Sl
  B : Option Addr
  m : Nat
  k : Nat
  hs : List Int
  xs : List Int
structure Tg.Ok (p : Tg) : Prop where
  code : tagCodeF p.d (nums p.ts) p.hs p.xs = 0
  words : SII p.w0 p.A p.n p.ts
  halts : SI p.w0 p.B p.m p.hs
  hg : p.w0.heap.size ≤ p.g
  hn : p.n ≤ 1048576
  hm : p.m ≤ 1048576
abbrev Tg.sys (p : Tg) : Sys (List Int) := tagSys p.d (nums p.ts) p.hs
abbrev Tg.it (p : Tg) (i : Nat) : List Int := p.sys.it p.xs i
/-- The system stands behind i steps, its word is the slice Q; X: blocks apart from its own; D: the caller's word on them. -/
structure TgO (p : Tg) (i : Nat) (Q : Option Addr) (r : Nat) (X : Nat → Prop) (W : World) : Prop where
  ng : ¬ X p.g
  lt : ∀ b, X b → b < W.heap.size
  run : RunAt W p.g p.d p.A p.n p.c p.B p.m p.k Q (p.it i).length r
  own : Own W p.w0.heap.size 2 1 Q (p.it i).length r (ints (p.it i))
  nq : ∀ b, blk Q = some b → ¬ X b
  low : Below p.w0.heap.size p.w0 W
def TgV (p : Tg) (i : Nat) (D : (Nat → Prop) → World → Prop) (u : Value) (W : World) : Prop := ∃ Q r X, u = .slice Q (p.it i).length r ∧ TgO p i Q r X W ∧ D X W
def TgS (p : Tg) (i : Nat) (D : (Nat → Prop) → World → Prop) (W : World) : Prop := ∃ u, TgV p i D u W
theorem TgO.drewN {p : Tg} {i : Nat} {Q : Option Addr} {r : Nat} {X : Nat → Prop} {W : World} (h : TgO p i Q r X W) (q : Nat) : TgO p i Q r X (W.drewN q) := ⟨h.ng, h.lt, h.run, h.own.drewN q, h.nq, below_drewN h.low q⟩
theorem TgO.fr {p : Tg} {i : Nat} {Q : Option Addr} {r : Nat} {X : Nat → Prop} {W W' : World} (h : TgO p i Q r X W) (z : Below W.heap.size W W') : TgO p i Q r X W' :=
  ⟨h.ng, fun b hb => by have := h.lt b hb; have := z.size; omega, (z.block p.g (Array.getElem?_eq_some_iff.1 h.run).1).trans h.run, h.own.below z, h.nq, h.low.trans (z.mono h.low.size)⟩

theorem tagHalts_g {p : Tg} {i r : Nat} {Q : Option Addr} {X : Nat → Prop} {W : World} (hp : p.Ok) (hal : p.sys.Alive p.xs i) (h : TgO p i Q r X W) :
    Calls Try.prog 151 #[.pointer (some ⟨p.g, 0, none⟩)] W fun e W' => e = .returned (.bool (p.sys.halt (p.it i))) ∧ ∃ q, W' = W.drewN q := by
  obtain ⟨v1, v2, v3, v4, v5, v6, v7, v8⟩ := tagCode_parts (tagAlive_good hp.code hal)
  exact tagHalts_any p.g p.d p.A p.n p.c p.B p.m p.k p.hs Q _ r (p.it i) W h.run (hp.halts.below h.low) h.own.rd hp.hm (by have : (p.it i).length ≤ 1000 := v4; omega) v1 (Lib.hid v3)
theorem tagStep_g {p : Tg} {i r : Nat} {Q : Option Addr} {X : Nat → Prop} {W : World} (hp : p.Ok) (hal : p.sys.Alive p.xs i) (hh : p.sys.halt (p.it i) = false) (h : TgO p i Q r X W) :
    Calls Try.prog 152 #[.pointer (some ⟨p.g, 0, none⟩)] W fun e W' => e = .returned (.bool (p.sys.room (p.it i))) ∧ (∃ Q' r', TgO p (i + 1) Q' r' X W') ∧ Fr X W W' := by
  obtain ⟨v1, v2, v3, v4, v5, v6, v7, v8⟩ := tagCode_parts (tagAlive_good hp.code hal)
  have hl4 : (p.it i).length ≤ 1000 := v4
  have hdl : p.d ≤ (p.it i).length := haltsB_false hh
  have hnl : (nums p.ts).length = p.n := by have := hp.words.len; simpa [nums] using this
  obtain ⟨x0, hx0, hx0e⟩ := head_letter (xs := p.it i) (n := p.n) (by omega) (by intro x hx'; have := v5 x hx'; rw [hnl] at this; exact this)
  have hlt : x0 < p.ts.length := by have := hp.words.len; omega
  have hT : p.ts[x0]? = some p.ts[x0] := List.getElem?_eq_getElem hlt
  have hw : tagWordOf (nums p.ts) (p.it i) = p.ts[x0].xs := by unfold tagWordOf; rw [hx0e]; simp [nums, hT]
  have htl : p.ts[x0].xs.length ≤ 1000 := v8 _ (List.mem_map.2 ⟨p.ts[x0], List.getElem_mem hlt, rfl⟩)
  refine (tagStep_x X p.w0 p.g p.d p.A p.n p.c p.ts p.B p.m p.k Q _ r x0 (p.it i) p.ts[x0] W hp.words h.low hp.hg h.run h.own (Lib.hid h.ng) (Lib.hid h.nq) (Lib.hid h.lt) (by omega) v1 hdl (Lib.hid hx0e) (Lib.hid hT) hx0 (by omega)).mono ?_
  rintro e W' ⟨Q', r', rfl, hr', ho', hn', hb', hf'⟩
  have hit : p.it (i + 1) = (p.it i ++ p.ts[x0].xs).drop p.d.toNat := by rw [← hw]; rfl
  refine ⟨ret_bool ?_, ⟨Q', r', h.ng, fun b hb => by have := h.lt b hb; have := hf'.size; omega, ?_, ?_, hn', hb'⟩, hf'⟩
  · rw [← hw]; rfl
  · rw [hit]; exact hr'
  · rw [hit]; exact ho'

theorem tagM_word (g : Nat) (w : World) : (method 386 131 (.pointer (some ⟨g, 0, none⟩)) "loop.example/g01079/impl.word").run Try.prog w = .ok (246, .pointer (some ⟨g, 0, none⟩)) w := by kernel_rfl
theorem tagM_halts (g : Nat) (w : World) : (method 386 131 (.pointer (some ⟨g, 0, none⟩)) "loop.example/g01079/impl.halts").run Try.prog w = .ok (151, .pointer (some ⟨g, 0, none⟩)) w := by kernel_rfl
theorem tagM_step (g : Nat) (w : World) : (method 386 131 (.pointer (some ⟨g, 0, none⟩)) "loop.example/g01079/impl.step").run Try.prog w = .ok (152, .pointer (some ⟨g, 0, none⟩)) w := by kernel_rfl

theorem runTagSys (p : Tg) (hp : p.Ok) (N : Nat) (fv : FuncId) (lb : Array Value) (vis : Nat → Bool) (D : Nat → (Nat → Prop) → World → Prop) (hD : ∀ i, FrD (D i)) (w : World) (hN : N ≤ 1000000)
    (hcall : ∀ (args : Array Value) (w : World), (callFunc fv args).run Try.prog w = .ok (.enter fv args) w)
    (hB : ∀ i u W, i ≤ N → p.sys.Alive p.xs i → TgV p i (D i) u W → Calls Try.prog fv (#[u] ++ lb) W fun e W' => e = .returned (.bool (vis i)) ∧ TgS p i (D (i + 1)) W') (h0 : TgS p 0 (D 0) w) :
    Calls Try.prog 79 #[.iface 131 (.pointer (some ⟨p.g, 0, none⟩)), .int .i64 (N : Int), .func (.func fv) #[] lb] w (SysP p.sys p.xs N vis (fun i W => TgS p i (D (i + 1)) W) (fun W => Below p.w0.heap.size p.w0 W)) := by
  refine runSystem_any p.sys p.xs N _ _ _ _ _ fv lb vis (fun i W => TgS p i (D i) W) (fun i u W => TgV p i (D i) u W) _ _ w hN (tagM_word p.g) (tagM_halts p.g) (tagM_step p.g) Try.call246 Try.call151 Try.call152 hcall ?_ hB ?_ ?_ h0
  · rintro i W _ _ ⟨u, Q, r, X, rfl, ho, hd⟩
    exact (tagWord_any p.g p.d p.A p.n p.c p.B p.m p.k Q _ r W ho.run).mono fun e W' ⟨he, hW⟩ => ⟨_, he, Q, r, X, rfl, hW ▸ ho, hW ▸ hd⟩
  · rintro i W _ hal ⟨u, Q, r, X, rfl, ho, hd⟩
    refine (tagHalts_g hp hal ho).mono ?_
    rintro e W' ⟨he, q, rfl⟩
    exact ⟨he, _, Q, r, X, rfl, ho.drewN q, hD _ X W _ hd ((Fr.refl X W).drewN q)⟩
  · rintro i W _ hal hh ⟨u, Q, r, X, rfl, ho, hd⟩
    refine (tagStep_g hp hal hh ho).mono ?_
    rintro e W' ⟨he, ⟨Q', r', ho'⟩, hf⟩
    exact ⟨he, fun _ => ⟨_, Q', r', X, rfl, ho', hD _ X W _ hd hf⟩, fun _ => ho'.low⟩
end Go.Proofs.Ythipbeggaeogcaa

/-
  Contracts of the reference's smallest functions: l00In, l00Own.
-/
namespace Go.Proofs.Ythipbeggaeogcaa
open Go.RowKit

set_option maxHeartbeats 400000 in
theorem l00In_any (n lo hi : Int) (w : World) :
    Calls Try.prog 82 #[.int .i64 n, .int .i64 lo, .int .i64 hi] w fun e w' => e = .returned (.bool (inB n lo hi)) ∧ w = w' := by
  by_cases h1 : lo ≤ n <;> by_cases h2 : n ≤ hi
  all_goals
    go_enter Try.func82, Try.ntmps82
    go_wp2
    go_ret
    exact ⟨ret_bool (by simp [inB]; omega), rfl⟩

theorem l00In_is {n lo hi : Int} {b : Bool} (h : inB n lo hi = b) (w : World) :
    Calls Try.prog 82 #[.int .i64 n, .int .i64 lo, .int .i64 hi] w fun e w' => e = .returned (.bool b) ∧ w = w' := h ▸ l00In_any n lo hi w

set_option maxHeartbeats 400000 in
theorem l00Own_any (A : Option Addr) (n c : Nat) (xs : List Int) (w : World) (hx : SI w A n xs) (hn : n ≤ 1048576) :
    Calls Try.prog 83 #[.slice A n c] w (NewI w xs) := by
  have HL := Lib.hid hx.len
  go_enter Try.func83, Try.ntmps83
  go_wp2_with (at_builtin; refine wpList_append_Own rfl (.tmp 3) (.tmp 4) rfl elI (lo := w.heap.size) rfl (Own.lit0 w _ 1) rfl (Rd.alloc hx _) (ints_one xs) (by omega) (by simp only [maxLen]; omega) (by simp) ?_; intro A2 c2 w2 ho2 hg2 _)
  go_ret
  have hbb := (Own.lit0 w 2 1).below_of ((Below.refl _ _).alloc (Nat.le_refl _) _) hg2 (by simp)
  simp only [List.nil_append] at ho2
  refine ⟨A2, c2, ?_, ?_, hbb⟩
  · rw [HL.out]; simp
  · rw [HL.out]; simpa using ho2

end Go.Proofs.Ythipbeggaeogcaa

/-
  Budgets: impl.budgetOk, spec.l05Budget.
-/
namespace Go.Proofs.Ythipbeggaeogcaa
open Go.RowKit
theorem budgetOk_any (b : Int) (w : World) : Calls Try.prog 77 #[.int .i64 b] w fun e w' => e = .returned (.bool (inB b 1 20000)) ∧ w = w' := by
  go_enter Try.func77, Try.ntmps77
  go_wp2_with (go_at_call 85; refine (within_any _ _ _ _).mono ?_; rintro e w' ⟨rfl, rfl⟩)
  go_ret
  exact ⟨rfl, rfl⟩
theorem budgetOk_is {b : Int} {v : Bool} (h : inB b 1 20000 = v) (w : World) : Calls Try.prog 77 #[.int .i64 b] w fun e w' => e = .returned (.bool v) ∧ w = w' := h ▸ budgetOk_any b w
theorem l05Budget_any (b : Int) (w : World) : Calls Try.prog 73 #[.int .i64 b] w fun e w' => e = .returned (.bool (inB b 1 20000)) ∧ w = w' := by
  go_enter Try.func73, Try.ntmps73
  go_wp2_with (go_at_call 82; refine (l00In_any _ _ _ _).mono ?_; rintro e w' ⟨rfl, rfl⟩)
  go_ret
  exact ⟨rfl, rfl⟩
theorem l05Budget_is {b : Int} {v : Bool} (h : inB b 1 20000 = v) (w : World) : Calls Try.prog 73 #[.int .i64 b] w fun e w' => e = .returned (.bool v) ∧ w = w' := h ▸ l05Budget_any b w
end Go.Proofs.Ythipbeggaeogcaa

/-
  Contract of impl.RunTag.
-/
namespace Go.Proofs.Ythipbeggaeogcaa
open Go.RowKit

/-- A new slice, a number, a Bool and a code. -/
def NewI4 (w : World) (r : List Int × Int × Bool × Int) (e : Ending) (w' : World) : Prop :=
  ∃ A c, e = .returned (.tuple #[.slice A r.1.length c, .int .i64 r.2.1, .bool r.2.2.1, .int .i64 r.2.2.2]) ∧ Own w' w.heap.size 2 1 A r.1.length c (ints r.1) ∧ Below w.heap.size w w'
theorem i4_nil {w wf : World} {k : Int} {r : List Int × Int × Bool × Int} (hr : r = ([], 0, false, k)) (hz : Below w.heap.size w wf) : NewI4 w r (.returned (.tuple #[.slice none 0 0, .int .i64 0, .bool false, .int .i64 k])) wf := by
  subst hr; exact ⟨none, 0, rfl, Own.nil, hz⟩
theorem i4_of {w wf : World} {n' k : Int} {b : Bool} {r : List Int × Int × Bool × Int} {xs : List Int} {A : Option Addr} {n c : Nat} (hr : r = (xs, n', b, k)) (hn : n = xs.length) (ho : Own wf w.heap.size 2 1 A n c (ints xs)) (hz : Below w.heap.size w wf) : NewI4 w r (.returned (.tuple #[.slice A n c, .int .i64 n', .bool b, .int .i64 k])) wf := by
  subst hr; subst hn; exact ⟨A, c, rfl, ho, hz⟩
theorem runTagF_bad {d : Int} {words : List (List Int)} {hs xs : List Int} {b : Int} (h : tagCodeF d words hs xs = 1) : runTagF d words hs xs b = ([], 0, false, 1) := by unfold runTagF; rw [h]; simp
theorem runTagF_range {d : Int} {words : List (List Int)} {hs xs : List Int} {b : Int} (h : tagCodeF d words hs xs = 0) (h1 : inB b 1 20000 = false) : runTagF d words hs xs b = ([], 0, false, 2) := by unfold runTagF; rw [h, h1]; simp
theorem runTagF_ended {d : Int} {words : List (List Int)} {hs xs : List Int} {N i : Nat} (h : tagCodeF d words hs xs = 0) (h1 : inB (N : Int) 1 20000 = true) (h2 : (tagSys d words hs).Ended xs N i) :
    runTagF d words hs xs (N : Int) = ((tagSys d words hs).it xs i, (i : Int), haltsB d hs ((tagSys d words hs).it xs i), 0) := by
  unfold runTagF; rw [h, h1, Int.toNat_natCast, Sys.run_ended h2]; simp
theorem runTagF_full {d : Int} {words : List (List Int)} {hs xs : List Int} {N i : Nat} (h : tagCodeF d words hs xs = 0) (h1 : inB (N : Int) 1 20000 = true) (h2 : (tagSys d words hs).Full xs N i) :
    runTagF d words hs xs (N : Int) = ([], 0, false, 5) := by
  unfold runTagF; rw [h, h1, Int.toNat_natCast, Sys.run_full h2]; simp
theorem runTagF_len (d : Int) (words : List (List Int)) (hs xs : List Int) (b : Int) : (runTagF d words hs xs b).1.length ≤ 1048576 := by
  unfold runTagF
  split
  · rename_i h
    split
    · split
      · rename_i i hi
        have := (tagCode_parts (tagAlive_good h (Sys.run_alive hi))).2.2.2.1
        show ((tagSys d words hs).it xs i).length ≤ _
        omega
      · simp
    · simp
  · simp

theorem all_any (v : Value) (w : World) : Calls Try.prog 80 #[v] w fun e w' => e = .returned (.bool true) ∧ w = w' := by
  go_enter Try.func80, Try.ntmps80
  go_wp2_with fail
  go_ret
  exact ⟨rfl, rfl⟩

set_option maxRecDepth 100000 in
set_option maxHeartbeats 4000000 in
theorem runTagI_any (d : Int) (A : Option Addr) (n c : Nat) (ts : List Sl) (B : Option Addr) (m k : Nat) (hs : List Int) (C : Option Addr) (l r : Nat) (xs : List Int) (b : Int) (w : World) (hx : SII w A n ts) (hy : SI w B m hs) (hz : SI w C l xs) (hn : n ≤ 1048576) (hm : m ≤ 1048576) (hns : ∀ t ∈ ts, t.xs.length ≤ 1048576) (hl : l ≤ 1048576) :
    Calls Try.prog 45 #[.agg #[.int .i64 d, .slice A n c, .slice B m k], .slice C l r, .int .i64 b] w (NewI4 w (runTagF d (nums ts) hs xs b)) := by
  obtain ⟨W, hW_⟩ : ∃ W, W = w.alloc (.cells #[.int .i64 d, .slice A n c, .slice B m k] 51) := ⟨_, rfl⟩
  have b0 : Blk W w.heap.size 51 #[.int .i64 d, .slice A n c, .slice B m k] := by rw [hW_]; exact Blk.new w _ _
  have y0 : Below w.heap.size w W := by rw [hW_]; exact (Below.refl _ _).alloc (Nat.le_refl _) _
  have HW := Lib.hid hW_
  clear hW_
  have q0 : W.cell? ⟨w.heap.size, 0, none⟩ = some (.int .i64 d) := b0.cell 0
  have q1 : W.cell? ⟨w.heap.size, 1, none⟩ = some (.slice A n c) := b0.cell 1
  have q2 : W.cell? ⟨w.heap.size, 2, none⟩ = some (.slice B m k) := b0.cell 2
  have HNS := Lib.hid hns
  clear hns
  go_enter Try.func45, Try.ntmps45
  go_wp2_with fail
  rw [← HW.out]
  refine (tagCode_any _ _ _ _ ts _ _ _ hs _ _ _ xs _ (hx.below y0) (hy.below y0) (hz.below y0) hn hm hl (fun t ht => by have := HNS.out t ht; omega)).mono ?_
  rintro e w2 ⟨rfl, hb2⟩
  have y2 := y0.trans (hb2.mono y0.size)
  have b2 := b0.below' hb2
  clear q0 q1 q2
  have q0 : w2.cell? ⟨w.heap.size, 0, none⟩ = some (.int .i64 d) := b2.cell 0
  have q1 : w2.cell? ⟨w.heap.size, 1, none⟩ = some (.slice A n c) := b2.cell 1
  have q2 : w2.cell? ⟨w.heap.size, 2, none⟩ = some (.slice B m k) := b2.cell 2
  rcases tagCode_01 d (nums ts) hs xs with hcode | hcode
  rotate_left
  · have HF := Lib.hid (runTagF_bad (b := b) hcode)
    rw [hcode]
    clear hcode
    go_wp2_with fail
    exact bodyPost_ret (v := .tuple #[.slice none 0 0, .int .i64 0, .bool false, .int .i64 1]) (by simp [results, Try.results45, go_sem]) rfl (i4_nil HF.out y2)
  have HC := Lib.hid hcode
  rw [hcode]
  clear hcode
  cases a2 : inB b 1 20000
  · have HF := Lib.hid (runTagF_range HC.out a2)
    have A2 := Lib.hid a2
    clear a2
    go_wp2_with (go_at_call 77; refine (budgetOk_is A2.out _).mono ?_; rintro e w' ⟨rfl, rfl⟩)
    exact bodyPost_ret (v := .tuple #[.slice none 0 0, .int .i64 0, .bool false, .int .i64 2]) (by simp [results, Try.results45, go_sem]) rfl (i4_nil HF.out y2)
  have A2 := Lib.hid a2
  have hb := (inB_iff _ _ _).1 a2
  obtain ⟨N, rfl⟩ : ∃ N : Nat, b = (N : Int) := ⟨b.toNat, by omega⟩
  clear a2
  go_wp2_with (go_at_call 77; refine (budgetOk_is A2.out _).mono ?_; rintro e w' ⟨rfl, rfl⟩)
  refine (tagRunOf_any _ _ _ _ _ _ _ _ _ _ xs _ (hz.below y2) hl).mono ?_
  rintro e w3 ⟨g, Q, r3, rfl, hg3, hr3, ho3, hb3⟩
  have y3 := y2.trans (hb3.mono y2.size)
  clear q0 q1 q2
  obtain ⟨p, hp⟩ : ∃ p : Tg, p = ⟨w2, g, d, A, n, c, ts, B, m, k, hs, xs⟩ := ⟨_, rfl⟩
  have hok : p.Ok := by rw [hp]; exact ⟨HC.out, hx.below y2, hy.below y2, hg3, hn, hm⟩
  have h0 : TgS p 0 (fun _ _ => True) w3 := by
    rw [hp]
    exact ⟨_, Q, r3, fun _ => False, rfl, ⟨id, fun _ h => h.elim, hr3, ho3, fun _ _ h => h, hb3⟩, trivial⟩
  have hrun := runTagSys p hok N 80 #[] (fun _ => true) (fun _ _ _ => True) (fun _ _ _ _ _ _ => trivial) w3 (by omega) Try.call80 (fun i u W _ _ hv => (all_any u W).mono fun e W' ⟨he, hW⟩ => ⟨he, u, hW ▸ hv⟩) h0
  have hpg : p.g = g := by rw [hp]
  rw [hpg] at hrun
  have HRUN := Lib.hid hrun
  have HP := Lib.hid hp
  clear hrun hp h0 hpg hok
  go_wp2_with fail
  refine HRUN.out.mono ?_
  rintro e w4 (⟨i, hi, hal, _, hend, rfl, ⟨u, Q4, r4, X, _, ho, _⟩⟩ | ⟨i, hi, hal, _, hh, hro, rfl, hF⟩)
  · have hen : (tagSys d (nums ts) hs).Ended xs N i := by
      rw [HP.out] at hal hend
      exact ⟨hi, hal, by rcases hend with h | h | h; · cases h
                         · exact .inl h
                         · exact .inr h⟩
    have HF := Lib.hid (runTagF_ended HC.out A2.out hen)
    have hit : p.it i = (tagSys d (nums ts) hs).it xs i := by rw [HP.out]
    have hhal : p.sys.halt (p.it i) = haltsB d hs ((tagSys d (nums ts) hs).it xs i) := by rw [HP.out]; rfl
    have hlow : Below w2.heap.size w2 w4 := by have := ho.low; rwa [HP.out] at this
    have hrn : RunAt w4 g d A n c B m k Q4 (p.it i).length r4 := by have := ho.run; rwa [HP.out] at this ⊢
    have hown := ho.own.rd
    rw [hit] at hrn hown
    rw [show p.sys.halt (p.sys.it p.xs i) = _ from hhal]
    have hlen := (tagCode_parts (tagAlive_good HC.out hen.2.1)).2.2.2.1
    have y4 := y2.trans (hlow.mono y2.size)
    clear ho hal hend hen hit hhal
    generalize (tagSys d (nums ts) hs).it xs i = zs at *
    have k3 : w4.cell? ⟨g, 3, none⟩ = some (.slice Q4 zs.length r4) := (runAt_cell hrn).2.2.2
    go_wp2_with fail
    refine (cloneI_any _ _ _ zs _ hown (by omega)).mono ?_
    rintro e w5 ⟨A5, c5, rfl, ho5, hb5⟩
    go_wp2_with fail
    exact bodyPost_ret (v := .tuple #[.slice A5 zs.length c5, .int .i64 (i : Int), .bool (haltsB d hs zs), .int .i64 0]) (by simp [results, Try.results45, go_sem]) rfl (i4_of HF.out rfl (ho5.mono y4.size) (y4.trans (hb5.mono y4.size)))
  · have hfu : (tagSys d (nums ts) hs).Full xs N i := by
      rw [HP.out] at hal hh hro
      exact ⟨hi, hal, hh, hro⟩
    have HF := Lib.hid (runTagF_full HC.out A2.out hfu)
    have hlow : Below w2.heap.size w2 w4 := by have := hF; rwa [HP.out] at this
    clear hal hh hro hfu
    go_wp2_with fail
    exact bodyPost_ret (v := .tuple #[.slice none 0 0, .int .i64 0, .bool false, .int .i64 5]) (by simp [results, Try.results45, go_sem]) rfl (i4_nil HF.out (y2.trans (hlow.mono y2.size)))
end Go.Proofs.Ythipbeggaeogcaa

/-
  Rounds that write into blocks of the caller's own, for tag systems.
-/
namespace Go.Proofs.Ythipbeggaeogcaa
open Go.RowKit

/-- Blocks outside Y are as they were. -/
structure Keep (Y : Nat → Prop) (W W' : World) : Prop where
  os : W'.os = W.os
  tape : W'.tape = W.tape
  output : W'.output = W.output
  size : W.heap.size ≤ W'.heap.size
  block : ∀ b, b < W.heap.size → ¬ Y b → W'.heap[b]? = W.heap[b]?
section
variable {Y : Nat → Prop} {a W W' : World}
theorem Keep.refl (Y : Nat → Prop) (W : World) : Keep Y W W := ⟨rfl, rfl, rfl, Nat.le_refl _, fun _ _ _ => rfl⟩
theorem Keep.drewN (h : Keep Y a W) (n : Nat) : Keep Y a (W.drewN n) := ⟨h.os, h.tape, h.output, h.size, h.block⟩
theorem Keep.below (h : Keep Y a W) (z : Below W.heap.size W W') : Keep Y a W' := ⟨z.os.trans h.os, z.tape.trans h.tape, z.output.trans h.output, Nat.le_trans h.size z.size, fun b hb hy => (z.block b (by have := h.size; omega)).trans (h.block b hb hy)⟩
theorem Keep.set (h : Keep Y a W) {b o : Nat} (hb : Y b) (u : Value) : Keep Y a (W.setCell ⟨b, o, none⟩ u) :=
  ⟨h.os, h.tape, h.output, by simpa [World.setCell] using h.size, fun k hk hy => (Below.heap_setCell W ⟨b, o, none⟩ u k (fun e => hy (by rw [e]; exact hb))).trans (h.block k hk hy)⟩
theorem Keep.alloc (h : Keep Y a W) (o : Obj) : Keep Y a (W.alloc o) := ⟨h.os, h.tape, h.output, Nat.le_trans h.size (by simp), fun k hk hy => (Below.heap_alloc W o k (by have := h.size; omega)).trans (h.block k hk hy)⟩
theorem Keep.grown {row : Option Nat} (h : Keep Y a W) (hg : W.grownBy W' row) (hr : ∀ b, row = some b → Y b) : Keep Y a W' :=
  ⟨hg.os.trans h.os, hg.tape.trans h.tape, hg.output.trans h.output, Nat.le_trans h.size hg.size, fun k hk hy => (hg.block k (by have := h.size; omega) (fun e => hy (hr k e.symm))).trans (h.block k hk hy)⟩
theorem Keep.blk {b : Nat} {t : TypeId} {cs : Array Value} (k : Keep Y W W') (h : Blk W b t cs) (hn : ¬ Y b) : Blk W' b t cs := (k.block b h.lt hn).trans h
end
/-- The blocks of X, and new ones. -/
def XGrow (X : Nat → Prop) (s e : Nat) (b : Nat) : Prop := X b ∨ (s ≤ b ∧ b < e)
theorem TgO.turn {p : Tg} {i r : Nat} {Q : Option Addr} {X Y : Nat → Prop} {W W' : World} (h : TgO p i Q r X W) (k : Keep Y W W') (hY : ∀ b, Y b → X b ∧ p.w0.heap.size ≤ b) : TgO p i Q r (XGrow X W.heap.size W'.heap.size) W' := by
  have hg : p.g < W.heap.size := (Array.getElem?_eq_some_iff.1 h.run).1
  refine ⟨?_, ?_, ?_, ?_, ?_, ?_⟩
  · rintro (h1 | ⟨h1, _⟩)
    · exact h.ng h1
    · omega
  · rintro b (h1 | ⟨_, h1⟩)
    · have := h.lt b h1; have := k.size; omega
    · exact h1
  · exact (k.block p.g hg (fun hy => h.ng (hY _ hy).1)).trans h.run
  · exact h.own.kept fun b hb _ hlt => k.block b hlt (fun hy => h.nq b hb (hY b hy).1)
  · rintro b hb (h1 | ⟨h1, _⟩)
    · exact h.nq b hb h1
    · have := h.own.blk_lt b hb; omega
  · exact ⟨k.os.trans h.low.os, k.tape.trans h.low.tape, k.output.trans h.low.output, Nat.le_trans h.low.size k.size, fun b hb => (k.block b (by have := h.low.size; omega) (fun hy => by have := (hY b hy).2; omega)).trans (h.low.block b hb)⟩
end Go.Proofs.Ythipbeggaeogcaa

/-
  Contracts of the laws' helpers over []Rule: szRuleS, toRule, toRuleS, eqRule, eqRuleS, markRuleS.
-/
namespace Go.Proofs.Ythipbeggaeogcaa
open Go.RowKit

theorem elR : Elem Try.prog 80 169 3 24 (.agg #[.int .i64 0, .int .i64 0, .int .i64 0]) := ⟨Try.underlying80, by kernel_rfl, rfl, by decide⟩

set_option maxHeartbeats 400000 in
theorem szR (A : Option Addr) (n c : Nat) (left : Int) (w : World) (hn : n ≤ 9223372036854775807) (h0 : 0 ≤ left) (h1 : left ≤ 1048576) :
    Calls Try.prog 116 #[.slice A n c, .int .i64 left] w fun e w' => e = .returned (.int .i64 (szF left n)) ∧ w = w' := by
  by_cases h : left < n
  · have h2 : left - n < 0 := by omega
    go_enter Try.func116, Try.ntmps116
    go_wp2
    go_ret
    exact ⟨ret_int (by unfold szF; rw [if_pos h]), rfl⟩
  · have h2 : ¬ left - n < 0 := by omega
    go_enter Try.func116, Try.ntmps116
    go_wp2
    go_ret
    exact ⟨ret_int (by unfold szF; rw [if_neg (by omega)]), rfl⟩

set_option maxHeartbeats 400000 in
theorem toRule_any (a b c : Int) (w : World) :
    Calls Try.prog 163 #[.agg #[.int .i64 a, .int .i64 b, .int .i64 c]] w fun e w' => e = .returned (.agg #[.int .i64 a, .int .i64 b, .int .i64 c]) ∧ Below w.heap.size w w' := by
  go_enter Try.func163, Try.ntmps163
  go_wp2
  exact bodyPost_ret (v := .agg #[.int .i64 a, .int .i64 b, .int .i64 c]) (by simp [results, Try.results163, go_sem]) rfl ⟨rfl, (((Below.refl _ _).alloc (Nat.le_refl _) _).alloc (by simp) _).alloc (by simp; omega) _⟩

set_option maxHeartbeats 400000 in
theorem eqRule_any (a b c a' b' c' : Int) (w : World) :
    Calls Try.prog 172 #[.agg #[.int .i64 a, .int .i64 b, .int .i64 c], .agg #[.int .i64 a', .int .i64 b', .int .i64 c']] w fun e w' => e = .returned (.bool (sameR ⟨a, b, c⟩ ⟨a', b', c'⟩)) ∧ Below w.heap.size w w' := by
  have hb : Below w.heap.size w ((w.alloc (.cells #[.int .i64 a, .int .i64 b, .int .i64 c] 169)).alloc (.cells #[.int .i64 a', .int .i64 b', .int .i64 c'] 169)) := ((Below.refl _ _).alloc (Nat.le_refl _) _).alloc (by simp) _
  go_enter Try.func172, Try.ntmps172
  go_wp2
  all_goals go_ret
  all_goals exact ⟨ret_bool (by simp_all [sameR]), hb⟩

def ToR (w : World) (n : Nat) (rs : List R3) (e : Ending) (w' : World) : Prop :=
  ∃ A, e = .returned (.slice A n n) ∧ Own w' w.heap.size 169 3 A n n (cells3 rs) ∧ Below w.heap.size w w'

set_option maxHeartbeats 1000000 in
theorem toR (A : Option Addr) (n c : Nat) (rs : List R3) (w : World) (hx : S3 w A n rs) (hn : n ≤ 1048576) :
    Calls Try.prog 121 #[.slice A n c] w (ToR w n rs) := by
  have HL := Lib.hid hx.len
  have hxl : n ≤ rs.length := by have := hx.len; omega
  have hxl' : rs.length ≤ n := by have := hx.len; omega
  go_enter Try.func121, Try.ntmps121
  go_wp2_with (at_make; refine wpList_make_Own rfl (.tmp 6) (.tmp 6) rfl elR (n := n) (lo := w.heap.size) rfl rfl (by omega) (by unfold maxLen; omega) (Nat.le_refl _) ?_; intro w2 ho2 hb2 hs2)
  rw [made_cells3 n rs HL.out] at ho2
  have HS := Lib.hid hs2
  clear hs2
  go_loopw [4] (fun i wr => ∃ k : Nat, k ≤ n ∧ i = .int .i64 k ∧ Own wr w.heap.size 169 3 (some ⟨w.heap.size, 0, none⟩) n n (cells3 (copied3 rs k)) ∧ Below w.heap.size w wr) (fun i _ => n - (intOf i).toNat)
  case atStart => exact ⟨0, by omega, rfl, ho2, hb2⟩
  case round =>
    obtain ⟨k, hk, rfl, ho, hb⟩ := hrel
    by_cases hlt : k < n
    · obtain ⟨r, b, off, hr, _, rfl, hbl, q0, q1, q2⟩ := (hx.below hb).pick hlt
      go_wp2_with fail
      refine (toRule_any _ _ _ _).mono ?_
      rintro e w3 ⟨rfl, hb3⟩
      have ho3 := ho.below hb3
      have hll : n * 3 ≤ (cells3 (copied3 rs k)).length := by rw [length_cells3, length_copied3 _ _ (by omega)]; omega
      obtain ⟨b0, off0, he, hlo, hlt0, hc0, hf0⟩ := ho3.at_ (k := k * 3) (by omega)
      obtain ⟨b1, off1, he1, _, _, hc1, hf1⟩ := ho3.at_ (k := k * 3 + 1) (by omega)
      obtain ⟨b2, off2, he2, _, _, hc2, hf2⟩ := ho3.at_ (k := k * 3 + 2) (by omega)
      simp only [Option.some.injEq, Addr.mk.injEq, and_true] at he he1 he2
      obtain ⟨rfl, rfl⟩ := he
      obtain ⟨rfl, rfl⟩ := he1
      obtain ⟨rfl, rfl⟩ := he2
      have ho4 := ((ho3.set_ (k := k * 3) (by omega) (.int .i64 r.a)).set_ (k := k * 3 + 1) (by rw [List.length_set]; omega) (.int .i64 r.b)).set_ (k := k * 3 + 2) (by rw [List.length_set, List.length_set]; omega) (.int .i64 r.c)
      rw [cells3_set _ _ r (by rw [length_copied3 _ _ (by omega)]; omega), copied3_next _ _ _ hr.out] at ho4
      simp only [Nat.zero_add] at hc0 hc1 hc2 hf0 hf1 hf2 ho4
      have hb4 := (((hb.trans (hb3.mono hb.size)).setCell (p := ⟨w.heap.size, k * 3, none⟩) (Nat.le_refl _) (.int .i64 r.a)).setCell (p := ⟨w.heap.size, k * 3 + 1, none⟩) (Nat.le_refl _) (.int .i64 r.b)).setCell (p := ⟨w.heap.size, k * 3 + 2, none⟩) (Nat.le_refl _) (.int .i64 r.c)
      clear q0 q1 q2
      go_wp2_with fail
      exact ⟨⟨k + 1, by omega, by go_num, ho4, hb4⟩, by simp [intOf]; omega⟩
    · go_wp2
      go_ret
      have hoo := ho
      rw [copied3_end rs (by omega)] at hoo
      exact ⟨_, rfl, hoo, hb⟩

set_option maxHeartbeats 1000000 in
theorem eqR (A B : Option Addr) (n m c d : Nat) (xs ys : List R3) (w : World) (hx : S3 w A n xs) (hy : S3 w B m ys) (hn : n ≤ 9223372036854775807) :
    Calls Try.prog 128 #[.slice A n c, .slice B m d] w fun e w' => e = .returned (.bool (same3 xs ys)) ∧ Below w.heap.size w w' := by
  by_cases hnm : n = m
  · subst hnm
    go_enter Try.func128, Try.ntmps128
    go_wp2
    go_loopw [5] (fun i wr => ∃ k : Nat, k ≤ n ∧ i = .int .i64 k ∧ Hid (xs.take k = ys.take k) ∧ Below w.heap.size w wr) (fun i _ => n - (intOf i).toNat)
    case atStart => exact ⟨0, by omega, rfl, rfl, Below.refl _ _⟩
    case round =>
      obtain ⟨k, hk, rfl, he, hb⟩ := hrel
      by_cases hlt : k < n
      · obtain ⟨x, b, off, hX, _, rfl, hbl, q0, q1, q2⟩ := (hx.below hb).pick hlt
        obtain ⟨y, b', off', hY, _, rfl, hbl', q0', q1', q2'⟩ := (hy.below hb).pick hlt
        go_upto_region 6 with fail
        go_cut [26] (fun s26 wx => s26 = .bool (!sameR x y) ∧ Below w.heap.size w wx)
        case first =>
          go_region_held3 (fun w' => w'.cell? ⟨b, off + k * 3, none⟩ = some (.int .i64 x.a) ∧ w'.cell? ⟨b, off + k * 3 + 1, none⟩ = some (.int .i64 x.b) ∧ w'.cell? ⟨b, off + k * 3 + 2, none⟩ = some (.int .i64 x.c) ∧
              w'.cell? ⟨b', off' + k * 3, none⟩ = some (.int .i64 y.a) ∧ w'.cell? ⟨b', off' + k * 3 + 1, none⟩ = some (.int .i64 y.b) ∧ w'.cell? ⟨b', off' + k * 3 + 2, none⟩ = some (.int .i64 y.c))
            (first
              | (go_keep; done)
              | (exact ⟨(hb2.cell (p := ⟨b, off + k * 3, none⟩) hbl).trans q0, (hb2.cell (p := ⟨b, off + k * 3 + 1, none⟩) hbl).trans q1, (hb2.cell (p := ⟨b, off + k * 3 + 2, none⟩) hbl).trans q2, (hb2.cell (p := ⟨b', off' + k * 3, none⟩) hbl').trans q0', (hb2.cell (p := ⟨b', off' + k * 3 + 1, none⟩) hbl').trans q1', (hb2.cell (p := ⟨b', off' + k * 3 + 2, none⟩) hbl').trans q2'⟩))
            (first
              | (go_at_call 172; refine (eqRule_any _ _ _ _ _ _ _).mono ?_; rintro e w2 ⟨rfl, hb2'⟩; have hb2 : Below wr.heap.size wr w2 := below_undrew hb2'))
          go_wp2_with fail
          go_meet
          exact ⟨rfl, hb.trans (hb2.mono hb.size)⟩
        case rest =>
          obtain ⟨rfl, hb3⟩ := hcut
          clear q0 q1 q2 q0' q1' q2'
          go_wp2_with fail
          · go_ret
            exact ⟨ret_bool (same3_ne hX.out hY.out (by assumption)), hb3⟩
          · exact ⟨⟨k + 1, by omega, by go_num, same3_next hX.out hY.out he.out (by assumption), hb3⟩, by simp [intOf]; omega⟩
      · go_wp2
        go_ret
        exact ⟨ret_bool (same3_eq (by omega) hx.len hy.len he.out), hb⟩
  · have hne : ((n : Int) != (m : Int)) = true := by simp; omega
    go_enter Try.func128, Try.ntmps128
    go_wp2
    go_ret
    exact ⟨ret_bool (same3_len hnm hx.len hy.len), Below.refl _ _⟩

set_option maxHeartbeats 1000000 in
theorem markR_m (T : List TypeId) (A : Option Addr) (n c : Nat) (m : Int) (w : World) (lo hi : Nat) (hx : Mk w lo hi 169 3 A n) (hT : 169 ∈ T) (h0 : 0 ≤ m) (h1 : m + n * 3 ≤ 9223372036854775807) :
    Calls Try.prog 129 #[.slice A n c, .int .i64 m] w (MarkP T w lo hi (n * 3) m) := by
  have HT := Lib.hid hT
  clear hT
  go_enter Try.func129, Try.ntmps129
  go_wp2
  go_loopw [1, 5] (fun q i wr => ∃ k : Nat, k ≤ n ∧ i = .int .i64 k ∧ q = .int .i64 (m + k * 3) ∧ Mk wr lo hi 169 3 A n ∧ MkF T lo hi w wr) (fun _ i _ => n - (intOf i).toNat)
  case atStart => exact ⟨0, by omega, rfl, by simp, hx, MkF.refl _ _ _ _⟩
  case round =>
    obtain ⟨k, hk, rfl, rfl, ho, ht⟩ := hrel
    by_cases hlt : k < n
    · obtain ⟨b, off, cur, v, rfl, hlo, hhi, hg, hc, hf⟩ := ho.at_ (k := k * 3) (by omega)
      obtain ⟨b1, off1, _, v1, he1, _, _, _, hc1, hf1⟩ := ho.at_ (k := k * 3 + 1) (by omega)
      obtain ⟨b2, off2, _, v2, he2, _, _, _, hc2, hf2⟩ := ho.at_ (k := k * 3 + 2) (by omega)
      simp only [Option.some.injEq, Addr.mk.injEq, and_true] at he1 he2
      obtain ⟨rfl, rfl⟩ := he1
      obtain ⟨rfl, rfl⟩ := he2
      have f1 := (MkF.refl T lo hi wr).setCell (i := off + k * 3) hg HT.out hlo hhi (.int .i64 (m + k * 3))
      have g1 := heap_setCell_same wr b (off + k * 3) cur _ (.int .i64 (m + k * 3)) hg
      have f2 := f1.setCell (i := off + k * 3 + 1) g1 HT.out hlo hhi (.int .i64 (m + k * 3 + 1))
      have g2 := heap_setCell_same _ b (off + k * 3 + 1) _ _ (.int .i64 (m + k * 3 + 1)) g1
      have f3 := f2.setCell (i := off + k * 3 + 2) g2 HT.out hlo hhi (.int .i64 (m + k * 3 + 1 + 1))
      have HG := Lib.hid hg
      clear hg g1 g2 f1 f2
      rw [← Nat.add_assoc] at hc1 hf1 hc2 hf2
      have i1 : m + (k : Int) * 3 + 1 ≤ 9223372036854775806 := by omega
      go_wp2
      exact ⟨⟨k + 1, by omega, by go_num, by go_num, ho.mkf f3, ht.trans f3⟩, by simp [intOf]; omega⟩
    · go_wp2
      go_ret
      obtain rfl : k = n := by omega
      exact ⟨ret_int (by omega), ht⟩
end Go.Proofs.Ythipbeggaeogcaa

/-
  What the size helpers of the laws come to, in one form.
-/
namespace Go.Proofs.Ythipbeggaeogcaa
open Go.RowKit
def SzP (w : World) (left tot : Int) (e : Ending) (w' : World) : Prop := ∃ z : Int, e = .returned (.int .i64 z) ∧ -1 ≤ z ∧ z ≤ left ∧ (0 ≤ z → z = left - tot) ∧ Below w.heap.size w w'
theorem szF_p {left : Int} {n : Nat} (h0 : 0 ≤ left) : -1 ≤ szF left n ∧ szF left n ≤ left ∧ (0 ≤ szF left n → szF left n = left - n) := by
  unfold szF; split <;> omega
theorem szI_p (A : Option Addr) (n c : Nat) (left : Int) (w : World) (hn : n ≤ 9223372036854775807) (h0 : 0 ≤ left) (h1 : left ≤ 1048576) :
    Calls Try.prog 71 #[.slice A n c, .int .i64 left] w (SzP w left n) :=
  (szI A n c left w hn h0 h1).mono fun _e _w' ⟨he, hw⟩ => ⟨_, he, (szF_p h0).1, (szF_p h0).2.1, (szF_p h0).2.2, hw ▸ Below.refl _ _⟩
theorem szR_p (A : Option Addr) (n c : Nat) (left : Int) (w : World) (hn : n ≤ 9223372036854775807) (h0 : 0 ≤ left) (h1 : left ≤ 1048576) : Calls Try.prog 116 #[.slice A n c, .int .i64 left] w (SzP w left n) := (szR A n c left w hn h0 h1).mono fun _e _w' ⟨he, hw⟩ => ⟨_, he, (szF_p h0).1, (szF_p h0).2.1, (szF_p h0).2.2, hw ▸ Below.refl _ _⟩
end Go.Proofs.Ythipbeggaeogcaa

/-
  What the size helper over [][]int64 comes to, in one form; totals of rows.
-/
namespace Go.Proofs.Ythipbeggaeogcaa
open Go.RowKit
theorem szRows_tot : ∀ (rows : List Nat) (left : Int), 0 ≤ left → -1 ≤ szRows left rows ∧ szRows left rows ≤ left ∧ (0 ≤ szRows left rows → szRows left rows = left - rows.sum)
  | [], left, h => by simp [szRows]; omega
  | n :: r, left, h => by
    rw [szRows]
    split
    · omega
    · rename_i hn
      have h2 := szRows_tot r (left - n) (by omega)
      simp only [List.sum_cons]
      omega
theorem szII_p (A : Option Addr) (n c : Nat) (ts : List Sl) (left : Int) (w : World) (hx : SII w A n ts) (hn : n ≤ 9223372036854775807) (hns : ∀ t ∈ ts, t.xs.length ≤ 9223372036854775807) (h0 : 0 ≤ left) (h1 : left ≤ 1048576) :
    Calls Try.prog 70 #[.slice A n c, .int .i64 left] w (SzP w left ((n + total ts : Nat) : Int)) :=
  (szII A n c ts left w hx hn hns h0 h1).mono fun _e _w' ⟨he, hw⟩ => by
    have h2 := szRows_tot (n :: ts.map (fun t => t.xs.length)) left h0
    have h3 : (n :: ts.map (fun t => t.xs.length)).sum = n + total ts := by simp [total]
    rw [h3] at h2
    exact ⟨_, he, h2.1, h2.2.1, h2.2.2, hw ▸ Below.refl _ _⟩
theorem row_total {ts : List Sl} {t : Sl} (h : t ∈ ts) : t.xs.length ≤ total ts := by
  unfold total
  obtain ⟨a, b, rfl⟩ := List.append_of_mem h
  simp; omega
theorem total_of_nums (ts : List Sl) : total ts = ((nums ts).map List.length).sum := by simp [total, nums, Function.comp_def]
theorem total_same {ts us : List Sl} (h : nums us = nums ts) : total us = total ts := by rw [total_of_nums, total_of_nums, h]
theorem rows_le {ts us : List Sl} (h : nums us = nums ts) {b : Nat} (hb : ∀ t ∈ ts, t.xs.length ≤ b) : ∀ u ∈ us, u.xs.length ≤ b := by
  intro u hu
  have h1 : u.xs ∈ nums us := List.mem_map.2 ⟨u, hu, rfl⟩
  rw [h] at h1
  obtain ⟨t, ht, e⟩ := List.mem_map.1 h1
  rw [← e]; exact hb t ht
end Go.Proofs.Ythipbeggaeogcaa

/-
  Words that the laws' walks share: a box that a region made, contracts of the helpers in one form.
-/
namespace Go.Proofs.Ythipbeggaeogcaa
open Go.RowKit

theorem Own.asI {w : World} {lo n c : Nat} {e : TypeId} {A : Option Addr} {xs : List Int} (h : Own w lo e 1 A n c (ints xs)) : SI w A n xs := h.rd
theorem Own.as3 {w : World} {lo n c : Nat} {e : TypeId} {A : Option Addr} {xs : List R3} (h : Own w lo e 3 A n c (cells3 xs)) : S3 w A n xs := h.rd
/-- A block from lo on that is known whole. -/
def Bx (lo : Nat) (t : TypeId) (cs : Array Value) (g : Nat) (w : World) : Prop := lo ≤ g ∧ Blk w g t cs
theorem Bx.new {lo : Nat} (w : World) (t : TypeId) (cs : Array Value) (h : lo ≤ w.heap.size) : Bx lo t cs w.heap.size (w.alloc (.cells cs t)) := ⟨h, Blk.new w t cs⟩
theorem Bx.below' {lo g : Nat} {t : TypeId} {cs : Array Value} {w w' : World} (h : Bx lo t cs g w) (z : Below w.heap.size w w') : Bx lo t cs g w' := ⟨h.1, h.2.below' z⟩
theorem Bx.drewN {lo g : Nat} {t : TypeId} {cs : Array Value} {w : World} (h : Bx lo t cs g w) (n : Nat) : Bx lo t cs g (w.drewN n) := ⟨h.1, h.2.drewN n⟩
theorem below_of_alloc {w w' : World} {o : Obj} (h : Below (w.alloc o).heap.size (w.alloc o) w') : Below w.heap.size w w' :=
  ((Below.refl _ _).alloc (Nat.le_refl _) o).trans (h.mono (by simp))
theorem eqI_b (A B : Option Addr) (n m c d : Nat) (xs ys : List Int) (w : World) (hx : SI w A n xs) (hy : SI w B m ys) (hn : n ≤ 9223372036854775807) :
    Calls Try.prog 35 #[.slice A n c, .slice B m d] w fun e w' => e = .returned (.bool (sameI xs ys)) ∧ Below w.heap.size w w' :=
  (eqI A B n m c d xs ys w hx hy hn).mono fun _ _ ⟨he, q, hq⟩ => ⟨he, hq ▸ below_drewN (Below.refl _ _) q⟩
theorem heldI_b (A : Option Addr) (n c : Nat) (xs : List Int) (m : Int) (w : World) (hx : SI w A n xs) (h0 : 0 ≤ m) (h1 : m + n ≤ 9223372036854775807) : Calls Try.prog 39 #[.slice A n c, .int .i64 m] w fun e w' => e = .returned (.int .i64 (heldF m xs)) ∧ Below w.heap.size w w' := (heldI A n c xs m w hx h0 h1).mono fun _ _ ⟨he, hq⟩ => ⟨he, hq ▸ Below.refl _ _⟩
theorem sameII_self (xs : List (List Int)) : sameII xs xs = true := by simp [sameII]
theorem eqII_b (A B : Option Addr) (n m c d : Nat) (ts us : List Sl) (w : World) (hx : SII w A n ts) (hy : SII w B m us) (hn : n ≤ 9223372036854775807) (hns : ∀ t ∈ ts, t.xs.length ≤ 9223372036854775807) : Calls Try.prog 67 #[.slice A n c, .slice B m d] w fun e w' => e = .returned (.bool (sameII (nums ts) (nums us))) ∧ Below w.heap.size w w' := (eqII A B n m c d ts us w hx hy hn hns).mono fun _ _ ⟨he, q, hq⟩ => ⟨he, hq ▸ below_drewN (Below.refl _ _) q⟩
end Go.Proofs.Ythipbeggaeogcaa

/-
  Marks that are read again, for [][]int64; owned rows behind other marks.
-/
namespace Go.Proofs.Ythipbeggaeogcaa
open Go.RowKit

theorem OII.blk_ge {w : World} {lo : Nat} {e2 e1 : TypeId} {A : Option Addr} {n c : Nat} {ts : List Sl} (h : OII w lo e2 e1 A n c ts) : ∀ b, blk A = some b → lo ≤ b := h.1.blk_ge
theorem OII.mono {w : World} {lo lo' : Nat} {e2 e1 : TypeId} {A : Option Addr} {n c : Nat} {ts : List Sl} (h : OII w lo e2 e1 A n c ts) (hl : lo' ≤ lo) : OII w lo' e2 e1 A n c ts := ⟨h.1.mono hl, fun t ht => (h.2.1 t ht).mono hl, h.2.2⟩
theorem OII.alloc {w : World} {lo : Nat} {e2 e1 : TypeId} {A : Option Addr} {n c : Nat} {ts : List Sl} (h : OII w lo e2 e1 A n c ts) (o : Obj) : OII (w.alloc o) lo e2 e1 A n c ts := ⟨h.1.alloc o, fun t ht => (h.2.1 t ht).alloc o, h.2.2⟩
theorem OII.mkf_far {T : List TypeId} {w w' : World} {l hh lo : Nat} {e2 e1 : TypeId} {A : Option Addr} {n c : Nat} {ts : List Sl} (h : OII w lo e2 e1 A n c ts) (hf : MkF T l hh w w') (hd : ∀ b, lo ≤ b → b < l ∨ hh ≤ b) : OII w' lo e2 e1 A n c ts :=
  ⟨h.1.mkf_far hf (fun b hb => hd b (h.1.blk_ge b hb)), fun t ht => (h.2.1 t ht).mkf_far hf (fun b hb => hd b ((h.2.1 t ht).blk_ge b hb)), h.2.2⟩
theorem OII.mkf_below {T : List TypeId} {w0 w w' : World} {l hh lo : Nat} {e2 e1 : TypeId} {A : Option Addr} {n c : Nat} {ts : List Sl} (h0 : OII w0 lo e2 e1 A n c ts) (hl : w0.heap.size ≤ l) (h : OII w lo e2 e1 A n c ts) (hf : MkF T l hh w w') : OII w' lo e2 e1 A n c ts :=
  ⟨h.1.mkf_far hf (fun b hb => .inl (by have := h0.1.blk_lt b hb; omega)), fun t ht => (h.2.1 t ht).mkf_far hf (fun b hb => .inl (by have := (h0.2.1 t ht).blk_lt b hb; omega)), h.2.2⟩
theorem OII.touch_below {w0 w w' : World} {l hh lo : Nat} {e2 e1 : TypeId} {A : Option Addr} {n c : Nat} {ts : List Sl} (h0 : OII w0 lo e2 e1 A n c ts) (hl : w0.heap.size ≤ l) (h : OII w lo e2 e1 A n c ts) (ht : Tch l hh w w') : OII w' lo e2 e1 A n c ts :=
  ⟨h.1.touch ht (fun b hb => .inl (by have := h0.1.blk_lt b hb; omega)), fun t htm => (h.2.1 t htm).touch ht (fun b hb => .inl (by have := (h0.2.1 t htm).blk_lt b hb; omega)), h.2.2⟩

def offs (us : List Sl) (k : Nat) : Nat := total (us.take k)
theorem offs_zero (us : List Sl) : offs us 0 = 0 := by simp [offs, total]
theorem offs_next {us : List Sl} {t : Sl} {k : Nat} (hT : us[k]? = some t) : offs us (k + 1) = offs us k + t.xs.length := total_take hT
theorem offs_le (us : List Sl) (k : Nat) : offs us k ≤ total us := total_take_le us k
theorem offs_end {us : List Sl} {k : Nat} (h : us.length ≤ k) : offs us k = total us := by unfold offs; rw [List.take_of_length_le h]
/-- The rows hold marks that run on from row to row. -/
def MarkedII (w : World) (A : Option Addr) (n : Nat) (us : List Sl) (p : Int) : Prop := Rd w 1 A n (us.map Sl.val) ∧ ∀ k t, us[k]? = some t → SI w t.A t.xs.length (marks (p + offs us k) t.xs.length)
theorem MarkedII.below {w w' : World} {A : Option Addr} {n : Nat} {us : List Sl} {p : Int} (h : MarkedII w A n us p) (z : Below w.heap.size w w') : MarkedII w' A n us p := ⟨h.1.below z, fun k t ht => (h.2 k t ht).below z⟩
def MarkII (w : World) (lo hi : Nat) (A : Option Addr) (n : Nat) (us : List Sl) (p : Int) (e : Ending) (w' : World) : Prop := e = .returned (.int .i64 (p + total us)) ∧ MarkedII w' A n us p ∧ Tch lo hi w w'
/-- What holds behind the first k rows. -/
def MarkTo (w : World) (lo hi : Nat) (A : Option Addr) (n c : Nat) (us : List Sl) (p : Int) (k : Nat) (wr : World) : Prop :=
  Own wr lo 25 1 A n c (us.map Sl.val) ∧ (∀ j t, us[j]? = some t → j < k → SI wr t.A t.xs.length (marks (p + offs us j) t.xs.length)) ∧ (∀ j t, us[j]? = some t → k ≤ j → Own wr lo 2 1 t.A t.xs.length t.c (ints t.xs)) ∧ Tch lo hi w wr
theorem apt_of {us : List Sl} (h : us.Pairwise Apt) {i j : Nat} {t u : Sl} (hi : us[i]? = some t) (hj : us[j]? = some u) (hne : i ≠ j) : ∀ b, blk t.A = some b → blk u.A ≠ some b := by
  obtain ⟨hi1, rfl⟩ := List.getElem?_eq_some_iff.1 hi
  obtain ⟨hj1, rfl⟩ := List.getElem?_eq_some_iff.1 hj
  rw [List.pairwise_iff_getElem] at h
  rcases Nat.lt_or_gt_of_ne hne with hlt | hlt
  · exact h i j hi1 hj1 hlt
  · intro b h1 h2
    exact h j i hj1 hi1 hlt b h2 h1
theorem MarkTo.step {w wr w' : World} {lo hi : Nat} {A : Option Addr} {n c : Nat} {us : List Sl} {p : Int} {k : Nat} {t : Sl} (h : MarkTo w lo hi A n c us p k wr) (hap : us.Pairwise Apt) (hT : us[k]? = some t) (hne : 2 ≠ 25) (ho : OwnE w' lo 2 t.A t.xs.length t.c (marks (p + offs us k) t.xs.length)) (ht : Tch lo hi wr w') (hs : ∀ b, blk t.A ≠ some b → w'.heap[b]? = wr.heap[b]?) : MarkTo w lo hi A n c us p (k + 1) w' := by
  obtain ⟨h1, h2, h3, h4⟩ := h
  have hrow := h3 k t hT (Nat.le_refl _)
  refine ⟨h1.kept fun b hb _ _ => hs b (fun e => hrow.blk_ne h1 hne b e hb), ?_, ?_, h4.trans ht⟩
  · intro j u hu hj
    by_cases e : j = k
    · subst e
      rw [hT] at hu
      cases hu
      exact ho.si
    · refine Rd.keep (h2 j u hu (by omega)) fun q hq hbq => ?_
      exact World.cell?_of_block (hs q.block (fun e2 => apt_of hap hT hu (Ne.symm e) q.block e2 hbq.symm))
  · intro j u hu hj
    exact (h3 j u hu (by omega)).kept fun b hb _ _ => hs b (fun e2 => apt_of hap hT hu (by omega) b e2 hb)

set_option maxHeartbeats 1000000 in
theorem markII_c (A : Option Addr) (n c : Nat) (us : List Sl) (p : Int) (w : World) (lo hi : Nat) (o : OII w lo 25 2 A n c us) (hh : ∀ t ∈ us, ∀ b, blk t.A = some b → b < hi) (hne : 2 ≠ 25) (hn : n ≤ 1048576) (ht : total us ≤ 1048576) (g0 : 0 ≤ p) (g1 : p ≤ 1000000000) :
    Calls Try.prog 68 #[.slice A n c, .int .i64 p] w (MarkII w lo hi A n us p) := by
  have hl : us.length = n := by have := o.1.1; simp at this; omega
  have HL := Lib.hid hl
  have HO := Lib.hid o
  have HNE := Lib.hid hne
  have HH := Lib.hid hh
  clear hl hne hh
  have hst : MarkTo w lo hi A n c us p 0 w := ⟨o.1, fun j t _ hj => absurd hj (Nat.not_lt_zero j), fun j t hT _ => o.2.1 t (List.mem_of_getElem? hT), Tch.refl _ _ _⟩
  clear o
  go_enter Try.func68, Try.ntmps68
  go_wp2
  go_loopw [1, 5] (fun q i wr => ∃ k : Nat, k ≤ n ∧ i = .int .i64 k ∧ q = .int .i64 (p + offs us k) ∧ MarkTo w lo hi A n c us p k wr) (fun _ i _ => n - (intOf i).toNat)
  case atStart => exact ⟨0, by omega, rfl, by simp [offs_zero], hst⟩
  case round =>
    obtain ⟨k, hk, rfl, rfl, hM⟩ := hrel
    have hof := offs_le us k
    by_cases hlt : k < n
    · have hkl : k < us.length := by have := HL.out; omega
      obtain ⟨t, hT⟩ : ∃ t, us[k]? = some t := ⟨us[k], List.getElem?_eq_getElem hkl⟩
      have hof1 := offs_le us (k + 1)
      have HOF := Lib.hid (offs_next hT)
      have hle : offs us k + t.xs.length ≤ total us := by have := HOF.out; omega
      obtain ⟨b, off, rfl, _, _, hc, _⟩ := hM.1.at_ (k := k) (by simpa using hkl)
      have hcv : wr.cell? ⟨b, off + k, none⟩ = some (.slice t.A t.xs.length t.c) := by rw [hc]; obtain ⟨h, rfl⟩ := List.getElem?_eq_some_iff.1 hT; simp [Sl.val]
      have HT := Lib.hid hT
      have hrow := hM.2.2.1 k t hT (Nat.le_refl _)
      have HBL : Hid (∀ b, blk t.A = some b → b < hi) := fun b hb => HH.out t (List.mem_of_getElem? HT.out) b hb
      clear hc hT hof1
      go_wp2_with fail
      refine (markI _ _ _ t.xs _ _ lo hi (.inr hrow) HBL.out (by omega) (by omega)).mono ?_
      rintro e w3 ⟨rfl, oo, t3, s3⟩
      have hM2 := MarkTo.step hM HO.out.2.2 HT.out HNE.out oo t3 s3
      go_wp2_with fail
      go_roundw
      case rel => exact ⟨k + 1, by omega, by go_num, by rw [HOF.out]; go_num, hM2⟩
      case measure => simp [intOf]; omega
    · have hkn : k = us.length := by have := HL.out; omega
      go_wp2
      go_ret
      refine ⟨ret_int ?_, ⟨hM.1.rd, fun j t hT => hM.2.1 j t hT ?_⟩, hM.2.2.2⟩
      · rw [offs_end (by omega)]
      · have := (List.getElem?_eq_some_iff.1 hT).1; omega

set_option maxHeartbeats 1000000 in
theorem heldII_c (A : Option Addr) (n c : Nat) (us : List Sl) (p : Int) (w : World) (h : MarkedII w A n us p) (hn : n ≤ 1048576) (ht : total us ≤ 1048576) (g0 : 0 ≤ p) (g1 : p ≤ 1000000000) :
    Calls Try.prog 69 #[.slice A n c, .int .i64 p] w fun e w' => e = .returned (.int .i64 (p + total us)) ∧ Below w.heap.size w w' := by
  have hl : us.length = n := by have := h.1.1; simp at this; omega
  have HL := Lib.hid hl
  clear hl
  go_enter Try.func69, Try.ntmps69
  go_wp2
  go_loop [1, 5] (fun q i => ∃ k : Nat, k ≤ n ∧ i = .int .i64 k ∧ q = .int .i64 (p + offs us k)) (fun _ i => n - (intOf i).toNat)
  case atStart => exact ⟨0, by omega, rfl, by simp [offs_zero]⟩
  case round =>
    obtain ⟨k, hk, rfl, rfl⟩ := hrel
    have hof := offs_le us k
    by_cases hlt : k < n
    · have hkl : k < us.length := by have := HL.out; omega
      obtain ⟨t, hT⟩ : ∃ t, us[k]? = some t := ⟨us[k], List.getElem?_eq_getElem hkl⟩
      have hof1 := offs_le us (k + 1)
      have HOF := Lib.hid (offs_next hT)
      have hle : offs us k + t.xs.length ≤ total us := by have := HOF.out; omega
      obtain ⟨b, off, rfl, _, hc⟩ := h.1.at_ (k := k) (by simpa using hkl)
      have hcv : w.cell? ⟨b, off + k, none⟩ = some (.slice t.A t.xs.length t.c) := by rw [hc]; obtain ⟨h, rfl⟩ := List.getElem?_eq_some_iff.1 hT; simp [Sl.val]
      have hrow := h.2 k t hT
      have gneg : ¬ (p + (offs us k : Int) + (t.xs.length : Int) < 0) := by omega
      clear hc hT hof1
      go_wp2_with fail
      refine (heldI _ _ _ (marks (p + offs us k) t.xs.length) _ _ hrow (by omega) (by omega)).mono ?_
      rintro e w3 ⟨rfl, rfl⟩
      rw [heldF_marks]
      go_wp2_with fail
      go_round
      case rel => exact ⟨k + 1, by omega, by go_num, by rw [HOF.out]; go_num⟩
      case measure => simp [intOf]; omega
    · have hkn : k = us.length := by have := HL.out; omega
      go_wp2
      go_ret
      exact ⟨ret_int (by rw [offs_end (by omega)]), Below.refl _ _⟩
theorem total_of {us : List Sl} {M : List (List Int)} {b : Nat} (h : nums us = M) (hl : (M.map List.length).sum ≤ b) : total us ≤ b := by rw [total_of_nums, h]; exact hl
end Go.Proofs.Ythipbeggaeogcaa
