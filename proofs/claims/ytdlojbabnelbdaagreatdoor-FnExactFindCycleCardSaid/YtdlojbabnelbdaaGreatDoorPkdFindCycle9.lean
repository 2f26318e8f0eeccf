/-
  Callers of runner.steps: the state ahead of the first round, and a round that writes into the caller's own blocks.
-/
import Derived.Test.YtdlojbabnelbdaaGreatDoorPkdFindCycle0
import Derived.Test.YtdlojbabnelbdaaGreatDoorPkdFindCycle1
import Derived.Test.YtdlojbabnelbdaaGreatDoorPkdFindCycle5
import Derived.Test.YtdlojbabnelbdaaGreatDoorPkdFindCycle8
import Derived.RegionIn
import Derived.OwnWalkIn
import Derived.Maps.Own
import Derived.Maps.Views
import Derived.OrdersIn
namespace Go.Proofs.YtdlojbabnelbdaaGreatDoor
open Go.RowKit Go.Shelf

/-- The state of the runner, X the caller's blocks. -/
structure StO (p : Rn) (i : Nat) (X : Nat → Prop) (W : World) : Prop where
  ng : ¬ X p.g
  mb : X p.mb
  rb : X p.rb
  xc : XC X W
  run : RunC X W p.w0.heap.size p.g p.sy p.st p.A p.n p.k (p.it i)
  low : Below p.w0.heap.size p.w0 W
  bm : Blk W p.mb 2 #[.int .i64 (p.most : Int)]
  br : Blk W p.rb 47 #[.pointer (some ⟨p.g, 0, none⟩)]
theorem StS.op {p : Rn} {i : Nat} {D : (Nat → Prop) → World → Prop} {W : World} (h : StS p i D W) : ∃ X, StO p i X W ∧ D X W := by
  obtain ⟨X, h1, h2, h3, h4, h5, h6, h7, h8, h9⟩ := h
  exact ⟨X, ⟨h1, h2, h3, h4, h5, h6, h7, h8⟩, h9⟩
theorem StO.st {p : Rn} {i : Nat} {X : Nat → Prop} {D : (Nat → Prop) → World → Prop} {W : World} (h : StO p i X W) (hd : D X W) : StS p i D W := ⟨X, h.ng, h.mb, h.rb, h.xc, h.run, h.low, h.bm, h.br, hd⟩

theorem Own.cells_at {w : World} {lo n c s b : Nat} {e : TypeId} {A : Option Addr} {cs : List Value} (h : Own w lo e s A n c cs) (hb : blk A = some b) : ∃ o : Obj, w.heap[b]? = some o ∧ isBook o = false := by
  rcases h.2 with ⟨rfl, _⟩ | ⟨b', off, cur, rfl, _, hg, _⟩
  · simp [blk] at hb
  · simp [blk] at hb; subst hb; exact ⟨_, hg, rfl⟩
/-- The blocks that a call made, from s on, or that lie below lo, and that hold cells. -/
def XNew (lo s : Nat) (W : World) (b : Nat) : Prop := (b < lo ∨ s ≤ b) ∧ ∃ o : Obj, W.heap[b]? = some o ∧ isBook o = false
theorem XNew.of_blk {lo s b : Nat} {W : World} {t : TypeId} {cs : Array Value} (h : Blk W b t cs) (hb : b < lo ∨ s ≤ b) : XNew lo s W b := ⟨hb, _, h, rfl⟩
theorem XNew.of_own {lo s l n c sz b : Nat} {W : World} {e : TypeId} {A : Option Addr} {cs : List Value} (h : Own W l e sz A n c cs) (hb : blk A = some b) (hl : s ≤ l) : XNew lo s W b := by
  refine ⟨.inr (by have := h.blk_ge b hb; omega), ?_⟩
  rcases h.2 with ⟨rfl, _⟩ | ⟨b', off, cur, rfl, _, hg, _⟩
  · simp [blk] at hb
  · simp [blk] at hb; subst hb; exact ⟨_, hg, rfl⟩
theorem StO.start {p : Rn} {w W : World} {lo : Nat} (hrun : RunC (fun _ => False) w lo p.g p.sy p.st p.A p.n p.k p.c) (hlo : p.w0.heap.size ≤ lo) (hg : lo ≤ p.g) (hz : Below p.w0.heap.size p.w0 W) (z : Below w.heap.size w W)
    (m : Blk W p.mb 2 #[.int .i64 (p.most : Int)]) (r : Blk W p.rb 47 #[.pointer (some ⟨p.g, 0, none⟩)]) (hm : w.heap.size ≤ p.mb) (hr : w.heap.size ≤ p.rb) : StO p 0 (XNew lo w.heap.size W) W := by
  obtain ⟨L, cl, R, d, hra, ol, or_, hap, _, _⟩ := hrun
  have hgw : p.g < w.heap.size := Blk.lt hra
  refine ⟨?_, XNew.of_blk m (.inr hm), XNew.of_blk r (.inr hr), fun b hb => hb.2, ⟨L, cl, R, d, Blk.below' hra z, (ol.below z).mono hlo, (or_.below z).mono hlo, hap, ?_, ?_⟩, hz, m, r⟩
  · rintro ⟨h, _⟩; omega
  · rintro b hb ⟨h, _⟩
    have h1 := ol.blk_lt b hb
    have h2 := ol.blk_ge b hb
    omega
  · rintro b hb ⟨h, _⟩
    have h1 := or_.blk_lt b hb
    have h2 := or_.blk_ge b hb
    omega
/-- Blocks outside Y are as they were. -/
structure Keep (Y : Nat → Prop) (W W' : World) : Prop where
  os : W'.os = W.os
  tape : W'.tape = W.tape
  output : W'.output = W.output
  size : W.heap.size ≤ W'.heap.size
  block : ∀ b, b < W.heap.size → ¬ Y b → W'.heap[b]? = W.heap[b]?
section
variable {Y : Nat → Prop} {a W W' : World}
theorem Keep.refl (Y : Nat → Prop) (W : World) : Keep Y W W := ⟨rfl, rfl, rfl, Nat.le_refl _, fun _ _ _ => rfl⟩
theorem Keep.drewN (h : Keep Y a W) (n : Nat) : Keep Y a (W.drewN n) := ⟨h.os, h.tape, h.output, h.size, h.block⟩
theorem Keep.below (h : Keep Y a W) (z : Below W.heap.size W W') : Keep Y a W' := ⟨z.os.trans h.os, z.tape.trans h.tape, z.output.trans h.output, Nat.le_trans h.size z.size, fun b hb hy => (z.block b (by have := h.size; omega)).trans (h.block b hb hy)⟩
theorem Keep.set (h : Keep Y a W) {b o : Nat} (hb : Y b) (u : Value) : Keep Y a (W.setCell ⟨b, o, none⟩ u) :=
  ⟨h.os, h.tape, h.output, by simpa [World.setCell] using h.size, fun k hk hy => (Below.heap_setCell W ⟨b, o, none⟩ u k (fun e => hy (by rw [e]; exact hb))).trans (h.block k hk hy)⟩
theorem Keep.alloc (h : Keep Y a W) (o : Obj) : Keep Y a (W.alloc o) := ⟨h.os, h.tape, h.output, Nat.le_trans h.size (by simp), fun k hk hy => (Below.heap_alloc W o k (by have := h.size; omega)).trans (h.block k hk hy)⟩
theorem Keep.grown {row : Option Nat} (h : Keep Y a W) (hg : W.grownBy W' row) (hr : ∀ b, row = some b → Y b) : Keep Y a W' :=
  ⟨hg.os.trans h.os, hg.tape.trans h.tape, hg.output.trans h.output, Nat.le_trans h.size hg.size, fun k hk hy => (hg.block k (by have := h.size; omega) (fun e => hy (hr k e.symm))).trans (h.block k hk hy)⟩
end
/-- The blocks of X, and new blocks with cells. -/
def XMore (X : Nat → Prop) (s : Nat) (W : World) (b : Nat) : Prop := X b ∨ (s ≤ b ∧ ∃ o : Obj, W.heap[b]? = some o ∧ isBook o = false)
theorem XMore.of_blk {X : Nat → Prop} {s b : Nat} {W : World} {t : TypeId} {cs : Array Value} (h : Blk W b t cs) (hb : s ≤ b) : XMore X s W b := .inr ⟨hb, _, h, rfl⟩
theorem XMore.of_own {X : Nat → Prop} {s n c sz l b : Nat} {W : World} {e : TypeId} {A : Option Addr} {cs : List Value} (h : Own W l e sz A n c cs) (hb : blk A = some b) (hs : X b ∨ s ≤ b) : XMore X s W b := by
  rcases hs with hs | hs
  · exact .inl hs
  · rcases h.2 with ⟨rfl, _⟩ | ⟨b', off, cur, rfl, _, hg, _⟩
    · simp [blk] at hb
    · simp [blk] at hb; subst hb; exact .inr ⟨hs, _, hg, rfl⟩
theorem StO.turn {p : Rn} {i : Nat} {X Y : Nat → Prop} {W W' : World} (h : StO p i X W) (k : Keep Y W W') (hY : ∀ b, Y b → X b ∧ b ≠ p.mb ∧ b ≠ p.rb ∧ p.w0.heap.size ≤ b) (hc : ∀ b, Y b → ∃ o : Obj, W'.heap[b]? = some o ∧ isBook o = false) :
    StO p i (XMore X W.heap.size W') W' ∧ KeepsBook W W' := by
  obtain ⟨ng, mb, rb, xc, ⟨L, cl, R, d, hra, ol, or_, hap, hXl, hXr⟩, low, bm, br⟩ := h
  have hgl : p.g < W.heap.size := Blk.lt hra
  have own : ∀ {A : Option Addr} {n c : Nat} {cs : List Value}, Own W p.w0.heap.size 2 1 A n c cs → (∀ b, blk A = some b → ¬ X b) → Own W' p.w0.heap.size 2 1 A n c cs := fun ho hx => ho.kept fun b hb _ hlt => k.block b hlt (fun hy => hx b hb (hY b hy).1)
  refine ⟨⟨?_, .inl mb, .inl rb, ?_, ⟨L, cl, R, d, (k.block p.g hgl (fun hy => ng (hY _ hy).1)).trans hra, own ol hXl, own or_ hXr, hap, ?_, ?_⟩, ?_, (k.block _ bm.lt (fun hy => (hY _ hy).2.1 rfl)).trans bm, (k.block _ br.lt (fun hy => (hY _ hy).2.2.1 rfl)).trans br⟩, ⟨k.size, ?_⟩⟩
  · rintro (h | ⟨h, _⟩)
    · exact ng h
    · omega
  · rintro b (hb | ⟨_, hb⟩)
    · by_cases hy : Y b
      · exact hc b hy
      · obtain ⟨o, ho, hcl⟩ := xc b hb
        exact ⟨o, (k.block b (Array.getElem?_eq_some_iff.1 ho).1 hy).trans ho, hcl⟩
    · exact hb
  · rintro b hb (h | ⟨h, _⟩)
    · exact hXl b hb h
    · have := ol.blk_lt b hb; omega
  · rintro b hb (h | ⟨h, _⟩)
    · exact hXr b hb h
    · have := or_.blk_lt b hb; omega
  · exact ⟨k.os.trans low.os, k.tape.trans low.tape, k.output.trans low.output, Nat.le_trans low.size k.size, fun b hb => (k.block b (by have := low.size; omega) (fun hy => by have := (hY b hy).2.2.2; omega)).trans (low.block b hb)⟩
  · intro b o hb ho
    by_cases hy : Y b
    · obtain ⟨o2, ho2, hc2⟩ := xc b (hY b hy).1
      rw [hb] at ho2; cases ho2; rw [ho] at hc2; cases hc2
    · exact (k.block b (Array.getElem?_eq_some_iff.1 hb).1 hy).trans hb
theorem Recs.put {W : World} {l lo n c s : Nat} {e : TypeId} {A : Option Addr} {cs : List Value} {rows : List Rw} {o : Obj} (h : Recs W lo e s A n c cs rows) (o' : Obj) (hl : W.heap[l]? = some o) (ho : isBook o = true) : Recs (W.putObj l o') lo e s A n c cs rows :=
  ⟨h.spine.put o' hl ho, fun r hr => Own.put (h.each r hr) o' hl ho, h.apt, h.types⟩
/-- An append inside a fence. -/
theorem wpIn_append_Own {F : Fence} {n0 : Nat} {P : Program} {t e : TypeId} {s bytes : Nat} {z : Value} {o : Oper} {a : Act} {K : Act → World → Prop} {Q : Exit → Act → World → Prop} (sl x : Operand) (ho : o.op = .call { callee := .builtin .append, args := #[sl, x], argTypes := #[t, t] })
    (E : Elem P t e s bytes z) {w : World} {lo : Nat} {A : Option Addr} {n c : Nat} {xs : List Value} (hs : a.eval sl = .slice A n c) (h : Own w lo e s A n c xs)
    {A' : Option Addr} {m c' : Nat} {news : List Value} (hx : a.eval x = .slice A' m c') (hr : Rd w s A' m news) (h1 : ∀ u ∈ news, u.oneCell' = true) (hb : (n + m) * bytes ≤ 140737488355328) (hm : n + m ≤ maxLen) (hlo : lo ≤ w.heap.size)
    (hK : ∀ A2 c2 w2, Own w2 lo e s A2 (n + m) c2 (xs ++ news) → w.grownBy w2 (blk A) → (blk A2 = blk A ∨ blk A2 = some w.heap.size) ∧ Own w2 lo e s A n c xs → K (a.put o.dst (.slice A2 (n + m) c2)) w2) : o.wpIn F n0 P a w K Q := by
  obtain ⟨A2, c2, w2, hrun, h2, h3, h4⟩ := run_append_Own E w o.type h hr (c' := c') h1 hb hm hlo
  unfold Oper.wpIn
  refine ⟨?_, ?_⟩
  · simp [Oper.about, ho, resolve, Target.leads, Sem.run_pure]
  · rw [Oper.semAt_plain F _ _ (by rw [ho]; intro c hc'; cases hc')]
    simp [execOp, ho, resolve, invoke, builtin, hs, hx, hrun, Result.andThen]
    exact hK A2 c2 w2 h2 h3 h4
end Go.Proofs.YtdlojbabnelbdaaGreatDoor

/-
  A map from texts to numbers that the call makes; firstAgain.
-/
namespace Go.Proofs.YtdlojbabnelbdaaGreatDoor
open Go.RowKit Go.Maps

theorem strKeyed' : Keyed Tryz.prog 9 := string_keyed Tryz.underlying9
def fD (o : Option Int) (z : DataW Unit) : DataW Unit := match o with
  | some a => .lit (.int .i64 a)
  | none => z
/-- Block b is a map of at most n entries; it holds what f says. -/
def StrMap (W : World) (b n : Nat) (f : ByteArray → Option Int) : Prop :=
  ∃ D : DataW Unit, W.ownsMap Tryz.prog 9 (plainElem Tryz.prog 2) b n D ∧ IsMap D ∧ ∀ s : ByteArray, s.size ≤ maxLen → ∀ z, D.atKey (.string s.data.toList) z = fD (f s) z
theorem StrMap.new (w : World) : StrMap (w.alloc (.map #[] 0)) w.heap.size 0 (fun _ => none) :=
  ⟨.map [], World.ownsMap_made _ _ _ _, ⟨[], rfl⟩, fun _ _ _ => rfl⟩
theorem StrMap.lt {W : World} {b n : Nat} {f : ByteArray → Option Int} (h : StrMap W b n f) : b < W.heap.size := by
  obtain ⟨D, ho, _⟩ := h
  exact ho.lt
theorem StrMap.keep {W W' : World} {b n : Nat} {f : ByteArray → Option Int} (h : StrMap W b n f) (hk : W'.heap[b]? = W.heap[b]?) : StrMap W' b n f := by
  obtain ⟨D, ⟨es, clock, hb, F, hs, hD⟩, hM, hm⟩ := h
  exact ⟨D, ⟨es, clock, hk.trans hb, F, hs, hD⟩, hM, hm⟩
theorem StrMap.congr {W : World} {b n : Nat} {f g : ByteArray → Option Int} (h : StrMap W b n f) (e : ∀ s, f s = g s) : StrMap W b n g := by
  obtain ⟨D, h1, h2, h3⟩ := h
  exact ⟨D, h1, h2, fun s hs z => by rw [h3 s hs z, e s]⟩
theorem StrMap.mono {W : World} {b n n' : Nat} {f : ByteArray → Option Int} (h : StrMap W b n f) (hn : n ≤ n') : StrMap W b n' f := by
  obtain ⟨D, h1, h2, h3⟩ := h
  exact ⟨D, h1.mono hn, h2, h3⟩
def lookV (o : Option Int) : Value := match o with
  | some a => .tuple #[.int .i64 a, .bool true]
  | none => .tuple #[.int .i64 0, .bool false]
set_option maxRecDepth 100000 in
theorem StrMap.look {W : World} {b n : Nat} {f : ByteArray → Option Int} (h : StrMap W b n f) (s : ByteArray) (hs : s.size ≤ maxLen) :
    (Instr.lookup 49 (.map (some b)) (.string s) true).run Tryz.prog W = .ok (lookV (f s)) W := by
  obtain ⟨D, ⟨es, clock, hb, F, hc, rfl⟩, _, hm⟩ := h
  have hz : (zeroValue 2).run Tryz.prog W = .ok (.int .i64 0) W := by kernel_rfl
  have hm' := hm s hs
  rcases Maps.fit_look true strKeyed' Tryz.underlying49 hz hb F (WideMaps.keyOf_string_mk Tryz.underlying9 hs) with ⟨hrun, _, hat⟩ | ⟨e0, y, _, _, hrun, hRv, hat, _⟩
  · have e : f s = none := by
      cases hf : f s with
      | none => rfl
      | some a =>
        have h1 := (hat .nil).symm.trans (hm' .nil)
        rw [hf] at h1
        cases h1
    rw [hrun, e]; rfl
  · obtain ⟨a, ha, rfl, _⟩ := plainElem_int_inv Tryz.underlying2 hRv
    have e : f s = some a := by
      have h1 := (hat .nil).symm.trans (hm' .nil)
      cases hf : f s with
      | none => rw [hf] at h1; cases h1
      | some a' =>
        rw [hf] at h1
        simp only [fD] at h1
        cases h1
        rfl
    rw [hrun, e, ha]; rfl
theorem StrMap.put {W : World} {b n : Nat} {f : ByteArray → Option Int} (h : StrMap W b n f) (hn : n < maxLen) (s : ByteArray) (hs : s.size ≤ maxLen) (a : Int) (ha : (Lit.int .i64 a).wf = true) :
    ∃ w', (Instr.mapUpdate 49 (.map (some b)) (.string s) (.int .i64 a)).run Tryz.prog W = .ok () w' ∧ StrMap w' b (n + 1) (fun t => if t = s then some a else f t) ∧ W.grownBy w' (some b) := by
  obtain ⟨D, ho, hM, hm⟩ := h
  obtain ⟨w', hrun, ho', hg⟩ := ho.update strKeyed' Tryz.underlying49 hn (WideMaps.keyOf_string_mk Tryz.underlying9 hs) (plainElem_int Tryz.underlying2 ha)
  refine ⟨w', hrun, ⟨_, ho', ?_, fun t ht z => ?_⟩, hg⟩
  · obtain ⟨es, rfl⟩ := hM; exact ⟨_, rfl⟩
  · by_cases e : t = s
    · subst e
      rw [atKey_put_same (k := .string t.data.toList) hM (by trivial)]; simp [fD]
    · rw [atKey_put_other (fun h => e (by
        apply ByteArray.ext; apply Array.toList_inj.1
        simpa using h)), hm t ht]
      simp [e]
theorem int_wf {a : Int} (h0 : 0 ≤ a) (h1 : a ≤ 1000000000) : (Lit.int .i64 a).wf = true := by
  have e1 : IntKind.min .i64 = -9223372036854775808 := rfl
  have e2 : IntKind.max .i64 = 9223372036854775807 := rfl
  show (decide (IntKind.min .i64 ≤ a) && decide (a ≤ IntKind.max .i64)) = true
  rw [e1, e2, decide_eq_true (by omega), decide_eq_true (by omega)]; rfl
set_option maxRecDepth 100000 in
set_option maxHeartbeats 2000000 in
/-- The text was there. -/
theorem firstAgain_yes (gm k : Nat) (f : ByteArray → Option Int) (s : ByteArray) (i a : Int) (w : World) (h : StrMap w gm k f) (hs : s.size ≤ maxLen) (hf : f s = some a) (h0 : 0 ≤ a) (h1 : a ≤ i) (h2 : i ≤ 1000000000) :
    Calls Tryz.prog 20 #[.map (some gm), .string s, .int .i64 i] w fun e w' => e = .returned (.tuple #[.int .i64 a, .int .i64 (i - a), .bool true]) ∧ w = w' := by
  have hl := h.look s hs
  rw [hf] at hl
  have hl2 : (Instr.lookup 49 (.map (some gm)) (.string s) true).run Tryz.prog w = .ok (.tuple #[.int .i64 a, .bool true]) w := hl
  clear hl h hf
  go_enter Tryz.func20, Tryz.ntmps20
  go_wp2_with fail
  exact bodyPost_ret (v := .tuple #[.int .i64 a, .int .i64 (i - a), .bool true]) (by simp [results, Tryz.results20, go_sem]) rfl ⟨rfl, rfl⟩
set_option maxRecDepth 100000 in
set_option maxHeartbeats 2000000 in
/-- The text was not there. -/
theorem firstAgain_no (gm k : Nat) (f : ByteArray → Option Int) (s : ByteArray) (i : Int) (w : World) (h : StrMap w gm k f) (hk : k < maxLen) (hs : s.size ≤ maxLen) (hf : f s = none) (h1 : 0 ≤ i) (h2 : i ≤ 1000000000) :
    Calls Tryz.prog 20 #[.map (some gm), .string s, .int .i64 i] w fun e w' => e = .returned (.tuple #[.int .i64 0, .int .i64 0, .bool false]) ∧ StrMap w' gm (k + 1) (fun t => if t = s then some i else f t) ∧ w.grownBy w' (some gm) := by
  have hl := h.look s hs
  rw [hf] at hl
  have hl2 : (Instr.lookup 49 (.map (some gm)) (.string s) true).run Tryz.prog w = .ok (.tuple #[.int .i64 0, .bool false]) w := hl
  obtain ⟨w', hrun, hm, hg⟩ := h.put hk s hs i (int_wf h1 h2)
  have HM := Lib.hid hm
  have HG := Lib.hid hg
  clear hl h hf hm hg
  go_enter Tryz.func20, Tryz.ntmps20
  go_wp2_with fail
  exact bodyPost_ret (v := .tuple #[.int .i64 0, .int .i64 0, .bool false]) (by simp [results, Tryz.results20, go_sem]) rfl ⟨rfl, HM.out, HG.out⟩
end Go.Proofs.YtdlojbabnelbdaaGreatDoor

/-
  A region that draws its order inside a round: an operation whose value is known in every world may be taken at once, where no operation defers.
-/
namespace Go.Proofs.YtdlojbabnelbdaaGreatDoor
open Go.RowKit

def noDefer (ops : Array Oper) : Bool := ops.all fun o => match o.op with | .defer _ => false | _ => true
theorem noDefer_at {ops : Array Oper} (h : noDefer ops = true) {j : Nat} {o : Oper} (hj : ops[j]? = some o) : ∀ c, o.op ≠ .defer c := by
  intro c hc
  unfold noDefer at h
  rw [Array.all_eq_true] at h
  obtain ⟨hlt, rfl⟩ := Array.getElem?_eq_some_iff.1 hj
  have h2 := h j hlt
  rw [hc] at h2
  simp at h2
section
variable {F : Fence} {n : Nat} {P : Program} {md : Region.Mode} {ops : Array Oper} {Q : Exit → Act → World → Prop}
/-- The operation itself, in its turn. -/
theorem yields_turn {i : Nat} {o : Oper} {v : Value} {a : Act} (hd : noDefer ops = true) (hi : ops[i]? = some o) (hy : YieldsFenced P ops o v a) {K : Act → World → Prop} {w : World} (h : K (a.put o.dst v) w) : wpOpIn F n P ops Q i K a w := by
  have hs : ∀ ρ, Oper.semAt F.round ρ o = execOp ρ o := fun ρ => Oper.semAt_eq F.round ρ o (noDefer_at hd hi)
  have hab : ∀ f, o.about P w a.eval = some f → F.fn f := fun f hf => by rw [hy.2 w] at hf; cases hf
  unfold wpOpIn
  simp only [hi]
  rcases hy.1 with ⟨hw, hv⟩ | ⟨hw, rfl⟩
  · simp only [hw, if_true, Oper.wpIn, hs, hv w, Oper.uponIn]
    exact ⟨hab, h⟩
  · simp only [hw, Bool.false_eq_true, if_false]
    exact ⟨hab, h⟩
/-- Another operation, where this one is listed already. -/
theorem yields_past {j : Nat} {o p : Oper} {v : Value} (hd : noDefer ops = true) (hj : ops[j]? = some p) (hap : o.apart ops p = true) (hso : ∀ cs b, o.op ≠ .select cs b) (hsp : ∀ cs b, p.op ≠ .select cs b)
    (hQ : ∀ c a w, Q (.panic c) (a.put o.dst v) w → Q (.panic c) a w) {K : Act → World → Prop} {a : Act} {w : World} (hy : YieldsFenced P ops o v a) (h : wpOpIn F n P ops Q j K (a.put o.dst v) w) :
    wpOpIn F n P ops Q j (fun b w' => YieldsFenced P ops o v b ∧ K (b.put o.dst v) w') a w := by
  obtain ⟨c1, c2, c3⟩ := Oper.apart_spec hap
  have hs : ∀ ρ, Oper.semAt F.round ρ p = execOp ρ p := fun ρ => Oper.semAt_eq F.round ρ p (noDefer_at hd hj)
  have keeps : ∀ b : Act, YieldsFenced P ops o v b → ∀ u, YieldsFenced P ops o v (b.put p.dst u) := fun b hb u => hb.of_same (execOp_put o hso b p.dst u c3) (wanted_put o b p.dst u c3) (fun w => about_put o w b p.dst u c3)
  have kept := keeps a hy
  unfold wpOpIn at *
  simp only [hj] at *
  rw [wanted_put p a o.dst v c1, about_put p w a o.dst v c1] at h
  by_cases hw : Region.wanted p (yielded ops a.tmps) = true
  · rw [if_pos hw] at h ⊢
    unfold Oper.wpIn at *
    rw [about_put p w a o.dst v c1] at h
    refine ⟨h.1, ?_⟩
    have h := h.2
    rw [hs, execOp_put p hsp a o.dst v c1] at h
    rw [hs]
    revert h
    cases (execOp a.eval p).run P w with
    | ok x w' =>
      cases x with
      | value u => intro h; exact ⟨kept u, by rw [← Act.put_comm a v u c2]; exact h⟩
      | skip => intro h; exact ⟨kept _, by rw [← Act.put_comm a v undef c2]; exact h⟩
      | defer d =>
        intro h
        refine ⟨keeps { a with defers := d :: a.defers } (hy.of_same rfl rfl (fun _ => rfl)) _, ?_⟩
        rw [← Act.put_comm _ v undef c2, ← Act.put_defers]
        exact h
      | enter f args =>
        intro h
        refine ⟨h.1, CallsIn.mono h.2 fun e w'' he => ?_⟩
        cases e with
        | returned u => exact ⟨kept u, by rw [← Act.put_comm a v u c2]; exact he⟩
        | panicked c => exact hQ _ _ _ he
        | outgrown => exact he
      | row row args => intro h; exact ⟨h.1, RowsIn.mono h.2 fun u w'' he => ⟨kept u, by rw [← Act.put_comm a v u c2]; exact he⟩⟩
      | round l f tmps assign body =>
        intro h
        refine ⟨h.1, RoundIn.mono h.2 fun e w'' he => ?_⟩
        cases e with
        | returned u => exact ⟨kept u, by rw [← Act.put_comm a v u c2]; exact he⟩
        | panicked c => exact hQ _ _ _ he
        | outgrown => exact he
      | _ => intro h; exact h
    | halt x w' =>
      cases x with
      | panic u => intro h; exact hQ _ _ _ h
      | _ => intro h; exact h
  · rw [if_neg hw] at h ⊢
    exact ⟨h.1, kept _, by rw [← Act.put_comm a v undef c2]; exact h.2⟩
/-- An operation that yields its value at any time is listed at once. -/
theorem any_first {i : Nat} {o : Oper} {v : Value} (hd : noDefer ops = true) (hi : ops[i]? = some o) (hsel : ∀ (j : Nat) (p : Oper) cs b, ops[j]? = some p → p.op ≠ .select cs b) (hQ : ∀ c a w, Q (.panic c) (a.put o.dst v) w → Q (.panic c) a w) :
    ∀ (fuel : Nat) (listed : Array Bool) (a : Act) (w : World), (∀ j p, ops[j]? = some p → j ≠ i → listed.getD j true = false → (∀ e ∈ p.after, Region.binds md e = true → e.on ≠ i) → o.apart ops p = true) →
      i ∈ Region.ready md ops listed → YieldsFenced P ops o v a → wpAnyIn F n P md ops Q fuel (listed.setIfInBounds i true) (a.put o.dst v) w → wpAnyIn F n P md ops Q (fuel + 1) listed a w := by
  intro fuel
  induction fuel with
  | zero =>
    intro listed a w _ hr hy H
    refine ⟨fun h => (by rw [h] at hr; cases hr), fun j hj => ?_⟩
    by_cases e : j = i
    · rw [e]; exact yields_turn hd hi hy H
    · have h2 := ready_mono hj e
      rw [H.1] at h2
      cases h2
  | succ fuel ih =>
    intro listed a w hfree hr hy H
    refine ⟨fun h => (by rw [h] at hr; cases hr), fun j hj => ?_⟩
    by_cases e : j = i
    · rw [e]; exact yields_turn hd hi hy H
    · obtain ⟨hun, p, hp, hall⟩ := mem_ready.1 hj
      have hnot : ∀ x ∈ p.after, Region.binds md x = true → x.on ≠ i := fun x hx hb heq => by
        have h1 := hall x hx hb
        have h0 := (mem_ready.1 hr).1
        rw [heq] at h1
        rcases Nat.lt_or_ge i listed.size with h' | h'
        · simp [h'] at h0 h1; rw [h0] at h1; cases h1
        · simp [Array.getElem?_eq_none h'] at h1
      have hfree2 : ∀ k q, ops[k]? = some q → k ≠ i → (listed.setIfInBounds j true).getD k true = false → (∀ x ∈ q.after, Region.binds md x = true → x.on ≠ i) → o.apart ops q = true := fun k q hk hki hu hno => by
        refine hfree k q hk hki ?_ hno
        by_cases hjk : j = k
        · rw [← hjk]; exact hun
        · rw [getD_set_ne true hjk] at hu; exact hu
      refine wpOpIn_mono (fun b w' h3 => ih (listed.setIfInBounds j true) b w' hfree2 (ready_mono hr (Ne.symm e)) h3.1 ?_) (yields_past hd hp (hfree j p hp e hun hnot) (fun cs b => hsel i o cs b hi) (fun cs b => hsel j p cs b hp) hQ hy (H.2 j (ready_mono hj e)))
      rw [Array.setIfInBounds_comm _ _ e]
      exact h3.2
theorem wpAnyIn_takeR {i : Nat} {o : Oper} {v : Value} {fuel : Nat} {listed : Array Bool} {a : Act} {w : World} (hd : noDefer ops = true) (hi : ops[i]? = some o) (hs : Region.noSelect ops = true) (hf : Region.free md ops listed i = true) (hr : (Region.ready md ops listed).contains i = true)
    (hQ : ∀ c a w, Q (.panic c) (a.put o.dst v) w → Q (.panic c) a w) (hy : YieldsFenced P ops o v a) (h : wpAnyIn F n P md ops Q fuel (listed.setIfInBounds i true) (a.put o.dst v) w) : wpAnyIn F n P md ops Q (fuel + 1) listed a w :=
  any_first hd hi (Region.noSelect_spec hs) hQ fuel listed a w (Region.free_spec hi hf) (by simpa using hr) hy h
end
end Go.Proofs.YtdlojbabnelbdaaGreatDoor
