/-
  Trees in memory: nodes of three cells (head, tail, how many nodes), shared at will, never written again. Contracts of impl's nodesOf, pair, headOf, tailOf, equal.
-/
import Derived.Test.YtfheepjfpgiaoaaTrP
import Derived.Test.YtfheepjfpgiaoaaRecs
import Derived.Test.YtfheepjfpgiaoaaBase
import Derived.Deep.RegionHeld3
import Derived.Deep.DeepCutAuto
namespace Go.Proofs.Ytfheepjfpgiaoaa
open Go.RowKit

/-- A tree behind a pointer. -/
def TrAt (w : World) : Tr → Option Addr → Prop
  | .nil, p => p = none
  | .nd h t, p => ∃ g a b, p = some ⟨g, 0, none⟩ ∧ Blk w g 224 #[.pointer a, .pointer b, .int .i64 ((1 + h.nodes + t.nodes : Nat) : Int)] ∧ TrAt w h a ∧ TrAt w t b
/-- All nodes are as they were. -/
def KT (w w' : World) : Prop := ∀ g cs, Blk w g 224 cs → Blk w' g 224 cs
theorem KT.refl (w : World) : KT w w := fun _ _ h => h
theorem KT.trans {a b c : World} (h : KT a b) (k : KT b c) : KT a c := fun g cs x => k g cs (h g cs x)
theorem KT.below {w w' : World} (z : Below w.heap.size w w') : KT w w' := fun _ _ h => h.below' z
theorem KT.drewN (w : World) (n : Nat) : KT w (w.drewN n) := fun _ _ h => h.drewN n
theorem KT.undrew {w w' : World} {n : Nat} (h : KT (w.drewN n) w') : KT w w' := fun g cs x => h g cs (x.drewN n)
theorem KT.setCell {w : World} {g i : Nat} {t : TypeId} {cur : Array Value} (h : Blk w g t cur) (ht : t ≠ 224) (u : Value) : KT w (w.setCell ⟨g, i, none⟩ u) := fun g2 cs x => x.far (p := ⟨g, i, none⟩) (fun e => by
  have e : g2 = g := e
  subst e
  have h1 := Eq.trans (Eq.symm h) x
  simp at h1
  exact ht h1.2) u
theorem KT.grown {w w2 : World} {lo n c s : Nat} {e : TypeId} {A : Option Addr} {cs : List Value} (h : Own w lo e s A n c cs) (hg : w.grownBy w2 (blk A)) (he : 224 ≠ e) : KT w w2 := fun _ _ x => x.grown h hg he
theorem KT.own {w : World} {lo n c s : Nat} {e : TypeId} {b off k : Nat} {cs : List Value} (h : Own w lo e s (some ⟨b, off, none⟩) n c cs) (he : 224 ≠ e) (u : Value) : KT w (w.setCell ⟨b, off + k, none⟩ u) := fun g cs' x => x.far (p := ⟨b, off + k, none⟩) (fun e2 => by
  have e2 : g = b := e2
  subst e2
  exact x.apt h he rfl) u
theorem TrAt.kt {w w' : World} (k : KT w w') : ∀ {t : Tr} {p : Option Addr}, TrAt w t p → TrAt w' t p
  | .nil, _, h => h
  | .nd _ _, _, ⟨g, a, b, e, hb, hh, ht⟩ => ⟨g, a, b, e, k g _ hb, TrAt.kt k hh, TrAt.kt k ht⟩
theorem TrAt.below {w w' : World} {t : Tr} {p : Option Addr} (h : TrAt w t p) (z : Below w.heap.size w w') : TrAt w' t p := h.kt (KT.below z)
theorem TrAt.drewN {w : World} {t : Tr} {p : Option Addr} (h : TrAt w t p) (n : Nat) : TrAt (w.drewN n) t p := h.kt (KT.drewN w n)
theorem TrAt.fn {w : World} : ∀ {t u : Tr} {p : Option Addr}, TrAt w t p → TrAt w u p → t = u
  | .nil, .nil, _, _, _ => rfl
  | .nil, .nd _ _, _, h, ⟨_, _, _, e, _⟩ => by rw [show _ = none from h] at e; cases e
  | .nd _ _, .nil, _, ⟨_, _, _, e, _⟩, h => by rw [show _ = none from h] at e; cases e
  | .nd h t, .nd h' t', _, ⟨g, a, b, e, hb, hh, ht⟩, ⟨g', a', b', e', hb', hh', ht'⟩ => by
    rw [e] at e'
    simp only [Option.some.injEq, Addr.mk.injEq, and_true] at e'
    subst e'
    have h1 := Eq.trans (Eq.symm hb) hb'
    simp at h1
    obtain ⟨rfl, rfl, _⟩ := h1
    rw [TrAt.fn hh hh', TrAt.fn ht ht']
theorem TrAt.of_none {w : World} {t : Tr} (h : TrAt w t none) : t = .nil := by
  cases t with
  | nil => rfl
  | nd a b => obtain ⟨_, _, _, e, _⟩ := h; cases e
theorem TrAt.new {w : World} {h t : Tr} {a b : Option Addr} (hh : TrAt w h a) (ht : TrAt w t b) : TrAt (w.alloc (.cells #[.pointer a, .pointer b, .int .i64 ((1 + h.nodes + t.nodes : Nat) : Int)] 224)) (.nd h t) (some ⟨w.heap.size, 0, none⟩) := by
  have z : Below w.heap.size w (w.alloc (.cells #[.pointer a, .pointer b, .int .i64 ((1 + h.nodes + t.nodes : Nat) : Int)] 224)) := (Below.refl _ _).alloc (Nat.le_refl _) _
  exact ⟨_, a, b, rfl, Blk.new w _ _, hh.below z, ht.below z⟩

theorem nodesOf_any (t : Tr) (p : Option Addr) (w : World) (h : TrAt w t p) : Calls Try.prog 176 #[.pointer p] w fun e w' => e = .returned (.int .i64 (t.nodes : Int)) ∧ w = w' := by
  cases t with
  | nil =>
    obtain rfl : p = none := h
    go_enter Try.func176, Try.ntmps176
    go_wp2_with fail
    go_ret
    exact ⟨rfl, rfl⟩
  | nd a b =>
    obtain ⟨g, x, y, rfl, hb, _, _⟩ := h
    obtain ⟨N, hN⟩ : ∃ N : Int, ((1 + a.nodes + b.nodes : Nat) : Int) = N := ⟨_, rfl⟩
    rw [hN] at hb
    have HN := Lib.hid hN
    have c2 : w.cell? ⟨g, 2, none⟩ = some (.int .i64 N) := hb.cell 2
    clear hN hb
    go_enter Try.func176, Try.ntmps176
    go_wp2_with fail
    go_ret
    exact ⟨ret_int (by rw [← HN.out]; rfl), rfl⟩
theorem headOf_any (t : Tr) (p : Option Addr) (w : World) (h : TrAt w t p) : Calls Try.prog 96 #[.pointer p] w fun e w' => (∃ q, e = .returned (.pointer q) ∧ TrAt w t.hd q) ∧ w = w' := by
  cases t with
  | nil =>
    obtain rfl : p = none := h
    go_enter Try.func96, Try.ntmps96
    go_wp2_with fail
    go_ret
    exact ⟨⟨_, rfl, rfl⟩, rfl⟩
  | nd a b =>
    obtain ⟨g, x, y, rfl, hb, hx, _⟩ := h
    have c0 : w.cell? ⟨g, 0, none⟩ = some (.pointer x) := hb.cell 0
    clear hb
    go_enter Try.func96, Try.ntmps96
    go_wp2_with fail
    go_ret
    exact ⟨⟨_, rfl, hx⟩, rfl⟩
theorem tailOf_any (t : Tr) (p : Option Addr) (w : World) (h : TrAt w t p) : Calls Try.prog 97 #[.pointer p] w fun e w' => (∃ q, e = .returned (.pointer q) ∧ TrAt w t.tl q) ∧ w = w' := by
  cases t with
  | nil =>
    obtain rfl : p = none := h
    go_enter Try.func97, Try.ntmps97
    go_wp2_with fail
    go_ret
    exact ⟨⟨_, rfl, rfl⟩, rfl⟩
  | nd a b =>
    obtain ⟨g, x, y, rfl, hb, _, hy⟩ := h
    have c1 : w.cell? ⟨g, 1, none⟩ = some (.pointer y) := hb.cell 1
    clear hb
    go_enter Try.func97, Try.ntmps97
    go_wp2_with fail
    go_ret
    exact ⟨⟨_, rfl, hy⟩, rfl⟩
/-- A pair in a new node. -/
def PairP (w : World) (h t : Tr) (a b : Option Addr) (e : Ending) (w' : World) : Prop := e = .returned (.pointer (some ⟨w.heap.size, 0, none⟩)) ∧ w' = w.alloc (.cells #[.pointer a, .pointer b, .int .i64 ((1 + h.nodes + t.nodes : Nat) : Int)] 224)
theorem pair_any (h t : Tr) (a b : Option Addr) (w : World) (hh : TrAt w h a) (ht : TrAt w t b) (hn : h.nodes + t.nodes ≤ 1000000000) : Calls Try.prog 175 #[.pointer a, .pointer b] w (PairP w h t a b) := by
  have H1 := Lib.hid (nodesOf_any h a w hh)
  have H2 := Lib.hid (nodesOf_any t b w ht)
  obtain ⟨n, hnn⟩ : ∃ n, h.nodes = n := ⟨_, rfl⟩
  obtain ⟨m, hm⟩ : ∃ m, t.nodes = m := ⟨_, rfl⟩
  unfold PairP
  rw [hnn, hm] at hn ⊢
  rw [hnn] at H1
  rw [hm] at H2
  have w1 : IntKind.i64.wrap (1 + (n : Int)) = ((1 + n : Nat) : Int) := by rw [IntWalk.i64_in _ (by omega)]; omega
  have w2 : IntKind.i64.wrap (((1 + n : Nat) : Int) + (m : Int)) = ((1 + n + m : Nat) : Int) := by rw [IntWalk.i64_in _ (by omega)]; omega
  obtain ⟨N, hN⟩ : ∃ N : Int, ((1 + n + m : Nat) : Int) = N := ⟨_, rfl⟩
  obtain ⟨M, hM⟩ : ∃ M : Int, ((1 + n : Nat) : Int) = M := ⟨_, rfl⟩
  rw [hN] at w2 ⊢
  rw [hM] at w1 w2
  clear hN hM hnn hm hh ht
  go_enter Try.func175, Try.ntmps175
  go_wp2_with (first | (go_at_call_of 176 a; with_reducible refine H1.out.mono ?_; rintro e w' ⟨rfl, rfl⟩) | (go_at_call 176; refine H2.out.mono ?_; rintro e w' ⟨rfl, rfl⟩))
  go_ret
  exact ⟨rfl, rfl⟩
end Go.Proofs.Ytfheepjfpgiaoaa
