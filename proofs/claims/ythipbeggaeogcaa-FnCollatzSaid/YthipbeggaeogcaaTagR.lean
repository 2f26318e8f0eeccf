/-
  A tag system that runs: its state in memory, and runSystem over it.
-/
import Derived.Test.YthipbeggaeogcaaTagX
import Derived.Test.YthipbeggaeogcaaTagG
import Derived.Test.YthipbeggaeogcaaSysRun
namespace Go.Proofs.Ythipbeggaeogcaa
open Go.RowKit

def FrD (D : (Nat → Prop) → World → Prop) : Prop := ∀ X W W', D X W → Fr X W W' → D X W'
/-- The tag system that runs, as the contract speaks of it. -/
structure Tg where
  w0 : World
  g : Nat
  d : Int
  A : Option Addr
  n : Nat
  c : Nat
  ts : List Sl
  B : Option Addr
  m : Nat
  k : Nat
  hs : List Int
  xs : List Int
structure Tg.Ok (p : Tg) : Prop where
  code : tagCodeF p.d (nums p.ts) p.hs p.xs = 0
  words : SII p.w0 p.A p.n p.ts
  halts : SI p.w0 p.B p.m p.hs
  hg : p.w0.heap.size ≤ p.g
  hn : p.n ≤ 1048576
  hm : p.m ≤ 1048576
abbrev Tg.sys (p : Tg) : Sys (List Int) := tagSys p.d (nums p.ts) p.hs
abbrev Tg.it (p : Tg) (i : Nat) : List Int := p.sys.it p.xs i
/-- The system stands behind i steps, its word is the slice Q; X: blocks apart from its own; D: the caller's word on them. -/
structure TgO (p : Tg) (i : Nat) (Q : Option Addr) (r : Nat) (X : Nat → Prop) (W : World) : Prop where
  ng : ¬ X p.g
  lt : ∀ b, X b → b < W.heap.size
  run : RunAt W p.g p.d p.A p.n p.c p.B p.m p.k Q (p.it i).length r
  own : Own W p.w0.heap.size 2 1 Q (p.it i).length r (ints (p.it i))
  nq : ∀ b, blk Q = some b → ¬ X b
  low : Below p.w0.heap.size p.w0 W
def TgV (p : Tg) (i : Nat) (D : (Nat → Prop) → World → Prop) (u : Value) (W : World) : Prop := ∃ Q r X, u = .slice Q (p.it i).length r ∧ TgO p i Q r X W ∧ D X W
def TgS (p : Tg) (i : Nat) (D : (Nat → Prop) → World → Prop) (W : World) : Prop := ∃ u, TgV p i D u W
theorem TgO.drewN {p : Tg} {i : Nat} {Q : Option Addr} {r : Nat} {X : Nat → Prop} {W : World} (h : TgO p i Q r X W) (q : Nat) : TgO p i Q r X (W.drewN q) := ⟨h.ng, h.lt, h.run, h.own.drewN q, h.nq, below_drewN h.low q⟩
theorem TgO.fr {p : Tg} {i : Nat} {Q : Option Addr} {r : Nat} {X : Nat → Prop} {W W' : World} (h : TgO p i Q r X W) (z : Below W.heap.size W W') : TgO p i Q r X W' :=
  ⟨h.ng, fun b hb => by have := h.lt b hb; have := z.size; omega, (z.block p.g (Array.getElem?_eq_some_iff.1 h.run).1).trans h.run, h.own.below z, h.nq, h.low.trans (z.mono h.low.size)⟩

theorem tagHalts_g {p : Tg} {i r : Nat} {Q : Option Addr} {X : Nat → Prop} {W : World} (hp : p.Ok) (hal : p.sys.Alive p.xs i) (h : TgO p i Q r X W) :
    Calls Try.prog 151 #[.pointer (some ⟨p.g, 0, none⟩)] W fun e W' => e = .returned (.bool (p.sys.halt (p.it i))) ∧ ∃ q, W' = W.drewN q := by
  obtain ⟨v1, v2, v3, v4, v5, v6, v7, v8⟩ := tagCode_parts (tagAlive_good hp.code hal)
  exact tagHalts_any p.g p.d p.A p.n p.c p.B p.m p.k p.hs Q _ r (p.it i) W h.run (hp.halts.below h.low) h.own.rd hp.hm (by have : (p.it i).length ≤ 1000 := v4; omega) v1 (Lib.hid v3)
theorem tagStep_g {p : Tg} {i r : Nat} {Q : Option Addr} {X : Nat → Prop} {W : World} (hp : p.Ok) (hal : p.sys.Alive p.xs i) (hh : p.sys.halt (p.it i) = false) (h : TgO p i Q r X W) :
    Calls Try.prog 152 #[.pointer (some ⟨p.g, 0, none⟩)] W fun e W' => e = .returned (.bool (p.sys.room (p.it i))) ∧ (∃ Q' r', TgO p (i + 1) Q' r' X W') ∧ Fr X W W' := by
  obtain ⟨v1, v2, v3, v4, v5, v6, v7, v8⟩ := tagCode_parts (tagAlive_good hp.code hal)
  have hl4 : (p.it i).length ≤ 1000 := v4
  have hdl : p.d ≤ (p.it i).length := haltsB_false hh
  have hnl : (nums p.ts).length = p.n := by have := hp.words.len; simpa [nums] using this
  obtain ⟨x0, hx0, hx0e⟩ := head_letter (xs := p.it i) (n := p.n) (by omega) (by intro x hx'; have := v5 x hx'; rw [hnl] at this; exact this)
  have hlt : x0 < p.ts.length := by have := hp.words.len; omega
  have hT : p.ts[x0]? = some p.ts[x0] := List.getElem?_eq_getElem hlt
  have hw : tagWordOf (nums p.ts) (p.it i) = p.ts[x0].xs := by unfold tagWordOf; rw [hx0e]; simp [nums, hT]
  have htl : p.ts[x0].xs.length ≤ 1000 := v8 _ (List.mem_map.2 ⟨p.ts[x0], List.getElem_mem hlt, rfl⟩)
  refine (tagStep_x X p.w0 p.g p.d p.A p.n p.c p.ts p.B p.m p.k Q _ r x0 (p.it i) p.ts[x0] W hp.words h.low hp.hg h.run h.own (Lib.hid h.ng) (Lib.hid h.nq) (Lib.hid h.lt) (by omega) v1 hdl (Lib.hid hx0e) (Lib.hid hT) hx0 (by omega)).mono ?_
  rintro e W' ⟨Q', r', rfl, hr', ho', hn', hb', hf'⟩
  have hit : p.it (i + 1) = (p.it i ++ p.ts[x0].xs).drop p.d.toNat := by rw [← hw]; rfl
  refine ⟨ret_bool ?_, ⟨Q', r', h.ng, fun b hb => by have := h.lt b hb; have := hf'.size; omega, ?_, ?_, hn', hb'⟩, hf'⟩
  · rw [← hw]; rfl
  · rw [hit]; exact hr'
  · rw [hit]; exact ho'

theorem tagM_word (g : Nat) (w : World) : (method 386 131 (.pointer (some ⟨g, 0, none⟩)) "loop.example/g01079/impl.word").run Try.prog w = .ok (246, .pointer (some ⟨g, 0, none⟩)) w := by kernel_rfl
theorem tagM_halts (g : Nat) (w : World) : (method 386 131 (.pointer (some ⟨g, 0, none⟩)) "loop.example/g01079/impl.halts").run Try.prog w = .ok (151, .pointer (some ⟨g, 0, none⟩)) w := by kernel_rfl
theorem tagM_step (g : Nat) (w : World) : (method 386 131 (.pointer (some ⟨g, 0, none⟩)) "loop.example/g01079/impl.step").run Try.prog w = .ok (152, .pointer (some ⟨g, 0, none⟩)) w := by kernel_rfl

theorem runTagSys (p : Tg) (hp : p.Ok) (N : Nat) (fv : FuncId) (lb : Array Value) (vis : Nat → Bool) (D : Nat → (Nat → Prop) → World → Prop) (hD : ∀ i, FrD (D i)) (w : World) (hN : N ≤ 1000000)
    (hcall : ∀ (args : Array Value) (w : World), (callFunc fv args).run Try.prog w = .ok (.enter fv args) w)
    (hB : ∀ i u W, i ≤ N → p.sys.Alive p.xs i → TgV p i (D i) u W → Calls Try.prog fv (#[u] ++ lb) W fun e W' => e = .returned (.bool (vis i)) ∧ TgS p i (D (i + 1)) W') (h0 : TgS p 0 (D 0) w) :
    Calls Try.prog 79 #[.iface 131 (.pointer (some ⟨p.g, 0, none⟩)), .int .i64 (N : Int), .func (.func fv) #[] lb] w (SysP p.sys p.xs N vis (fun i W => TgS p i (D (i + 1)) W) (fun W => Below p.w0.heap.size p.w0 W)) := by
  refine runSystem_any p.sys p.xs N _ _ _ _ _ fv lb vis (fun i W => TgS p i (D i) W) (fun i u W => TgV p i (D i) u W) _ _ w hN (tagM_word p.g) (tagM_halts p.g) (tagM_step p.g) Try.call246 Try.call151 Try.call152 hcall ?_ hB ?_ ?_ h0
  · rintro i W _ _ ⟨u, Q, r, X, rfl, ho, hd⟩
    exact (tagWord_any p.g p.d p.A p.n p.c p.B p.m p.k Q _ r W ho.run).mono fun e W' ⟨he, hW⟩ => ⟨_, he, Q, r, X, rfl, hW ▸ ho, hW ▸ hd⟩
  · rintro i W _ hal ⟨u, Q, r, X, rfl, ho, hd⟩
    refine (tagHalts_g hp hal ho).mono ?_
    rintro e W' ⟨he, q, rfl⟩
    exact ⟨he, _, Q, r, X, rfl, ho.drewN q, hD _ X W _ hd ((Fr.refl X W).drewN q)⟩
  · rintro i W _ hal hh ⟨u, Q, r, X, rfl, ho, hd⟩
    refine (tagStep_g hp hal hh ho).mono ?_
    rintro e W' ⟨he, ⟨Q', r', ho'⟩, hf⟩
    exact ⟨he, fun _ => ⟨_, Q', r', X, rfl, ho', hD _ X W _ hd hf⟩, fun _ => ho'.low⟩
end Go.Proofs.Ythipbeggaeogcaa
