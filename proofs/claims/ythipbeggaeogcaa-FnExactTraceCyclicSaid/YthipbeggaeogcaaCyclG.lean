/-
  A cyclic tag system that runs, and runSystem over it.
-/
import Derived.Test.YthipbeggaeogcaaCyclX
import Derived.Test.YthipbeggaeogcaaSysRun
namespace Go.Proofs.Ythipbeggaeogcaa
open Go.RowKit

/-- The cyclic tag system that runs, as the contract speaks of it. -/
structure Cg where
  w0 : World
  g : Nat
  A : Option Addr
  n : Nat
  c : Nat
  ts : List Sl
  x : Tu
structure Cg.Ok (p : Cg) : Prop where
  code : validTurnB (nums p.ts) p.x = true
  words : SII p.w0 p.A p.n p.ts
  hg : p.w0.heap.size ≤ p.g
  hn : p.n ≤ 1048576
abbrev Cg.sys (p : Cg) : Sys Tu := cycSys (nums p.ts)
abbrev Cg.it (p : Cg) (i : Nat) : Tu := p.sys.it p.x i
structure CgO (p : Cg) (i : Nat) (Q : Option Addr) (r : Nat) (X : Nat → Prop) (W : World) : Prop where
  ng : ¬ X p.g
  lt : ∀ b, X b → b < W.heap.size
  run : CRun W p.g p.A p.n p.c (p.it i).at_ Q (p.it i).word.length r
  own : Own W p.w0.heap.size 2 1 Q (p.it i).word.length r (ints (p.it i).word)
  nq : ∀ b, blk Q = some b → ¬ X b
  low : Below p.w0.heap.size p.w0 W
def CgV (p : Cg) (i : Nat) (D : (Nat → Prop) → World → Prop) (u : Value) (W : World) : Prop := ∃ Q r X, u = .slice Q (p.it i).word.length r ∧ CgO p i Q r X W ∧ D X W
def CgS (p : Cg) (i : Nat) (D : (Nat → Prop) → World → Prop) (W : World) : Prop := ∃ u, CgV p i D u W
theorem cycAlive_parts {p : Cg} (hp : p.Ok) {i : Nat} (hal : p.sys.Alive p.x i) : 1 ≤ p.n ∧ p.n ≤ 400 ∧ (∀ v ∈ nums p.ts, v.length ≤ 1000) ∧ 0 ≤ (p.it i).at_ ∧ (p.it i).at_ < p.n ∧ (p.it i).word.length ≤ 1000 := by
  have hl : (nums p.ts).length = p.n := by have := hp.words.len; simpa [nums] using this
  obtain ⟨h1, h2, h3, h4, h5, h6, _⟩ := validTurn_parts (cycAlive_good hp.code hal)
  rw [hl] at h1 h2 h5
  exact ⟨h1, h2, h3, h4, h5, h6⟩
theorem cycStep_g {p : Cg} {i r : Nat} {Q : Option Addr} {X : Nat → Prop} {W : World} (hp : p.Ok) (hal : p.sys.Alive p.x i) (hh : p.sys.halt (p.it i) = false) (h : CgO p i Q r X W) :
    Calls Try.prog 98 #[.pointer (some ⟨p.g, 0, none⟩)] W fun e W' => e = .returned (.bool (p.sys.room (p.it i))) ∧ (∃ Q' r', CgO p (i + 1) Q' r' X W') ∧ Fr X W W' := by
  obtain ⟨v1, v2, v3, v4, v5, v6⟩ := cycAlive_parts hp hal
  have hl0 : 0 < (p.it i).word.length := by have : ¬ (p.it i).word.length = 0 := by simpa [cycSys] using hh
                                            omega
  obtain ⟨a, ha⟩ : ∃ a : Nat, (p.it i).at_ = (a : Int) := ⟨(p.it i).at_.toNat, by omega⟩
  have hlt : a < p.ts.length := by have := hp.words.len; omega
  have hT : p.ts[a]? = some p.ts[a] := List.getElem?_eq_getElem hlt
  have htl : p.ts[a].xs.length ≤ 1000 := v3 _ (List.mem_map.2 ⟨p.ts[a], List.getElem_mem hlt, rfl⟩)
  have hlen : ((nums p.ts).length : Int) = p.n := by have := hp.words.len; simp [nums]; omega
  have hnx : p.it (i + 1) = ⟨((a : Int) + 1).tmod p.n, (p.it i).word.tail ++ if (p.it i).word.headD 0 = 1 then p.ts[a].xs else []⟩ := by
    show cycNext (nums p.ts) (p.it i) = _
    unfold cycNext cycWord
    rw [ha, hlen, Int.toNat_natCast]
    have hg : (nums p.ts).getD a [] = p.ts[a].xs := by simp [nums, hT]
    rw [hg]
  have hr := h.run
  rw [ha] at hr
  refine (cyclicStep_x X p.w0 p.g p.A p.n p.c p.ts a Q _ r (p.it i).word p.ts[a] W hp.words h.low hp.hg hr h.own (Lib.hid h.ng) (Lib.hid h.nq) (Lib.hid h.lt) hl0 (by omega) hp.hn (by omega) (Lib.hid hT) (by omega)).mono ?_
  rintro e W' ⟨Q', r', rfl, hr', ho', hn', hb', hf'⟩
  refine ⟨ret_bool ?_, ⟨Q', r', h.ng, fun b hb => by have := h.lt b hb; have := hf'.size; omega, ?_, ?_, hn', hb'⟩, hf'⟩
  · show _ = decide ((p.it (i + 1)).word.length ≤ 1000)
    rw [hnx]
  · rw [hnx]; exact hr'
  · rw [hnx]; exact ho'

theorem cycM_word (g : Nat) (w : World) : (method 386 107 (.pointer (some ⟨g, 0, none⟩)) "loop.example/g01079/impl.word").run Try.prog w = .ok (245, .pointer (some ⟨g, 0, none⟩)) w := by kernel_rfl
theorem cycM_halts (g : Nat) (w : World) : (method 386 107 (.pointer (some ⟨g, 0, none⟩)) "loop.example/g01079/impl.halts").run Try.prog w = .ok (97, .pointer (some ⟨g, 0, none⟩)) w := by kernel_rfl
theorem cycM_step (g : Nat) (w : World) : (method 386 107 (.pointer (some ⟨g, 0, none⟩)) "loop.example/g01079/impl.step").run Try.prog w = .ok (98, .pointer (some ⟨g, 0, none⟩)) w := by kernel_rfl

theorem runCycSys (p : Cg) (hp : p.Ok) (N : Nat) (fv : FuncId) (lb : Array Value) (vis : Nat → Bool) (D : Nat → (Nat → Prop) → World → Prop) (hD : ∀ i, FrD (D i)) (w : World) (hN : N ≤ 1000000)
    (hcall : ∀ (args : Array Value) (w : World), (callFunc fv args).run Try.prog w = .ok (.enter fv args) w)
    (hB : ∀ i u W, i ≤ N → p.sys.Alive p.x i → CgV p i (D i) u W → Calls Try.prog fv (#[u] ++ lb) W fun e W' => e = .returned (.bool (vis i)) ∧ CgS p i (D (i + 1)) W') (h0 : CgS p 0 (D 0) w) :
    Calls Try.prog 79 #[.iface 107 (.pointer (some ⟨p.g, 0, none⟩)), .int .i64 (N : Int), .func (.func fv) #[] lb] w (SysP p.sys p.x N vis (fun i W => CgS p i (D (i + 1)) W) (fun W => Below p.w0.heap.size p.w0 W)) := by
  refine runSystem_any p.sys p.x N _ _ _ _ _ fv lb vis (fun i W => CgS p i (D i) W) (fun i u W => CgV p i (D i) u W) _ _ w hN (cycM_word p.g) (cycM_halts p.g) (cycM_step p.g) Try.call245 Try.call97 Try.call98 hcall ?_ hB ?_ ?_ h0
  · rintro i W _ _ ⟨u, Q, r, X, rfl, ho, hd⟩
    exact (cyclicWord_any ho.run).mono fun e W' ⟨he, hW⟩ => ⟨_, he, Q, r, X, rfl, hW ▸ ho, hW ▸ hd⟩
  · rintro i W _ hal ⟨u, Q, r, X, rfl, ho, hd⟩
    refine (cyclicHalts_any ho.run).mono ?_
    rintro e W' ⟨he, rfl⟩
    exact ⟨he, _, Q, r, X, rfl, ho, hd⟩
  · rintro i W _ hal hh ⟨u, Q, r, X, rfl, ho, hd⟩
    refine (cycStep_g hp hal hh ho).mono ?_
    rintro e W' ⟨he, ⟨Q', r', ho'⟩, hf⟩
    exact ⟨he, fun _ => ⟨_, Q', r', X, rfl, ho', hD _ X W _ hd hf⟩, fun _ => ho'.low⟩

theorem CgO.turn {p : Cg} {i r : Nat} {Q : Option Addr} {X Y : Nat → Prop} {W W' : World} (h : CgO p i Q r X W) (k : Keep Y W W') (hY : ∀ b, Y b → X b ∧ p.w0.heap.size ≤ b) : CgO p i Q r (XGrow X W.heap.size W'.heap.size) W' := by
  have hg : p.g < W.heap.size := h.run.lt
  refine ⟨?_, ?_, ?_, ?_, ?_, ?_⟩
  · rintro (h1 | ⟨h1, _⟩)
    · exact h.ng h1
    · omega
  · rintro b (h1 | ⟨_, h1⟩)
    · have := h.lt b h1; have := k.size; omega
    · exact h1
  · exact (k.block p.g hg (fun hy => h.ng (hY _ hy).1)).trans h.run
  · exact h.own.kept fun b hb _ hlt => k.block b hlt (fun hy => h.nq b hb (hY b hy).1)
  · rintro b hb (h1 | ⟨h1, _⟩)
    · exact h.nq b hb h1
    · have := h.own.blk_lt b hb; omega
  · exact ⟨k.os.trans h.low.os, k.tape.trans h.low.tape, k.output.trans h.low.output, Nat.le_trans h.low.size k.size, fun b hb => (k.block b (by have := h.low.size; omega) (fun hy => by have := (hY b hy).2; omega)).trans (h.low.block b hb)⟩
end Go.Proofs.Ythipbeggaeogcaa
