/-
  A cyclic tag system that runs, and runSystem over it.
-/
import Derived.Test.YtfdbhlhlhjdpbaaPkCyclicTags0
import Derived.Test.YtfdbhlhlhjdpbaaPkCyclicTags1
import Derived.Test.YtfdbhlhlhjdpbaaPkCyclicTags3
import Derived.Test.YtfdbhlhlhjdpbaaPkCyclicTags4
import Derived.Test.YtfdbhlhlhjdpbaaPkCyclicTags5
import Derived.Test.YtfdbhlhlhjdpbaaPkCyclicTags6
namespace Go.Proofs.Ytfdbhlhlhjdpbaa
open Go.RowKit

/-- The cyclic tag system that runs, as the contract speaks of it. -/
structure Cg where
  w0 : World
  g : Nat
  A : Option Addr
  n : Nat
  c : Nat
  ts : List Sl
  x : Tu
structure Cg.Ok (p : Cg) : Prop where
  code : validTurnB (nums p.ts) p.x = true
  words : SII p.w0 p.A p.n p.ts
  hg : p.w0.heap.size ≤ p.g
  hn : p.n ≤ 1048576
abbrev Cg.sys (p : Cg) : Sys Tu := cycSys (nums p.ts)
abbrev Cg.it (p : Cg) (i : Nat) : Tu := p.sys.it p.x i
structure CgO (p : Cg) (i : Nat) (Q : Option Addr) (r : Nat) (X : Nat → Prop) (W : World) : Prop where
  ng : ¬ X p.g
  lt : ∀ b, X b → b < W.heap.size
  run : CRun W p.g p.A p.n p.c (p.it i).at_ Q (p.it i).word.length r
  own : Own W p.w0.heap.size 2 1 Q (p.it i).word.length r (ints (p.it i).word)
  nq : ∀ b, blk Q = some b → ¬ X b
  low : Below p.w0.heap.size p.w0 W
def CgV (p : Cg) (i : Nat) (D : (Nat → Prop) → World → Prop) (u : Value) (W : World) : Prop := ∃ Q r X, u = .slice Q (p.it i).word.length r ∧ CgO p i Q r X W ∧ D X W
def CgS (p : Cg) (i : Nat) (D : (Nat → Prop) → World → Prop) (W : World) : Prop := ∃ u, CgV p i D u W
theorem cycAlive_parts {p : Cg} (hp : p.Ok) {i : Nat} (hal : p.sys.Alive p.x i) : 1 ≤ p.n ∧ p.n ≤ 400 ∧ (∀ v ∈ nums p.ts, v.length ≤ 1000) ∧ 0 ≤ (p.it i).at_ ∧ (p.it i).at_ < p.n ∧ (p.it i).word.length ≤ 1000 := by
  have hl : (nums p.ts).length = p.n := by have := hp.words.len; simpa [nums] using this
  obtain ⟨h1, h2, h3, h4, h5, h6, _⟩ := validTurn_parts (cycAlive_good hp.code hal)
  rw [hl] at h1 h2 h5
  exact ⟨h1, h2, h3, h4, h5, h6⟩
theorem cycStep_g {p : Cg} {i r : Nat} {Q : Option Addr} {X : Nat → Prop} {W : World} (hp : p.Ok) (hal : p.sys.Alive p.x i) (hh : p.sys.halt (p.it i) = false) (h : CgO p i Q r X W) :
    Calls Try.prog 51 #[.pointer (some ⟨p.g, 0, none⟩)] W fun e W' => e = .returned (.bool (p.sys.room (p.it i))) ∧ (∃ Q' r', CgO p (i + 1) Q' r' X W') ∧ Fr X W W' := by
  obtain ⟨v1, v2, v3, v4, v5, v6⟩ := cycAlive_parts hp hal
  have hl0 : 0 < (p.it i).word.length := by have : ¬ (p.it i).word.length = 0 := by simpa [cycSys] using hh
                                            omega
  obtain ⟨a, ha⟩ : ∃ a : Nat, (p.it i).at_ = (a : Int) := ⟨(p.it i).at_.toNat, by omega⟩
  have hlt : a < p.ts.length := by have := hp.words.len; omega
  have hT : p.ts[a]? = some p.ts[a] := List.getElem?_eq_getElem hlt
  have htl : p.ts[a].xs.length ≤ 1000 := v3 _ (List.mem_map.2 ⟨p.ts[a], List.getElem_mem hlt, rfl⟩)
  have hlen : ((nums p.ts).length : Int) = p.n := by have := hp.words.len; simp [nums]; omega
  have hnx : p.it (i + 1) = ⟨((a : Int) + 1).tmod p.n, (p.it i).word.tail ++ if (p.it i).word.headD 0 = 1 then p.ts[a].xs else []⟩ := by
    show cycNext (nums p.ts) (p.it i) = _
    unfold cycNext cycWord
    rw [ha, hlen, Int.toNat_natCast]
    have hg : (nums p.ts).getD a [] = p.ts[a].xs := by simp [nums, hT]
    rw [hg]
  have hr := h.run
  rw [ha] at hr
  refine (cyclicStep_x X p.w0 p.g p.A p.n p.c p.ts a Q _ r (p.it i).word p.ts[a] W hp.words h.low hp.hg hr h.own (Lib.hid h.ng) (Lib.hid h.nq) (Lib.hid h.lt) hl0 (by omega) hp.hn (by omega) (Lib.hid hT) (by omega)).mono ?_
  rintro e W' ⟨Q', r', rfl, hr', ho', hn', hb', hf'⟩
  refine ⟨ret_bool ?_, ⟨Q', r', h.ng, fun b hb => by have := h.lt b hb; have := hf'.size; omega, ?_, ?_, hn', hb'⟩, hf'⟩
  · show _ = decide ((p.it (i + 1)).word.length ≤ 1000)
    rw [hnx]
  · rw [hnx]; exact hr'
  · rw [hnx]; exact ho'

theorem cycM_word (g : Nat) (w : World) : (method 334 98 (.pointer (some ⟨g, 0, none⟩)) "loop.example/g01079/impl.word").run Try.prog w = .ok (189, .pointer (some ⟨g, 0, none⟩)) w := by kernel_rfl
theorem cycM_halts (g : Nat) (w : World) : (method 334 98 (.pointer (some ⟨g, 0, none⟩)) "loop.example/g01079/impl.halts").run Try.prog w = .ok (50, .pointer (some ⟨g, 0, none⟩)) w := by kernel_rfl
theorem cycM_step (g : Nat) (w : World) : (method 334 98 (.pointer (some ⟨g, 0, none⟩)) "loop.example/g01079/impl.step").run Try.prog w = .ok (51, .pointer (some ⟨g, 0, none⟩)) w := by kernel_rfl

theorem runCycSys (p : Cg) (hp : p.Ok) (N : Nat) (fv : FuncId) (lb : Array Value) (vis : Nat → Bool) (D : Nat → (Nat → Prop) → World → Prop) (hD : ∀ i, FrD (D i)) (w : World) (hN : N ≤ 1000000)
    (hcall : ∀ (args : Array Value) (w : World), (callFunc fv args).run Try.prog w = .ok (.enter fv args) w)
    (hB : ∀ i u W, i ≤ N → p.sys.Alive p.x i → CgV p i (D i) u W → Calls Try.prog fv (#[u] ++ lb) W fun e W' => e = .returned (.bool (vis i)) ∧ CgS p i (D (i + 1)) W') (h0 : CgS p 0 (D 0) w) :
    Calls Try.prog 42 #[.iface 98 (.pointer (some ⟨p.g, 0, none⟩)), .int .i64 (N : Int), .func (.func fv) #[] lb] w (SysP p.sys p.x N vis (fun i W => CgS p i (D (i + 1)) W) (fun W => Below p.w0.heap.size p.w0 W)) := by
  refine runSystem_any p.sys p.x N _ _ _ _ _ fv lb vis (fun i W => CgS p i (D i) W) (fun i u W => CgV p i (D i) u W) _ _ w hN (cycM_word p.g) (cycM_halts p.g) (cycM_step p.g) Try.call189 Try.call50 Try.call51 hcall ?_ hB ?_ ?_ h0
  · rintro i W _ _ ⟨u, Q, r, X, rfl, ho, hd⟩
    exact (cyclicWord_any ho.run).mono fun e W' ⟨he, hW⟩ => ⟨_, he, Q, r, X, rfl, hW ▸ ho, hW ▸ hd⟩
  · rintro i W _ hal ⟨u, Q, r, X, rfl, ho, hd⟩
    refine (cyclicHalts_any ho.run).mono ?_
    rintro e W' ⟨he, rfl⟩
    exact ⟨he, _, Q, r, X, rfl, ho, hd⟩
  · rintro i W _ hal hh ⟨u, Q, r, X, rfl, ho, hd⟩
    refine (cycStep_g hp hal hh ho).mono ?_
    rintro e W' ⟨he, ⟨Q', r', ho'⟩, hf⟩
    exact ⟨he, fun _ => ⟨_, Q', r', X, rfl, ho', hD _ X W _ hd hf⟩, fun _ => ho'.low⟩

theorem CgO.turn {p : Cg} {i r : Nat} {Q : Option Addr} {X Y : Nat → Prop} {W W' : World} (h : CgO p i Q r X W) (k : Keep Y W W') (hY : ∀ b, Y b → X b ∧ p.w0.heap.size ≤ b) : CgO p i Q r (XGrow X W.heap.size W'.heap.size) W' := by
  have hg : p.g < W.heap.size := h.run.lt
  refine ⟨?_, ?_, ?_, ?_, ?_, ?_⟩
  · rintro (h1 | ⟨h1, _⟩)
    · exact h.ng h1
    · omega
  · rintro b (h1 | ⟨_, h1⟩)
    · have := h.lt b h1; have := k.size; omega
    · exact h1
  · exact (k.block p.g hg (fun hy => h.ng (hY _ hy).1)).trans h.run
  · exact h.own.kept fun b hb _ hlt => k.block b hlt (fun hy => h.nq b hb (hY b hy).1)
  · rintro b hb (h1 | ⟨h1, _⟩)
    · exact h.nq b hb h1
    · have := h.own.blk_lt b hb; omega
  · exact ⟨k.os.trans h.low.os, k.tape.trans h.low.tape, k.output.trans h.low.output, Nat.le_trans h.low.size k.size, fun b hb => (k.block b (by have := h.low.size; omega) (fun hy => by have := (hY b hy).2; omega)).trans (h.low.block b hb)⟩
end Go.Proofs.Ytfdbhlhlhjdpbaa

/-
  Contract of impl.RunCyclicTag.
-/
namespace Go.Proofs.Ytfdbhlhlhjdpbaa
open Go.RowKit

/-- A new word, a number and a code. -/
def NewWd3 (w : World) (r : List Int × Int × Int) (e : Ending) (w' : World) : Prop :=
  ∃ A c, e = .returned (.tuple #[.slice A r.1.length c, .int .i64 r.2.1, .int .i64 r.2.2]) ∧ Own w' w.heap.size 2 1 A r.1.length c (ints r.1) ∧ Below w.heap.size w w'
theorem wd3_nil {w wf : World} {k : Int} {r : List Int × Int × Int} (hr : r = ([], 0, k)) (hz : Below w.heap.size w wf) : NewWd3 w r (.returned (.tuple #[.slice none 0 0, .int .i64 0, .int .i64 k])) wf := by
  subst hr; exact ⟨none, 0, rfl, Own.nil, hz⟩

set_option maxRecDepth 100000 in
set_option maxHeartbeats 8000000 in
theorem rctI_any (d : Int) (A : Option Addr) (n c : Nat) (ts : List Sl) (B : Option Addr) (m k : Nat) (hs : List Int) (C : Option Addr) (l r : Nat) (xs : List Int) (steps : Int) (w : World) (hx : SII w A n ts) (hy : SI w B m hs) (hz : SI w C l xs) (hn : n ≤ 1048576) (hm : m ≤ 1048576) (hns : ∀ t ∈ ts, t.xs.length ≤ 1048576) (hl : l ≤ 1048576) :
    Calls Try.prog 12 #[.agg #[.int .i64 d, .slice A n c, .slice B m k], .slice C l r, .int .i64 steps] w (NewWd3 w (rctF d (nums ts) hs xs steps)) := by
  have HLN : Hid ((nums ts).length = n) := Lib.hid (by have := hx.len; simpa [nums] using this)
  have HXL := Lib.hid hz.len
  have HNS := Lib.hid hns
  clear hns
  obtain ⟨W, hW_⟩ : ∃ W, W = w.alloc (.cells #[.int .i64 d, .slice A n c, .slice B m k] 27) := ⟨_, rfl⟩
  have b0 : Blk W w.heap.size 27 #[.int .i64 d, .slice A n c, .slice B m k] := by rw [hW_]; exact Blk.new w _ _
  have y0 : Below w.heap.size w W := by rw [hW_]; exact (Below.refl _ _).alloc (Nat.le_refl _) _
  have HW := Lib.hid hW_
  clear hW_
  have q0 : W.cell? ⟨w.heap.size, 0, none⟩ = some (.int .i64 d) := b0.cell 0
  have q1 : W.cell? ⟨w.heap.size, 1, none⟩ = some (.slice A n c) := b0.cell 1
  have q2 : W.cell? ⟨w.heap.size, 2, none⟩ = some (.slice B m k) := b0.cell 2
  go_enter Try.func12, Try.ntmps12
  go_wp2_with fail
  rw [← HW.out]
  refine (tagCode_any _ _ _ _ ts _ _ _ hs _ _ _ xs _ (hx.below y0) (hy.below y0) (hz.below y0) hn hm hl (fun t ht => by have := HNS.out t ht; omega)).mono ?_
  rintro e w2 ⟨rfl, z2⟩
  have y2 := y0.trans (z2.mono y0.size)
  have c0 := b0.below' z2
  clear q0 q1 q2 b0
  have q0 : w2.cell? ⟨w.heap.size, 0, none⟩ = some (.int .i64 d) := c0.cell 0
  have q1 : w2.cell? ⟨w.heap.size, 1, none⟩ = some (.slice A n c) := c0.cell 1
  have q2 : w2.cell? ⟨w.heap.size, 2, none⟩ = some (.slice B m k) := c0.cell 2
  rcases tagCode_01 d (nums ts) hs xs with hcode | hcode
  rotate_left
  · have HF := Lib.hid (rctF_bad (steps := steps) hcode)
    rw [hcode]
    clear hcode
    go_wp2_with fail
    exact bodyPost_ret (v := .tuple #[.slice none 0 0, .int .i64 0, .int .i64 1]) (by simp [results, Try.results12, go_sem]) rfl (wd3_nil HF.out y2)
  have HCODE := Lib.hid hcode
  rw [hcode]
  clear hcode
  cases a2 : inB steps 0 60
  · have HF := Lib.hid (rctF_range HCODE.out a2)
    have A2 := Lib.hid a2
    clear a2
    go_wp2_with (go_at_call 41; refine (within_is A2.out _).mono ?_; rintro e w' ⟨rfl, rfl⟩)
    exact bodyPost_ret (v := .tuple #[.slice none 0 0, .int .i64 0, .int .i64 2]) (by simp [results, Try.results12, go_sem]) rfl (wd3_nil HF.out y2)
  have A2 := Lib.hid a2
  have hb := (inB_iff _ _ _).1 a2
  obtain ⟨S, rfl⟩ : ∃ S : Nat, steps = (S : Int) := ⟨steps.toNat, by omega⟩
  obtain ⟨v1, v2, v3, v4, v5, v6, v7, v8⟩ := tagCode_parts HCODE.out
  obtain ⟨dn, rfl⟩ : ∃ dn : Nat, d = (dn : Int) := ⟨d.toNat, by omega⟩
  clear a2
  go_wp2_with (go_at_call 41; refine (within_is A2.out _).mono ?_; rintro e w' ⟨rfl, rfl⟩)
  refine (turnOfWord_any _ _ _ _ ts _ _ _ hs _ _ _ xs _ (hx.below y2) (hy.below y2) (hz.below y2) hn hm hl HNS.out).mono ?_
  rintro e w3 ⟨A3, c3, rfl, o3, z3⟩
  have y3 := y2.trans (z3.mono y2.size)
  cases hfit : (cycFitsB dn (nums ts) && decide (xs.length * (nums ts).length ≤ 1000))
  · have HF := Lib.hid (rctF_fits HCODE.out A2.out hfit)
    rw [turnOfWordF_at HCODE.out, hfit] at o3 ⊢
    clear hfit
    rw [if_neg (by decide)] at o3 ⊢
    dsimp only [List.length_nil]
    obtain ⟨w4, hW_⟩ : ∃ W_, W_ = w3.alloc (.cells #[.int .i64 0, .slice A3 0 c3] 36) := ⟨_, rfl⟩
    have b4 : Blk w4 w3.heap.size 36 #[.int .i64 0, .slice A3 0 c3] := by rw [hW_]; exact Blk.new w3 _ _
    have z4 : Below w3.heap.size w3 w4 := by rw [hW_]; exact (Below.refl _ _).alloc (Nat.le_refl _) _
    have Hw4 := Lib.hid hW_
    clear hW_
    have y4 := y3.trans (z4.mono y3.size)
    go_upto_region 7 with fail
    rw [← Hw4.out]
    go_wp2_with fail
    exact bodyPost_ret (v := .tuple #[.slice none 0 0, .int .i64 0, .int .i64 5]) (by simp [results, Try.results12, go_sem]) rfl (wd3_nil HF.out y4)
  have HFIT := Lib.hid hfit
  rw [turnOfWordF_at HCODE.out, hfit] at o3 ⊢
  clear hfit
  rw [if_pos rfl] at o3 ⊢
  dsimp only at o3 ⊢
  rw [HLN.out] at o3 v5 v6 v7 ⊢
  obtain ⟨M, hM⟩ : ∃ M, M = (codesL n xs).length := ⟨_, rfl⟩
  have hM1 : M ≤ 1000 := by
    rw [hM, codesL_len]
    have := HFIT.out
    simp only [Bool.and_eq_true, decide_eq_true_eq] at this
    rw [HLN.out] at this
    exact this.2
  rw [← hM] at o3 ⊢
  have HM := Lib.hid hM
  have V3 := Lib.hid v3
  have V5 := Lib.hid v5
  have V8 := Lib.hid v8
  have hs23 := z3.size
  have hwl2 := y2.size
  clear hM v3 v5 v8
  obtain ⟨w4, hW_⟩ : ∃ W_, W_ = w3.alloc (.cells #[.int .i64 0, .slice A3 M c3] 36) := ⟨_, rfl⟩
  have b4 : Blk w4 w3.heap.size 36 #[.int .i64 0, .slice A3 M c3] := by rw [hW_]; exact Blk.new w3 _ _
  have z4 : Below w3.heap.size w3 w4 := by rw [hW_]; exact (Below.refl _ _).alloc (Nat.le_refl _) _
  have Hw4 := Lib.hid hW_
  clear hW_
  have y4 := y3.trans (z4.mono y3.size)
  have o4 := o3.below z4
  have c04 := (c0.below' z3).below' z4
  clear q0 q1 q2
  have q0 : w4.cell? ⟨w.heap.size, 0, none⟩ = some (.int .i64 (dn : Int)) := c04.cell 0
  have q1 : w4.cell? ⟨w.heap.size, 1, none⟩ = some (.slice A n c) := c04.cell 1
  have q2 : w4.cell? ⟨w.heap.size, 2, none⟩ = some (.slice B m k) := c04.cell 2
  go_upto_region 9 with fail
  rw [← Hw4.out]
  have HTS := Lib.hid (tagSteps_any _ A n c ts B m k hs C l r xs S w4 (hx.below y4) (hy.below y4) (hz.below y4) hn hm hl HCODE.out (by omega))
  go_wp2_with fail
  refine HTS.out.mono ?_
  rintro e w5 ⟨rfl, z5⟩
  have y5 := y4.trans (z5.mono y4.size)
  have z45 := z4.trans (z5.mono z4.size)
  clear HTS
  by_cases hcd : (tagSys (dn : Int) (nums ts) hs).code S xs = 0
  rotate_left
  · have HF := Lib.hid (rctF_code HCODE.out A2.out HFIT.out hcd)
    rw [Int.toNat_natCast] at HF
    generalize (tagSys (dn : Int) (nums ts) hs).code S xs = cd at *
    clear q0 q1 q2
    go_wp2_with fail
    exact bodyPost_ret (v := .tuple #[.slice none 0 0, .int .i64 0, .int .i64 cd]) (by simp [results, Try.results12, go_sem]) rfl (wd3_nil HF.out y5)
  rw [hcd]
  have HCD := Lib.hid hcd
  clear hcd
  have c05 := c04.below' z5
  clear q0 q1 q2
  have q0 : w5.cell? ⟨w.heap.size, 0, none⟩ = some (.int .i64 (dn : Int)) := c05.cell 0
  have q1 : w5.cell? ⟨w.heap.size, 1, none⟩ = some (.slice A n c) := c05.cell 1
  have q2 : w5.cell? ⟨w.heap.size, 2, none⟩ = some (.slice B m k) := c05.cell 2
  have HOT := Lib.hid (cyclicOfTag_any dn A n c ts B m k hs w5 (hx.below y5) (tagCode_zero.1 HCODE.out).1)
  go_wp2_with fail
  refine HOT.out.mono ?_
  rintro e w6 ⟨(⟨hfit6, A6, us, rfl, hO6, hnu6⟩ | ⟨hfit6, rfl⟩), z6⟩
  rotate_left
  · exfalso
    have := HFIT.out
    rw [hfit6] at this
    cases this
  clear HOT hfit6
  have y6 := y5.trans (z6.mono y5.size)
  obtain ⟨N, hN⟩ : ∃ N, N = n * dn := ⟨_, rfl⟩
  have hN4 : N ≤ 400 := by
    have := HFIT.out
    unfold cycFitsB at this
    simp only [Bool.and_eq_true, decide_eq_true_eq] at this
    rw [HLN.out, ← hN] at this
    exact this.1.1
  rw [← hN] at hO6 ⊢
  have HN := Lib.hid hN
  have HNU := Lib.hid hnu6
  clear hN hnu6
  obtain ⟨w7, hW_⟩ : ∃ W_, W_ = w6.alloc (.cells #[.slice A6 N N] 95) := ⟨_, rfl⟩
  have b7 : Blk w7 w6.heap.size 95 #[.slice A6 N N] := by rw [hW_]; exact Blk.new w6 _ _
  have z7 : Below w6.heap.size w6 w7 := by rw [hW_]; exact (Below.refl _ _).alloc (Nat.le_refl _) _
  have Hw7 := Lib.hid hW_
  clear hW_
  have y7 := y6.trans (z7.mono y6.size)
  have b47 := ((b4.below' z5).below' z6).below' z7
  have o47 := ((o4.below z5).below z6).below z7
  have hO7 := hO6.below z7
  have c07 := (c05.below' z6).below' z7
  have hz7 : SI w7 A3 M (codesL n xs) := o47.rd
  clear q0 q1 q2 c05 c04 b4 o4 o3 hO6 z45 c0
  have q0 : w7.cell? ⟨w6.heap.size, 0, none⟩ = some (.slice A6 N N) := b7.cell 0
  have t0 : w7.cell? ⟨w3.heap.size, 0, none⟩ = some (.int .i64 0) := b47.cell 0
  have t1 : w7.cell? ⟨w3.heap.size, 1, none⟩ = some (.slice A3 M c3) := b47.cell 1
  have l7 := b7.lt
  have l47 := b47.lt
  have hw4 : w4.heap.size = w3.heap.size + 1 := by rw [Hw4.out]; simp
  have hw6 : w3.heap.size < w6.heap.size := by
    have h2 := z5.size
    have h3 := z6.size
    omega
  obtain ⟨T, hT⟩ : ∃ T, T = S * N := ⟨_, rfl⟩
  have hT1 : T ≤ 60 * 400 := by rw [hT]; exact Nat.mul_le_mul (by omega) hN4
  have w1 : IntKind.i64.wrap ((S : Int) * (N : Int)) = (T : Int) := by rw [IntWalk.i64_in _ (by rw [← Int.natCast_mul, ← hT]; omega), hT]; simp
  have HT := Lib.hid hT
  clear hT
  go_upto_region 13 with fail
  rw [← Hw7.out]
  go_region_held3 (fun w' => w'.cell? ⟨w6.heap.size, 0, none⟩ = some (.slice A6 N N) ∧ w'.cell? ⟨w3.heap.size, 0, none⟩ = some (.int .i64 0) ∧ w'.cell? ⟨w3.heap.size, 1, none⟩ = some (.slice A3 M c3))
    (first
      | (go_keep; done)
      | (exact ⟨(hb8.cell (p := ⟨w6.heap.size, 0, none⟩) l7).trans q0, (hb8.cell (p := ⟨w3.heap.size, 0, none⟩) l47).trans t0, (hb8.cell (p := ⟨w3.heap.size, 1, none⟩) l47).trans t1⟩))
    (first
      | (go_at_call 48; refine (cyclicRunOf_any _ _ _ _ _ _ _ (codesL n xs) _ (Rd.drewN hz7 1) (by omega)).mono ?_; rintro e w8 ⟨g, Q, r8, rfl, hg8, hr8, ho8, hb8⟩)
      | (go_at_call 49; refine (sizeII_any _ _ _ _ (by omega)).mono ?_; rintro e w' ⟨rfl, rfl⟩))
  have hb8' : Below w7.heap.size w7 w8 := below_undrew (n := 1) hb8
  have hg8' : w7.heap.size ≤ g := hg8
  obtain ⟨p, hp⟩ : ∃ p : Cg, p = ⟨w7, g, A6, N, N, us, ⟨0, codesL n xs⟩⟩ := ⟨_, rfl⟩
  have hnuv : nums p.ts = cycWords dn (nums ts) := by rw [hp]; exact HNU.out
  have hpx : p.x = ⟨0, codesL (nums ts).length xs⟩ := by rw [hp, HLN.out]
  have hok : p.Ok := by
    refine ⟨?_, by rw [hp]; exact hO7.sii, by rw [hp]; exact hg8', by rw [hp]; show N ≤ 1048576; omega⟩
    rw [hnuv, hpx]
    exact cyc_valid (by omega) (by rw [HLN.out]; exact v6) HFIT.out
  have hTT : T = S * ((nums ts).length * dn) := by rw [HT.out, HN.out, HLN.out]
  have hsteps := cyc_steps (d := dn) (by omega) HCODE.out S (Sys.code_alive HCD.out)
  rw [← hTT, ← hnuv, ← hpx] at hsteps
  have HEND := Lib.hid hsteps.1
  have HNE : Hid (∀ j, j < T → p.sys.halt (p.it j) = false) := Lib.hid (fun j hj => decide_eq_false (hsteps.2 j hj))
  have hrct : ∀ v, p.sys.code T p.x = v → (cycSys (cycWords dn (nums ts))).code (S * ((nums ts).length * dn)) ⟨0, codesL (nums ts).length xs⟩ = v := by
    intro v hv
    rw [← hTT, ← hnuv, ← hpx]; exact hv
  have HRCT := Lib.hid hrct
  have h0 : ∃ Q r, CgO p 0 Q r (fun _ => False) w8 := by
    rw [hp]
    exact ⟨Q, r8, ⟨id, fun _ h => h.elim, hr8, ho8, fun _ _ h => h, hb8'⟩⟩
  have HP := Lib.hid hp
  have hpg : Hid (p.g = g) := Lib.hid (by rw [hp])
  have hw0 : Hid (p.w0 = w7) := Lib.hid (by rw [hp])
  have HTT := Lib.hid hTT
  have HX := Lib.hid hx
  have HB := Lib.hid (b7.below' hb8')
  clear hp hr8 ho8 hb8 hsteps hrct hnuv hpx hTT q0 t0 t1 b47 o47 hO7 hz7 b7
  go_wp2_with fail
  go_loopw [57] (fun i wr => ∃ (j : Nat) (Q : Option Addr) (r : Nat), i = .int .i64 (j : Int) ∧ j ≤ T ∧ p.sys.Alive p.x j ∧ CgO p j Q r (fun _ => False) wr) (fun i _ => T - (intOf i).toNat)
  case atStart =>
    obtain ⟨Q, r, h⟩ := h0
    exact ⟨0, Q, r, rfl, Nat.zero_le _, Sys.Alive.zero _ _, h⟩
  case round =>
    obtain ⟨j, Q1, r1, rfl, hj, hal, ho⟩ := hrel
    have HAL := Lib.hid hal
    clear hal h0
    have hlow : Below w.heap.size w wr := by have := ho.low; rw [hw0.out] at this; exact y7.trans (this.mono y7.size)
    by_cases hlt : j < T
    · have hlt' : (j : Int) < (T : Int) := by omega
      have hh0 := cyclicHalts_any ho.run
      rw [hpg.out] at hh0
      have hd0 : decide ((p.it j).word.length = 0) = false := HNE.out j hlt
      rw [hd0] at hh0
      have HH := Lib.hid hh0
      have hs0 := cycStep_g hok HAL.out (HNE.out j hlt) ho
      rw [hpg.out] at hs0
      have HS := Lib.hid hs0
      clear hh0 hd0 hs0
      go_wp2_with fail
      refine HH.out.mono ?_
      rintro e W' ⟨rfl, rfl⟩
      go_wp2_with fail
      refine HS.out.mono ?_
      rintro e W3 ⟨rfl, ⟨Q', r', ho'⟩, _⟩
      have hlow3 : Below w.heap.size w W3 := by have := ho'.low; rw [hw0.out] at this; exact y7.trans (this.mono y7.size)
      cases hr : p.sys.room (p.it j) with
      | true =>
        have HR := Lib.hid hr
        clear hr
        go_wp2_with fail
        go_roundw
        case rel => exact ⟨j + 1, Q', r', by go_num, by omega, HAL.out.step (HNE.out j hlt) HR.out, ho'⟩
        case measure => simp [intOf]; omega
      | false =>
        have hcf := HRCT.out _ (Sys.code_full hlt HAL.out (HNE.out j hlt) hr)
        have HF := Lib.hid (rctF_full HCODE.out A2.out HFIT.out HCD.out (by rw [Int.toNat_natCast]; rw [Int.toNat_natCast]; rw [hcf]; decide))
        clear hr hcf
        go_wp2_with fail
        exact bodyPost_ret (v := .tuple #[.slice none 0 0, .int .i64 0, .int .i64 5]) (by simp [results, Try.results12, go_sem]) rfl (wd3_nil HF.out hlow3)
    · have hjT : j = T := by omega
      subst hjT
      have hl7 : Below w7.heap.size w7 wr := by have := ho.low; rwa [hw0.out] at this
      have q1 : wr.cell? ⟨w.heap.size, 1, none⟩ = some (.slice A n c) := (c07.below' hl7).cell 1
      have HF := Lib.hid (rctF_ok HCODE.out A2.out HFIT.out HCD.out (by rw [Int.toNat_natCast]; rw [Int.toNat_natCast]; exact HRCT.out _ (Sys.code_ok HAL.out)))
      rw [Int.toNat_natCast, Int.toNat_natCast, ← HTT.out] at HF
      have hrun := ho.run
      have hown := ho.own
      have he := HEND.out
      have hit : p.it j = p.sys.it p.x j := rfl
      rw [hit, he, hpg.out] at hrun
      rw [hit, he, HLN.out] at hown
      rw [HLN.out] at hrun
      have hgood := tagAlive_good HCODE.out (Sys.code_alive HCD.out)
      generalize (tagSys (dn : Int) (nums ts) hs).it xs S = zs at *
      obtain ⟨p1, p2, p3, p4, p5, p6, p7, p8⟩ := tagCode_parts hgood
      rw [HLN.out] at p5
      dsimp only at hrun hown
      have hcl : (codesL n zs).length ≤ 1048576 := by
        rw [codesL_len]
        have := Nat.mul_le_mul p4 v7
        omega
      have HTU := Lib.hid (cyclicTurn_any hrun hown.rd hcl)
      clear hrun hown he hit ho p1 p2 p3 p6 p7 p8 hgood
      go_wp2_with (go_at_call 49; refine (sizeII_any _ _ _ _ (by omega)).mono ?_; rintro e w' ⟨rfl, rfl⟩)
      refine HTU.out.mono ?_
      rintro e w9 ⟨Q9, r9, rfl, o9, z9⟩
      dsimp only at o9 ⊢
      have hlow9 := hlow.trans (z9.mono hlow.size)
      have hsw := hlow.size
      have hwt := wordOfTurn_codes n Q9 (codesL n zs).length r9 zs w9 o9.rd v6 hcl (by rcases o9.2 with ⟨_, h1, h2⟩ | ⟨_, _, _, _, _, _, h1, _⟩ <;> omega) p5
      have HWT := Lib.hid hwt
      clear hwt
      go_wp2_with fail
      refine HWT.out.mono ?_
      rintro e w10 ⟨Q10, r10, rfl, o10, z10⟩
      have hs9 := hlow9.size
      go_wp2_with fail
      refine bodyPost_ret (v := .tuple #[.slice Q10 zs.length r10, .int .i64 (j : Int), .int .i64 0]) (by simp [results, Try.results12, go_sem]) rfl ?_
      rw [HF.out]
      exact ⟨Q10, r10, rfl, o10.mono hs9, hlow9.trans (z10.mono hs9)⟩
end Go.Proofs.Ytfdbhlhlhjdpbaa

/-
  WordOfTurn on the codes of a word.
-/
namespace Go.Proofs.Ytfdbhlhlhjdpbaa
open Go.RowKit

theorem fits_parts {d n : Nat} {words : List (List Int)} {l : Nat} (h : (cycFitsB d words && decide (l * n ≤ 1000)) = true) : cycFitsB d words = true ∧ words.length * d ≤ 400 ∧ l * n ≤ 1000 := by
  simp only [Bool.and_eq_true, decide_eq_true_eq] at h
  refine ⟨h.1, ?_, h.2⟩
  have h1 := h.1
  unfold cycFitsB at h1
  simp only [Bool.and_eq_true, decide_eq_true_eq] at h1
  exact h1.1
theorem cycWords_row {d : Nat} {words : List (List Int)} (h : cycFitsB d words = true) : ∀ v ∈ cycWords d words, v.length ≤ 1000 := by
  intro v hv
  unfold cycFitsB at h
  simp only [Bool.and_eq_true, decide_eq_true_eq, List.all_eq_true] at h
  unfold cycWords at hv
  rcases List.mem_append.1 hv with hv | hv
  · obtain ⟨u, hu, rfl⟩ := List.mem_map.1 hv
    rw [codesL_len]; exact h.2 u hu
  · obtain ⟨_, rfl⟩ := List.mem_replicate.1 hv
    simp
set_option maxRecDepth 100000 in
set_option maxHeartbeats 4000000 in
theorem wordOfTurnI_any (d : Nat) (A : Option Addr) (n c : Nat) (ts : List Sl) (B : Option Addr) (m k : Nat) (hs : List Int) (C : Option Addr) (N r : Nat) (ws : List Int) (w : World) (hx : SII w A n ts) (hy : SI w B m hs) (hz : SI w C N (codesL n ws)) (hn : n ≤ 1048576) (hm : m ≤ 1048576) (hns : ∀ t ∈ ts, t.xs.length ≤ 1048576)
    (hv : validTagB (d : Int) (nums ts) hs = true) (hf : (cycFitsB d (nums ts) && decide (ws.length * (nums ts).length ≤ 1000)) = true) (hr : N ≤ r) (hw : ∀ y ∈ ws, 0 ≤ y ∧ y < (n : Int)) :
    Calls Try.prog 14 #[.agg #[.int .i64 (d : Int), .slice A n c, .slice B m k], .agg #[.int .i64 0, .slice C N r]] w (NewWd w ws 0) := by
  have HLN : Hid ((nums ts).length = n) := Lib.hid (by have := hx.len; simpa [nums] using this)
  have HNS := Lib.hid hns
  have HV := Lib.hid hv
  have HF := Lib.hid hf
  have HWS := Lib.hid hw
  obtain ⟨v1, v2, v3, v4, v5⟩ := validTag_parts hv
  obtain ⟨f1, f2, f3⟩ := fits_parts hf
  rw [HLN.out] at v3 v4 f2 f3
  have HVT := Lib.hid (cyc_valid (d := d) (words := nums ts) (xs := ws) (by omega) (by rw [HLN.out]; exact v3) hf)
  rw [HLN.out] at HVT
  have HF1 := Lib.hid f1
  have hNl : N = ws.length * n := by have := hz.len; rw [codesL_len] at this; omega
  have hN : N ≤ 1000 := by omega
  clear hns hv hf hw v5 f1 hNl
  obtain ⟨W, hW_⟩ : ∃ W, W = (w.alloc (.cells #[.int .i64 (d : Int), .slice A n c, .slice B m k] 27)).alloc (.cells #[.int .i64 0, .slice C N r] 36) := ⟨_, rfl⟩
  have s_1 : (w.alloc (.cells #[.int .i64 (d : Int), .slice A n c, .slice B m k] 27)).heap.size = w.heap.size + 1 := by simp
  have b0 : Blk W w.heap.size 27 #[.int .i64 (d : Int), .slice A n c, .slice B m k] := by rw [hW_]; exact (Blk.new w _ _).alloc _
  have b1 : Blk W (w.heap.size + 1) 36 #[.int .i64 0, .slice C N r] := by rw [hW_, ← s_1]; exact Blk.new _ _ _
  have y0 : Below w.heap.size w W := by rw [hW_]; exact ((Below.refl _ _).alloc (Nat.le_refl _) _).alloc (by simp) _
  have HW := Lib.hid hW_
  clear hW_ s_1
  have q0 : W.cell? ⟨w.heap.size, 0, none⟩ = some (.int .i64 (d : Int)) := b0.cell 0
  have q1 : W.cell? ⟨w.heap.size, 1, none⟩ = some (.slice A n c) := b0.cell 1
  have q2 : W.cell? ⟨w.heap.size, 2, none⟩ = some (.slice B m k) := b0.cell 2
  go_enter Try.func14, Try.ntmps14
  go_wp2_with fail
  rw [← HW.out]
  refine (validTag_any _ _ _ _ ts _ _ _ hs _ (hx.below y0) (hy.below y0) hn hm (fun t ht => by have := HNS.out t ht; omega)).mono ?_
  rintro e w2 ⟨rfl, z2⟩
  rw [HV.out]
  have y2 := y0.trans (z2.mono y0.size)
  have c0 := b0.below' z2
  have c1 := b1.below' z2
  clear q0 q1 q2
  have q0 : w2.cell? ⟨w.heap.size, 0, none⟩ = some (.int .i64 (d : Int)) := c0.cell 0
  have q1 : w2.cell? ⟨w.heap.size, 1, none⟩ = some (.slice A n c) := c0.cell 1
  have q2 : w2.cell? ⟨w.heap.size, 2, none⟩ = some (.slice B m k) := c0.cell 2
  go_wp2_with fail
  refine (cyclicOfTag_any d _ _ _ ts _ _ _ hs _ (hx.below y2) HV.out).mono ?_
  rintro e w3 ⟨(⟨_, A3, us, rfl, hO, hnu⟩ | ⟨hfit, rfl⟩), z3⟩
  rotate_left
  · exact absurd (HF1.out.symm.trans hfit) (by decide)
  have y3 := y2.trans (z3.mono y2.size)
  obtain ⟨M, hM⟩ : ∃ M, M = n * d := ⟨_, rfl⟩
  rw [← hM] at hO f2 ⊢
  have HO := Lib.hid hO
  have HNU := Lib.hid hnu
  clear hM hnu hO
  obtain ⟨w4, hW_⟩ : ∃ W_, W_ = w3.alloc (.cells #[.slice A3 M M] 95) := ⟨_, rfl⟩
  have b4 : Blk w4 w3.heap.size 95 #[.slice A3 M M] := by rw [hW_]; exact Blk.new w3 _ _
  have z4 : Below w3.heap.size w3 w4 := by rw [hW_]; exact (Below.refl _ _).alloc (Nat.le_refl _) _
  have Hw4 := Lib.hid hW_
  clear hW_
  have c04 := (c0.below' z3).below' z4
  have c14 := (c1.below' z3).below' z4
  have y4 := y3.trans (z4.mono y3.size)
  clear q0 q1 q2
  have q0 : w4.cell? ⟨w.heap.size, 0, none⟩ = some (.int .i64 (d : Int)) := c04.cell 0
  have q1 : w4.cell? ⟨w.heap.size, 1, none⟩ = some (.slice A n c) := c04.cell 1
  have q2 : w4.cell? ⟨w.heap.size, 2, none⟩ = some (.slice B m k) := c04.cell 2
  have u0 : w4.cell? ⟨(w.heap.size + 1), 0, none⟩ = some (.int .i64 0) := c14.cell 0
  have u1 : w4.cell? ⟨(w.heap.size + 1), 1, none⟩ = some (.slice C N r) := c14.cell 1
  have p0 : w4.cell? ⟨w3.heap.size, 0, none⟩ = some (.slice A3 M M) := b4.cell 0
  go_upto_region 6 with fail
  rw [← Hw4.out]
  have hU4 := (HO.out.below z4).sii
  have hz4 := hz.below y4
  have hrow : ∀ t ∈ us, t.xs.length ≤ 1048576 := fun t ht => by
    have := cycWords_row HF1.out t.xs (by rw [← HNU.out]; exact List.mem_map.2 ⟨t, ht, rfl⟩)
    omega
  have HVV : Hid (validTurnB (nums us) ⟨0, codesL n ws⟩ = true) := Lib.hid (by rw [HNU.out]; exact HVT.out)
  have HVC := Lib.hid (validTurn_any A3 M M us 0 C N r (codesL n ws) w4 hU4 hz4 (by omega) (by omega) hrow)
  clear hU4 hrow
  go_wp2_with fail
  refine HVC.out.mono ?_
  rintro e w5 ⟨rfl, z5⟩
  rw [HVV.out]
  have y5 := y4.trans (z5.mono y4.size)
  have d04 := c04.below' z5
  have d14 := c14.below' z5
  have hz5 := hz4.below z5
  clear q0 q1 q2 u0 u1 p0 HVC
  have q0 : w5.cell? ⟨w.heap.size, 0, none⟩ = some (.int .i64 (d : Int)) := d04.cell 0
  have q1 : w5.cell? ⟨w.heap.size, 1, none⟩ = some (.slice A n c) := d04.cell 1
  have q2 : w5.cell? ⟨w.heap.size, 2, none⟩ = some (.slice B m k) := d04.cell 2
  have u0 : w5.cell? ⟨(w.heap.size + 1), 0, none⟩ = some (.int .i64 0) := d14.cell 0
  have u1 : w5.cell? ⟨(w.heap.size + 1), 1, none⟩ = some (.slice C N r) := d14.cell 1
  have l0 := d04.lt
  have l1 := d14.lt
  have HWC := Lib.hid (fun j => wordOfTurn_codes n C N r ws (w5.drewN j) (Rd.drewN hz5 j) v3 (by omega) hr HWS.out)
  go_upto_region 8 with fail
  go_region_held3 (fun w' => w'.cell? ⟨w.heap.size, 1, none⟩ = some (.slice A n c) ∧ w'.cell? ⟨w.heap.size + 1, 0, none⟩ = some (.int .i64 0) ∧ w'.cell? ⟨w.heap.size + 1, 1, none⟩ = some (.slice C N r))
    (first
      | (go_keep; done)
      | (exact ⟨(hb8.cell (p := ⟨w.heap.size, 1, none⟩) l0).trans q1, (hb8.cell (p := ⟨w.heap.size + 1, 0, none⟩) l1).trans u0, (hb8.cell (p := ⟨w.heap.size + 1, 1, none⟩) l1).trans u1⟩))
    (first
      | (go_at_call 52; refine (HWC.out 1).mono ?_; rintro e w8 ⟨A8, c8, rfl, o8, hb8⟩)
      | (go_at_call 49; refine (sizeII_any _ _ _ _ (by omega)).mono ?_; rintro e w' ⟨rfl, rfl⟩))
  have hb8' : Below w5.heap.size w5 w8 := below_undrew (n := 1) hb8
  go_wp2_with fail
  exact bodyPost_ret (v := .tuple #[.slice A8 ws.length c8, .int .i64 0]) (by simp [results, Try.results14, go_sem]) rfl ⟨A8, c8, rfl, o8.mono (by have := y5.size; simpa using this), y5.trans (hb8'.mono y5.size)⟩
end Go.Proofs.Ytfdbhlhlhjdpbaa

/-
  Whether two lists are equal (r8Same).
-/
namespace Go.Proofs.Ytfdbhlhlhjdpbaa
open Go.RowKit

/-- A slice that came in lies in a block that is there. -/
theorem okWide_blk {P : Program} {w : World} {r : Reach} {base : Nat} {t e : TypeId} {A : Option Addr} {n c : Nat} (ht : P.underlying t = some (.slice e)) (h : Value.okWide P w r base t (.slice A n c)) : ∀ k, blk A = some k → k < w.heap.size := by
  intro k hk
  cases A with
  | none => cases hk
  | some a =>
    simp only [Value.okWide, ht, Cell.okWide, Cell.ok] at h
    obtain ⟨_, _, _, _, row, cells, hs, _⟩ := h
    have hk' : a.block = k := by simpa [blk] using hk
    subst hk'
    refine Nat.lt_of_not_le fun hle => ?_
    unfold World.shape? at hs
    rw [Array.getElem?_eq_none hle] at hs
    cases hs
set_option maxHeartbeats 400000 in
theorem r8Same_any (A B : Option Addr) (n m c d : Nat) (xs ys : List Int) (w : World) (hx : SI w A n xs) (hy : SI w B m ys) (hn : n ≤ 9223372036854775807) :
    Calls Try.prog 15 #[.slice A n c, .slice B m d] w fun e w' => e = .returned (.bool (sameI xs ys)) ∧ ∃ q, w' = w.drewN q := by
  by_cases hnm : n = m
  · subst hnm
    go_enter Try.func15, Try.ntmps15
    go_wp2
    go_loopw [5] (fun i wr => ∃ k q : Nat, k ≤ n ∧ i = .int .i64 k ∧ Hid (xs.take k = ys.take k) ∧ wr = w.drewN q) (fun i _ => n - (intOf i).toNat)
    case atStart => exact ⟨0, 0, by omega, rfl, rfl, rfl⟩
    case round =>
      obtain ⟨k, q, hk, rfl, he, rfl⟩ := hrel
      by_cases hlt : k < n
      · obtain ⟨b, off, rfl, _, hc⟩ := hx.at_ hlt
        obtain ⟨b', off', rfl, _, hc'⟩ := hy.at_ hlt
        go_wp2
        go_quiet (fail)
        go_wp2
        · go_ret
          exact ⟨ret_bool (sameI_ne hlt hx.len hy.len (by assumption)), _, World.drewN_drewN _ _ _⟩
        · exact ⟨⟨k + 1, _, by omega, by go_num, take_next hlt hx.len hy.len he.out (by assumption), rfl⟩, by simp [intOf]; omega⟩
      · go_wp2
        go_ret
        exact ⟨ret_bool (sameI_eq (by omega) hx.len hy.len he.out), _, rfl⟩
  · have hne : ((n : Int) != (m : Int)) = true := by simp; omega
    go_enter Try.func15, Try.ntmps15
    go_wp2
    go_ret
    exact ⟨ret_bool (sameI_len hnm hx.len hy.len), 0, rfl⟩
theorem r8Same_yes (A B : Option Addr) (n c d : Nat) (xs : List Int) (w : World) (hx : SI w A n xs) (hy : SI w B n xs) (hn : n ≤ 9223372036854775807) :
    Calls Try.prog 15 #[.slice A n c, .slice B n d] w fun e w' => e = .returned (.bool true) ∧ ∃ q, w' = w.drewN q :=
  (r8Same_any A B n n c d xs xs w hx hy hn).mono fun _ _ ⟨h1, h2⟩ => ⟨by rw [h1]; simp [sameI], h2⟩
end Go.Proofs.Ytfdbhlhlhjdpbaa

/-
  The walk of the law FnCyclicTags: it returns true, and nothing that was there before has turned.
-/
namespace Go.Proofs.Ytfdbhlhlhjdpbaa
open Go.RowKit

theorem tag_lens {d : Nat} {ts : List Sl} {hs xs : List Int} (h : Small d (nums ts) hs xs) : ts.length ≤ 4 ∧ (∀ t ∈ ts, t.xs.length ≤ 1048576) ∧ hs.length ≤ 1048576 := by
  have h1 : (nums ts).length = ts.length := by simp [nums]
  have h2 := h.n4
  refine ⟨by omega, fun t ht => by have := h.row t.xs (List.mem_map.2 ⟨t, ht, rfl⟩); omega, ?_⟩
  have h3 := (tagCode_zero.1 h.code).1
  unfold validTagB risesB allIn at h3
  simp only [Bool.and_eq_true, decide_eq_true_eq, List.all_eq_true, inB_iff] at h3
  obtain ⟨⟨_, h4⟩, h5⟩ := h3
  have key : ∀ (l : List Int) (a : Int), l.Pairwise (· < ·) → (∀ y ∈ l, a ≤ y ∧ y ≤ 4) → a + l.length ≤ 5 ∨ l = [] := by
    intro l
    induction l with
    | nil => intro a _ _; exact .inr rfl
    | cons x r ih =>
      intro a hp hm
      obtain ⟨hp1, hp2⟩ := List.pairwise_cons.1 hp
      have hx := hm x (by simp)
      rcases ih (x + 1) hp2 (fun y hy => ⟨by have := hp1 y hy; omega, (hm y (by simp [hy])).2⟩) with h | rfl
      · left; simp only [List.length_cons]; omega
      · left; simp; omega
  rcases key hs 0 h4 (fun y hy => by have := h5 y hy; omega) with h | rfl
  · omega
  · simp
set_option maxRecDepth 100000 in
set_option maxHeartbeats 1600000 in
theorem lawCyclicTags (A : Option Addr) (n c : Nat) (xs : List Int) (B : Option Addr) (m d : Nat) (ys : List Int) (w : World) (hx : SB w A n xs) (hy : SB w B m ys) (hA : ∀ k, blk A = some k → k < w.heap.size) (hn : n ≤ 9223372036854775807) (hm : m ≤ 9223372036854775807) :
    Calls Try.prog 3 #[.slice A n c, .slice B m d] w fun e w' => e = .returned (.bool true) ∧ Below w.heap.size w w' := by
  cases hb : longB n m
  rotate_left
  · have HB := Lib.hid hb
    clear hb
    go_enter Try.func3, Try.ntmps3
    go_wp2_with (go_at_call 8; refine (r8Long_any _ _ _ _ _ _ _ hn hm).mono ?_; rw [HB.out]; rintro e w' ⟨rfl, rfl⟩)
    go_ret
    exact ⟨rfl, Below.refl _ _⟩
  have HB := Lib.hid hb
  clear hb
  have hr8 := r8AtF_range ys 0 6 hy.2
  have hr9 := hr8.2 (by decide)
  obtain ⟨N, hN⟩ : ∃ N : Nat, r8AtF ys 0 6 = (N : Int) := ⟨(r8AtF ys 0 6).toNat, by omega⟩
  have HN := Lib.hid hN
  rw [hN] at hr9
  have hN5 : N ≤ 5 := by omega
  clear hr8 hr9 hN
  go_enter Try.func3, Try.ntmps3
  go_wp2_with (go_at_call 8; refine (r8Long_any _ _ _ _ _ _ _ hn hm).mono ?_; rw [HB.out]; rintro e w' ⟨rfl, rfl⟩)
  refine (r8Tag_any A n c xs w hx hA hn).mono ?_
  rintro e W1 ⟨E, D, dc, ts, H, hc, hs, F, f, zs, rfl, oU, oH, oF, hsm, z1⟩
  obtain ⟨tl, htl⟩ : ∃ k, k = ts.length := ⟨_, rfl⟩
  obtain ⟨hl, hhl⟩ : ∃ k, k = hs.length := ⟨_, rfl⟩
  obtain ⟨zl, hzl⟩ : ∃ k, k = zs.length := ⟨_, rfl⟩
  obtain ⟨L1, L2, L3⟩ := tag_lens hsm
  rw [← htl] at oU L1 ⊢
  rw [← hhl] at oH L3 ⊢
  rw [← hzl] at oF ⊢
  have L4 : zl ≤ 7 := by rw [hzl]; exact hsm.short
  have HSM := Lib.hid hsm
  have HTL := Lib.hid htl
  have HL2 := Lib.hid L2
  clear hsm htl hhl hzl L2
  obtain ⟨W2, hW_⟩ : ∃ W_, W_ = W1.alloc (.cells #[.int .i64 (E : Int), .slice D tl dc, .slice H hl hc] 27) := ⟨_, rfl⟩
  have b2 : Blk W2 W1.heap.size 27 #[.int .i64 (E : Int), .slice D tl dc, .slice H hl hc] := by rw [hW_]; exact Blk.new W1 _ _
  have z2 : Below W1.heap.size W1 W2 := by rw [hW_]; exact (Below.refl _ _).alloc (Nat.le_refl _) _
  have HW2 := Lib.hid hW_
  clear hW_
  have sU := Lib.hid (oU.below z2).sii
  have sH := Lib.hid (oH.below z2).asI
  have sF := Lib.hid (oF.below z2).asI
  have sY := Lib.hid ((hy.below z1).below z2)
  have y2 : Below w.heap.size w W2 := z1.trans (z2.mono z1.size)
  have g2 := b2.lt
  have q0 : W2.cell? ⟨W1.heap.size, 0, none⟩ = some (.int .i64 (E : Int)) := b2.cell 0
  have q1 : W2.cell? ⟨W1.heap.size, 1, none⟩ = some (.slice D tl dc) := b2.cell 1
  have q2 : W2.cell? ⟨W1.heap.size, 2, none⟩ = some (.slice H hl hc) := b2.cell 2
  obtain ⟨i, hiN, hend⟩ := HSM.out.ended N (by omega)
  have HTF := Lib.hid (traceTagF_ended HSM.out.code ((inB_iff _ _ _).2 ⟨by omega, by omega⟩) hend)
  have HAL := Lib.hid hend.2.1
  have HTR := Lib.hid (fun j => traceTagI_any (E : Int) D tl dc ts H hl hc hs F zl f zs (N : Int) (W2.drewN j) (sU.out.drewN j) (Rd.drewN sH.out j) (Rd.drewN sF.out j) (by omega) L3 HL2.out (by omega))
  clear hend
  go_upto_region 4 with fail
  rw [← HW2.out]
  go_region_held3 (fun w' => w'.cell? ⟨W1.heap.size, 0, none⟩ = some (.int .i64 (E : Int)) ∧ w'.cell? ⟨W1.heap.size, 1, none⟩ = some (.slice D tl dc) ∧ w'.cell? ⟨W1.heap.size, 2, none⟩ = some (.slice H hl hc))
    (first
      | (go_keep; done)
      | (exact ⟨(hb3.cell (p := ⟨W1.heap.size, 0, none⟩) g2).trans q0, (hb3.cell (p := ⟨W1.heap.size, 1, none⟩) g2).trans q1, (hb3.cell (p := ⟨W1.heap.size, 2, none⟩) g2).trans q2⟩))
    (first
      | (go_at_call 10; refine (HTR.out 1).mono ?_; rintro e w3 ⟨A3, c3, us, rfl, oT, hnu, hb3⟩)
      | (go_at_call 11; refine (r8At_any _ _ _ ys 0 6 _ (sY.out.drewN 1) hm (by omega) (by omega) (by omega)).mono ?_; rw [HN.out]; rintro e w' ⟨rfl, rfl⟩))
  have z3 : Below W2.heap.size W2 w3 := below_undrew (n := 1) hb3
  rw [HTF.out] at oT hnu ⊢
  dsimp only at oT hnu ⊢
  rw [wordsTo_len] at oT ⊢
  obtain ⟨L, hL⟩ : ∃ L, L = i + 1 := ⟨_, rfl⟩
  rw [← hL] at oT ⊢
  clear hb3 HTR HTF
  have y3 : Below w.heap.size w w3 := y2.trans (z3.mono y2.size)
  have b3 := b2.below' z3
  have hT := oT.sii
  obtain ⟨u, ub, uo, hu, hum, rfl, hub, hcu, hur⟩ := hT.pick (k := i) (by omega)
  have hux : u.xs = (tagSys (E : Int) (nums ts) hs).it zs i := by
    have h1 : (nums us)[i]? = some u.xs := by simp [nums, hu.out]
    rw [hnu] at h1
    simpa [wordsTo] using h1.symm
  have huL : u.xs.length ≤ 30 := by rw [hux]; have := HSM.out.it_len i; omega
  have HUX := Lib.hid hux
  clear hux hu hum hnu
  have j1 : ¬ (L : Int) = 0 := by omega
  have j3 : (0 : Int) ≤ (i : Int) := by omega
  have j4 : (i : Int) < (L : Int) := by omega
  have j2 : IntKind.i64.wrap ((L : Int) - 1) = (i : Int) := by rw [IntWalk.i64_in _ (by omega)]; omega
  clear q0 q1 q2
  have q0 : w3.cell? ⟨W1.heap.size, 0, none⟩ = some (.int .i64 (E : Int)) := b3.cell 0
  have q1 : w3.cell? ⟨W1.heap.size, 1, none⟩ = some (.slice D tl dc) := b3.cell 1
  have q2 : w3.cell? ⟨W1.heap.size, 2, none⟩ = some (.slice H hl hc) := b3.cell 2
  have s3U := Lib.hid (sU.out.below z3)
  have s3H := Lib.hid (sH.out.below z3)
  have s3F := Lib.hid (sF.out.below z3)
  have HRC := Lib.hid (rctI_any (E : Int) D tl dc ts H hl hc hs F zl f zs (i : Int) w3 s3U.out s3H.out s3F.out (by omega) L3 HL2.out (by omega))
  have HRF := Lib.hid (HSM.out.rct (by omega : i ≤ 5) HAL.out)
  clear sU sH sF sY
  clear hL hT oH oU oF
  go_wp2_with (go_at_call 12; refine HRC.out.mono ?_; rw [HRF.out]; rintro e w4 ⟨A4, c4, rfl, o4, z4⟩)
  try dsimp only at o4
  rw [← HUX.out] at o4 ⊢
  obtain ⟨uL, huL2⟩ : ∃ k, k = u.xs.length := ⟨_, rfl⟩
  rw [← huL2] at o4 huL hcu hur ⊢
  have HUL2 := Lib.hid huL2
  clear huL2
  clear HRC q0 q1 q2
  have y4 : Below w.heap.size w w4 := y3.trans (z4.mono y3.size)
  have b4 := b3.below' z4
  have g4 := b4.lt
  have hub4 : ub < w4.heap.size := by have := z4.size; omega
  have v0 : w4.cell? ⟨ub, uo + i, none⟩ = some (.slice u.A uL u.c) := (z4.cell (p := ⟨ub, uo + i, none⟩) hub).trans hcu
  have q0 : w4.cell? ⟨W1.heap.size, 0, none⟩ = some (.int .i64 (E : Int)) := b4.cell 0
  have q1 : w4.cell? ⟨W1.heap.size, 1, none⟩ = some (.slice D tl dc) := b4.cell 1
  have q2 : w4.cell? ⟨W1.heap.size, 2, none⟩ = some (.slice H hl hc) := b4.cell 2
  have s4U := Lib.hid (s3U.out.below z4)
  have s4H := Lib.hid (s3H.out.below z4)
  have s4u := Lib.hid (hur.below z4)
  have HTW := Lib.hid (fun W' (hb : Below w4.heap.size w4 W') => turnOfWord_any (E : Int) D tl dc ts H hl hc hs u.A uL u.c u.xs W' (s4U.out.below hb) (s4H.out.below hb) (s4u.out.below hb) (by omega) L3 (by omega) HL2.out)
  have HTU : Hid (turnOfWordF (E : Int) (nums ts) hs u.xs = (⟨0, codesL tl u.xs⟩, 0)) := Lib.hid (by
    have h1 := HSM.out.turn (by omega : i ≤ 5) HAL.out
    rw [← HUX.out] at h1
    rw [h1, HTL.out]; simp [nums])
  obtain ⟨NC, hNC⟩ : ∃ k, k = (codesL tl u.xs).length := ⟨_, rfl⟩
  have HNC := Lib.hid hNC
  have HSS := Lib.hid (fun W' (h : Below w4.heap.size w4 W') => (⟨(h.cell (p := ⟨W1.heap.size, 0, none⟩) g4).trans q0, (h.cell (p := ⟨W1.heap.size, 1, none⟩) g4).trans q1, (h.cell (p := ⟨W1.heap.size, 2, none⟩) g4).trans q2, (h.cell (p := ⟨ub, uo + i, none⟩) hub4).trans v0⟩ : W'.cell? ⟨W1.heap.size, 0, none⟩ = some (.int .i64 (E : Int)) ∧ W'.cell? ⟨W1.heap.size, 1, none⟩ = some (.slice D tl dc) ∧ W'.cell? ⟨W1.heap.size, 2, none⟩ = some (.slice H hl hc) ∧ W'.cell? ⟨ub, uo + i, none⟩ = some (.slice u.A uL u.c)))
  clear s3U s3H s3F hur hcu hNC
  go_upto_region 9 with fail
  clear q0 q1 q2 v0
  go_cut [13, 14] (fun s13 s14 wx => ∃ (g5 : Nat) (A5 : Option Addr) (c5 : Nat), s13 = .pointer (some ⟨g5, 0, none⟩) ∧ s14 = .int .i64 0 ∧ Blk wx g5 36 #[.int .i64 0, .slice A5 NC c5] ∧ Own wx w4.heap.size 2 1 A5 NC c5 (ints (codesL tl u.xs)) ∧ Below w4.heap.size w4 wx)
  case first =>
    have hp : Below w4.heap.size w4 w4.drew := below_drewN (Below.refl _ _) 1
    refine wp_region_noPanic ?_
    refine wp_region_held_drew (S := (fun w' => w'.cell? ⟨W1.heap.size, 0, none⟩ = some (.int .i64 (E : Int)) ∧ w'.cell? ⟨W1.heap.size, 1, none⟩ = some (.slice D tl dc) ∧ w'.cell? ⟨W1.heap.size, 2, none⟩ = some (.slice H hl hc) ∧ w'.cell? ⟨ub, uo + i, none⟩ = some (.slice u.A uL u.c))) (by kernel_rfl) ?_ (fun hHeld => ?_)
    · exact HSS.out _ hp
    generalize w4.drew = Wc at *
    refine wpAnyH_take (i := 0) (v := ?_) rfl (by kernel_rfl) (by kernel_rfl) (by kernel_rfl) (fun _ _ _ h => h) (Or.inl ⟨by rfl, ?_⟩) (by assumption) ?_
    rotate_left
    · intro w hSw
      try dsimp only at hSw
      obtain ⟨h0_, h1_, h2_, h3_⟩ := hSw
      go_simp
      try with_reducible rfl
    try simp only [Act.put, List.setIfInBounds_toArray, List.set_cons_zero, List.set_cons_succ]
    refine wpAnyH_take (i := 1) (v := ?_) rfl (by kernel_rfl) (by kernel_rfl) (by kernel_rfl) (fun _ _ _ h => h) (Or.inl ⟨by rfl, ?_⟩) (by assumption) ?_
    rotate_left
    · intro w hSw
      try dsimp only at hSw
      go_simp
      try with_reducible rfl
    try simp only [Act.put, List.setIfInBounds_toArray, List.set_cons_zero, List.set_cons_succ]
    refine wpAnyH_take (i := 2) (v := ?_) rfl (by kernel_rfl) (by kernel_rfl) (by kernel_rfl) (fun _ _ _ h => h) (Or.inl ⟨by rfl, ?_⟩) (by assumption) ?_
    rotate_left
    · intro w hSw
      try dsimp only at hSw
      go_simp
      try with_reducible rfl
    try simp only [Act.put, List.setIfInBounds_toArray, List.set_cons_zero, List.set_cons_succ]
    refine wpAnyH_take (i := 3) (v := ?_) rfl (by kernel_rfl) (by kernel_rfl) (by kernel_rfl) (fun _ _ _ h => h) (Or.inl ⟨by rfl, ?_⟩) (by assumption) ?_
    rotate_left
    · intro w hSw
      try dsimp only at hSw
      go_simp
      try with_reducible rfl
    try simp only [Act.put, List.setIfInBounds_toArray, List.set_cons_zero, List.set_cons_succ]
    refine wpAnyH_take (i := 4) (v := ?_) rfl (by kernel_rfl) (by kernel_rfl) (by kernel_rfl) (fun _ _ _ h => h) (Or.inl ⟨by rfl, ?_⟩) (by assumption) ?_
    rotate_left
    · intro w hSw
      try dsimp only at hSw
      obtain ⟨h0_, h1_, h2_, h3_⟩ := hSw
      go_simp
      try with_reducible rfl
    try simp only [Act.put, List.setIfInBounds_toArray, List.set_cons_zero, List.set_cons_succ]
    refine wpAnyH_ready (rs := [5, 9]) (by kernel_rfl) (by simp) ?_
    refine AllReadyH.cons rfl (fun K hK => ?_) ?_
    · go_simp
      refine (HTW.out _ hp).mono ?_
      rw [HTU.out]
      rintro e w5 ⟨A5, c5, rfl, o5, z5⟩
      dsimp only at o5 ⊢
      rw [← HNC.out] at o5 ⊢
      replace o5 := o5.mono hp.size
      replace hp := hp.trans (z5.mono hp.size)
      try replace hbt := hbt.below' z5
      refine hK.out _ _ ?_ (fun hHeld => ?_)
      · first | exact HSS.out _ hf | exact HSS.out _ hp
      clear hK K
      try simp only [Act.put, List.setIfInBounds_toArray, List.set_cons_zero, List.set_cons_succ]
      refine wpAnyH_take (i := 6) (v := ?_) rfl (by kernel_rfl) (by kernel_rfl) (by kernel_rfl) (fun _ _ _ h => h) (Or.inl ⟨by rfl, ?_⟩) (by assumption) ?_
      rotate_left
      · intro w hSw
        try dsimp only at hSw
        go_simp
        try with_reducible rfl
      try simp only [Act.put, List.setIfInBounds_toArray, List.set_cons_zero, List.set_cons_succ]
      refine wpAnyH_take (i := 7) (v := ?_) rfl (by kernel_rfl) (by kernel_rfl) (by kernel_rfl) (fun _ _ _ h => h) (Or.inl ⟨by rfl, ?_⟩) (by assumption) ?_
      rotate_left
      · intro w hSw
        try dsimp only at hSw
        go_simp
        try with_reducible rfl
      try simp only [Act.put, List.setIfInBounds_toArray, List.set_cons_zero, List.set_cons_succ]
      refine wpAnyH_take (i := 8) (v := ?_) rfl (by kernel_rfl) (by kernel_rfl) (by kernel_rfl) (fun _ _ _ h => h) (Or.inl ⟨by rfl, ?_⟩) (by assumption) ?_
      rotate_left
      · intro w hSw
        try dsimp only at hSw
        go_simp
        try with_reducible rfl
      try simp only [Act.put, List.setIfInBounds_toArray, List.set_cons_zero, List.set_cons_succ]
      refine wpAnyH_ready (rs := [9]) (by kernel_rfl) (by simp) ?_
      refine AllReadyH.cons rfl (fun K hK => ?_) ?_
      · go_simp
        first
          | (have hp0 : Below w4.heap.size w4 w5 := hp; have o50 := o5; replace hp := hp.alloc hp.size (.cells #[.int .i64 0, .slice none 0 0] 36); have hbt : Blk (w5.alloc (.cells #[.int .i64 0, .slice none 0 0] 36)) w5.heap.size 36 #[.int .i64 0, .slice none 0 0] := Blk.new _ _ _; replace o5 := o5.alloc (.cells #[.int .i64 0, .slice none 0 0] 36))
          | (have hp0 : Below w4.heap.size w4 Wc := hp; replace hp := hp.alloc hp.size (.cells #[.int .i64 0, .slice none 0 0] 36); have hbt : Blk (Wc.alloc (.cells #[.int .i64 0, .slice none 0 0] 36)) Wc.heap.size 36 #[.int .i64 0, .slice none 0 0] := Blk.new _ _ _)
        refine hK.out _ _ ?_ (fun hHeld => ?_)
        · first | exact HSS.out _ hf | exact HSS.out _ hp
        clear hK K
        try simp only [Act.put, List.setIfInBounds_toArray, List.set_cons_zero, List.set_cons_succ]
        refine wpAnyH_ready (rs := [10]) (by kernel_rfl) (by simp) ?_
        refine AllReadyH.cons rfl (fun K hK => ?_) ?_
        · have x0 := hbt.cell 0
          have x1 := hbt.cell 1
          have f0 := hbt.frozen 0
          have f1 := hbt.frozen 1
          go_simp
          first
            | (have hf : Below w4.heap.size w4 (w5.alloc (.cells #[.int .i64 0, .slice A5 NC c5] 36)) := hp0.alloc hp0.size _; have hbf : Blk (w5.alloc (.cells #[.int .i64 0, .slice A5 NC c5] 36)) w5.heap.size 36 #[.int .i64 0, .slice A5 NC c5] := Blk.new _ _ _; have of := o50.alloc (.cells #[.int .i64 0, .slice A5 NC c5] 36))
            | (have hf := turn_below hp hp0.size (.int .i64 0) (.slice A5 NC c5); have hbf := turn_set hbt (.int .i64 0) (.slice A5 NC c5); have of := turn_far2 hbt o5 (.int .i64 0) (.slice A5 NC c5))
          refine hK.out _ _ ?_ (fun hHeld => ?_)
          · first | exact HSS.out _ hf | exact HSS.out _ hp
          clear hK K
          try simp only [Act.put, List.setIfInBounds_toArray]
          refine wpAnyH_ready (rs := [11]) (by kernel_rfl) (by simp) ?_
          refine AllReadyH.cons rfl (fun K hK => ?_) ?_
          · go_simp
            refine hK.out _ _ ?_ (fun hHeld => ?_)
            · first | exact HSS.out _ hf | exact HSS.out _ hp
            clear hK K
            try simp only [Act.put, List.setIfInBounds_toArray, List.set_cons_zero, List.set_cons_succ]
            refine wpAnyH_done (by kernel_rfl) ?_ _
            refine NoPanic.normal ?_
            go_wp2_with fail
            go_meet
            exact ⟨_, A5, c5, rfl, rfl, hbf, of, hf⟩
          exact AllReadyH.nil
        exact AllReadyH.nil
      exact AllReadyH.nil
    refine AllReadyH.cons rfl (fun K hK => ?_) ?_
    · go_simp
      first
        | (have hp0 : Below w4.heap.size w4 w5 := hp; have o50 := o5; replace hp := hp.alloc hp.size (.cells #[.int .i64 0, .slice none 0 0] 36); have hbt : Blk (w5.alloc (.cells #[.int .i64 0, .slice none 0 0] 36)) w5.heap.size 36 #[.int .i64 0, .slice none 0 0] := Blk.new _ _ _; replace o5 := o5.alloc (.cells #[.int .i64 0, .slice none 0 0] 36))
        | (have hp0 : Below w4.heap.size w4 Wc := hp; replace hp := hp.alloc hp.size (.cells #[.int .i64 0, .slice none 0 0] 36); have hbt : Blk (Wc.alloc (.cells #[.int .i64 0, .slice none 0 0] 36)) Wc.heap.size 36 #[.int .i64 0, .slice none 0 0] := Blk.new _ _ _)
      refine hK.out _ _ ?_ (fun hHeld => ?_)
      · first | exact HSS.out _ hf | exact HSS.out _ hp
      clear hK K
      try simp only [Act.put, List.setIfInBounds_toArray, List.set_cons_zero, List.set_cons_succ]
      refine wpAnyH_ready (rs := [5]) (by kernel_rfl) (by simp) ?_
      refine AllReadyH.cons rfl (fun K hK => ?_) ?_
      · go_simp
        refine (HTW.out _ hp).mono ?_
        rw [HTU.out]
        rintro e w5 ⟨A5, c5, rfl, o5, z5⟩
        dsimp only at o5 ⊢
        rw [← HNC.out] at o5 ⊢
        replace o5 := o5.mono hp.size
        replace hp := hp.trans (z5.mono hp.size)
        try replace hbt := hbt.below' z5
        refine hK.out _ _ ?_ (fun hHeld => ?_)
        · first | exact HSS.out _ hf | exact HSS.out _ hp
        clear hK K
        try simp only [Act.put, List.setIfInBounds_toArray, List.set_cons_zero, List.set_cons_succ]
        refine wpAnyH_take (i := 6) (v := ?_) rfl (by kernel_rfl) (by kernel_rfl) (by kernel_rfl) (fun _ _ _ h => h) (Or.inl ⟨by rfl, ?_⟩) (by assumption) ?_
        rotate_left
        · intro w hSw
          try dsimp only at hSw
          go_simp
          try with_reducible rfl
        try simp only [Act.put, List.setIfInBounds_toArray, List.set_cons_zero, List.set_cons_succ]
        refine wpAnyH_take (i := 7) (v := ?_) rfl (by kernel_rfl) (by kernel_rfl) (by kernel_rfl) (fun _ _ _ h => h) (Or.inl ⟨by rfl, ?_⟩) (by assumption) ?_
        rotate_left
        · intro w hSw
          try dsimp only at hSw
          go_simp
          try with_reducible rfl
        try simp only [Act.put, List.setIfInBounds_toArray, List.set_cons_zero, List.set_cons_succ]
        refine wpAnyH_take (i := 8) (v := ?_) rfl (by kernel_rfl) (by kernel_rfl) (by kernel_rfl) (fun _ _ _ h => h) (Or.inl ⟨by rfl, ?_⟩) (by assumption) ?_
        rotate_left
        · intro w hSw
          try dsimp only at hSw
          go_simp
          try with_reducible rfl
        try simp only [Act.put, List.setIfInBounds_toArray, List.set_cons_zero, List.set_cons_succ]
        refine wpAnyH_ready (rs := [10]) (by kernel_rfl) (by simp) ?_
        refine AllReadyH.cons rfl (fun K hK => ?_) ?_
        · have x0 := hbt.cell 0
          have x1 := hbt.cell 1
          have f0 := hbt.frozen 0
          have f1 := hbt.frozen 1
          go_simp
          first
            | (have hf : Below w4.heap.size w4 (w5.alloc (.cells #[.int .i64 0, .slice A5 NC c5] 36)) := hp0.alloc hp0.size _; have hbf : Blk (w5.alloc (.cells #[.int .i64 0, .slice A5 NC c5] 36)) w5.heap.size 36 #[.int .i64 0, .slice A5 NC c5] := Blk.new _ _ _; have of := o50.alloc (.cells #[.int .i64 0, .slice A5 NC c5] 36))
            | (have hf := turn_below hp hp0.size (.int .i64 0) (.slice A5 NC c5); have hbf := turn_set hbt (.int .i64 0) (.slice A5 NC c5); have of := turn_far2 hbt o5 (.int .i64 0) (.slice A5 NC c5))
          refine hK.out _ _ ?_ (fun hHeld => ?_)
          · first | exact HSS.out _ hf | exact HSS.out _ hp
          clear hK K
          try simp only [Act.put, List.setIfInBounds_toArray]
          refine wpAnyH_ready (rs := [11]) (by kernel_rfl) (by simp) ?_
          refine AllReadyH.cons rfl (fun K hK => ?_) ?_
          · go_simp
            refine hK.out _ _ ?_ (fun hHeld => ?_)
            · first | exact HSS.out _ hf | exact HSS.out _ hp
            clear hK K
            try simp only [Act.put, List.setIfInBounds_toArray, List.set_cons_zero, List.set_cons_succ]
            refine wpAnyH_done (by kernel_rfl) ?_ _
            refine NoPanic.normal ?_
            go_wp2_with fail
            go_meet
            exact ⟨_, A5, c5, rfl, rfl, hbf, of, hf⟩
          exact AllReadyH.nil
        exact AllReadyH.nil
      exact AllReadyH.nil
    exact AllReadyH.nil
  case rest =>
    obtain ⟨g5, A5, c5, rfl, rfl, b5, o5, z5⟩ := hcut
    obtain ⟨k0, k1, k2, k3⟩ := HSS.out _ z5
    have y5 : Below w.heap.size w wc := y4.trans (z5.mono y4.size)
    have s5U := s4U.out.below z5
    have s5H := s4H.out.below z5
    have s5X : SI wc A4 uL u.xs := (o4.below z5).asI
    have s5u := s4u.out.below z5
    have p0 : wc.cell? ⟨g5, 0, none⟩ = some (.int .i64 0) := b5.cell 0
    have p1 : wc.cell? ⟨g5, 1, none⟩ = some (.slice A5 NC c5) := b5.cell 1
    have hlet : ∀ y ∈ u.xs, 0 ≤ y ∧ y < (tl : Int) := by
      have h1 := (tagCode_zero.1 (tagAlive_good HSM.out.code HAL.out)).2
      rw [← HUX.out] at h1
      unfold tagWordB allIn at h1
      simp only [Bool.and_eq_true, decide_eq_true_eq, List.all_eq_true, inB_iff] at h1
      intro y hy
      have h2 := h1.2 y hy
      rw [show (nums ts).length = tl from by rw [HTL.out]; simp [nums]] at h2
      omega
    have HWT := Lib.hid (wordOfTurnI_any E D tl dc ts H hl hc hs A5 NC c5 u.xs wc s5U s5H o5.asI (by omega) L3 HL2.out (tagCode_zero.1 HSM.out.code).1 (HSM.out.fits (by rw [← HUL2.out]; exact huL)) o5.le hlet)
    have S5X := Lib.hid s5X
    have S5u := Lib.hid s5u
    clear hlet s5U s5H s5X s5u
    obtain ⟨KK, hKK⟩ : ∃ KK : Int, KK = (i : Int) * (((nums ts).length : Int) * (E : Int)) := ⟨_, rfl⟩
    obtain ⟨PP, hPP⟩ : ∃ PP : Nat, PP = i * E := ⟨_, rfl⟩
    have HE3 := HSM.out.d3
    have hPP1 : PP ≤ 15 := by rw [hPP]; exact Nat.mul_le_mul (show i ≤ 5 by omega) HE3
    have hPT : PP * tl ≤ 60 := Nat.mul_le_mul hPP1 L1
    have e1 : IntKind.i64.wrap ((i : Int) * (E : Int)) = (PP : Int) := by rw [IntWalk.i64_in _ (by rw [← Int.natCast_mul, ← hPP]; omega), hPP]; simp
    have e2 : IntKind.i64.wrap ((PP : Int) * (tl : Int)) = KK := by
      rw [IntWalk.i64_in _ (by rw [← Int.natCast_mul]; omega), hKK, hPP, show (nums ts).length = tl from by rw [HTL.out]; simp [nums], Int.natCast_mul]
      rw [Int.mul_assoc, Int.mul_comm (E : Int)]
    rw [← hKK]
    clear hKK hPP hPT
    go_wp2_with fail
    refine HWT.out.mono ?_
    rintro e w6 ⟨A6, c6, rfl, o6, z6⟩
    rw [← HUL2.out] at o6 ⊢
    have l1 : W1.heap.size < wc.heap.size := by have := z5.size; omega
    have m0 := (z6.cell (p := ⟨W1.heap.size, 0, none⟩) l1).trans k0
    have m1 := (z6.cell (p := ⟨W1.heap.size, 1, none⟩) l1).trans k1
    have m2 := (z6.cell (p := ⟨W1.heap.size, 2, none⟩) l1).trans k2
    have m3 := (z6.cell (p := ⟨ub, uo + i, none⟩) (by have := z5.size; show ub < wc.heap.size; omega)).trans k3
    clear k0 k1 k2 k3 p0 p1 HWT
    have y6 : Below w.heap.size w w6 := y5.trans (z6.mono y5.size)
    have HR1 := Lib.hid (r8Same_yes A4 u.A uL c4 u.c u.xs w6 (S5X.out.below z6) (S5u.out.below z6) (by omega))
    have HR2 := Lib.hid (fun q => r8Same_yes A6 A4 uL c6 c4 u.xs (w6.drewN q) (Rd.drewN o6.asI q) (Rd.drewN (S5X.out.below z6) q) (by omega))
    go_wp2_with (first
      | (go_at_call_of 15 (Value.slice A6 uL c6); refine (HR2.out _).mono ?_; rintro e w8 ⟨rfl, q8, rfl⟩)
      | (go_at_call_of 15 (Value.slice A4 uL c4); refine HR1.out.mono ?_; rintro e w7 ⟨rfl, q7, rfl⟩))
    go_ret
    exact ⟨rfl, below_drewN y6 _⟩
end Go.Proofs.Ytfdbhlhlhjdpbaa
