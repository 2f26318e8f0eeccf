/-
  Contract of impl.TraceCyclic.
-/
import Derived.Test.YthipbeggaeogcaaTrCycP
namespace Go.Proofs.Ythipbeggaeogcaa
open Go.RowKit

/-- What TraceCyclic's own cells hold ahead of round i. -/
def trcD (s : Sys Tu) (x : Tu) (lo b9 b8 g i : Nat) (X : Nat → Prop) (W : World) : Prop :=
  X b9 ∧ X b8 ∧ ∃ A a us, Blk W b9 41 #[.slice A i a] ∧ Blk W b8 107 #[.pointer (some ⟨g, 0, none⟩)] ∧ OTs W lo A i a us ∧ tus us = tusTo s x i ∧ (∀ b, RecsB A (us.flatMap Tm.rows) b → X b)
theorem trcD_fr (s : Sys Tu) (x : Tu) (lo b9 b8 g i : Nat) : FrD (trcD s x lo b9 b8 g i) := by
  rintro X W W' ⟨x9, x8, A, a, us, h9, h8, ho, hn, hX⟩ hf
  exact ⟨x9, x8, A, a, us, h9.fr hf x9, h8.fr hf x8, Recs.keptB ho (fun b hb => hf.same b (hX b hb) (Recs.blk_ge ho b hb).2), hn, hX⟩

set_option maxRecDepth 100000 in
set_option maxHeartbeats 4000000 in
theorem traceCycI_any (A : Option Addr) (n c : Nat) (ts : List Sl) (a : Int) (C : Option Addr) (l r : Nat) (xs : List Int) (b : Int) (w : World) (hx : SII w A n ts) (hz : SI w C l xs) (hn : n ≤ 1048576) (hns : ∀ t ∈ ts, t.xs.length ≤ 1048576) (hl : l ≤ 1048576) :
    Calls Try.prog 26 #[.agg #[.slice A n c], .agg #[.int .i64 a, .slice C l r], .int .i64 b] w (NewTs w (traceCycF (nums ts) ⟨a, xs⟩ b)) := by
  obtain ⟨W, hW_⟩ : ∃ W, W = (w.alloc (.cells #[.slice A n c] 33)).alloc (.cells #[.int .i64 a, .slice C l r] 30) := ⟨_, rfl⟩
  have s_1 : (w.alloc (.cells #[.slice A n c] 33)).heap.size = w.heap.size + 1 := by simp
  have b0 : Blk W w.heap.size 33 #[.slice A n c] := by rw [hW_]; exact (Blk.new w _ _).alloc _
  have b1 : Blk W (w.heap.size + 1) 30 #[.int .i64 a, .slice C l r] := by rw [hW_, ← s_1]; exact Blk.new _ _ _
  have y0 : Below w.heap.size w W := by rw [hW_]; exact ((Below.refl _ _).alloc (Nat.le_refl _) _).alloc (by simp) _
  have HW := Lib.hid hW_
  clear hW_ s_1
  have HNS := Lib.hid hns
  clear hns
  have q0 : W.cell? ⟨w.heap.size, 0, none⟩ = some (.slice A n c) := b0.cell 0
  have p0 : W.cell? ⟨(w.heap.size + 1), 0, none⟩ = some (.int .i64 a) := b1.cell 0
  have p1 : W.cell? ⟨(w.heap.size + 1), 1, none⟩ = some (.slice C l r) := b1.cell 1
  go_enter Try.func26, Try.ntmps26
  go_wp2_with fail
  rw [← HW.out]
  refine (validTurn_any _ _ _ ts _ _ _ _ xs _ (hx.below y0) (hz.below y0) hn hl HNS.out).mono ?_
  rintro e w2 ⟨rfl, z2⟩
  have y2 := y0.trans (z2.mono y0.size)
  have c0 := b0.below' z2
  have c1 := b1.below' z2
  clear q0 p0 p1
  have q0 : w2.cell? ⟨w.heap.size, 0, none⟩ = some (.slice A n c) := c0.cell 0
  have p0 : w2.cell? ⟨(w.heap.size + 1), 0, none⟩ = some (.int .i64 a) := c1.cell 0
  have p1 : w2.cell? ⟨(w.heap.size + 1), 1, none⟩ = some (.slice C l r) := c1.cell 1
  cases a1 : validTurnB (nums ts) ⟨a, xs⟩
  · have HF := Lib.hid (traceCycF_bad (b := b) a1)
    clear a1
    go_wp2_with fail
    exact bodyPost_ret (v := .tuple #[.slice none 0 0, .int .i64 1]) (by simp [results, Try.results26, go_sem]) rfl (newTs_nil HF.out y2)
  have A1 := Lib.hid a1
  clear a1
  cases a2 : inB b 0 60
  · have HF := Lib.hid (traceCycF_range A1.out a2)
    have A2 := Lib.hid a2
    clear a2
    go_wp2_with (go_at_call 85; refine (within_is A2.out _).mono ?_; rintro e w' ⟨rfl, rfl⟩)
    exact bodyPost_ret (v := .tuple #[.slice none 0 0, .int .i64 2]) (by simp [results, Try.results26, go_sem]) rfl (newTs_nil HF.out y2)
  have A2 := Lib.hid a2
  have hb := (inB_iff _ _ _).1 a2
  obtain ⟨N, rfl⟩ : ∃ N : Nat, b = (N : Int) := ⟨b.toNat, by omega⟩
  clear a2
  go_wp2_with (go_at_call 85; refine (within_is A2.out _).mono ?_; rintro e w' ⟨rfl, rfl⟩)
  refine (cyclicRunOf_any _ _ _ _ _ _ _ xs _ (hz.below y2) hl).mono ?_
  rintro e w3 ⟨g, Q, r3, rfl, hg3, hr3, ho3, hb3⟩
  clear q0 p0 p1
  go_upto_region 6 with fail
  obtain ⟨w4, hW_⟩ : ∃ W, W = ((w3.alloc (.cells #[] 30)).alloc (.cells #[.pointer (some ⟨g, 0, none⟩)] 107)).alloc (.cells #[.slice (some ⟨w3.heap.size, 0, none⟩) 0 0] 41) := ⟨_, rfl⟩
  have s_1 : (w3.alloc (.cells #[] 30)).heap.size = w3.heap.size + 1 := by simp
  have s_2 : ((w3.alloc (.cells #[] 30)).alloc (.cells #[.pointer (some ⟨g, 0, none⟩)] 107)).heap.size = w3.heap.size + 1 + 1 := by simp
  have e1 : Blk w4 w3.heap.size 30 #[] := by rw [hW_]; exact ((Blk.new w3 _ _).alloc _).alloc _
  have e2 : Blk w4 (w3.heap.size + 1) 107 #[.pointer (some ⟨g, 0, none⟩)] := by rw [hW_, ← s_1]; exact (Blk.new _ _ _).alloc _
  have e3 : Blk w4 (w3.heap.size + 1 + 1) 41 #[.slice (some ⟨w3.heap.size, 0, none⟩) 0 0] := by rw [hW_, ← s_2]; exact Blk.new _ _ _
  have y4 : Below w3.heap.size w3 w4 := by rw [hW_]; exact (((Below.refl _ _).alloc (Nat.le_refl _) _).alloc (by simp) _).alloc (by simp; omega) _
  have Hw4 := Lib.hid hW_
  clear hW_ s_1 s_2
  rw [← Hw4.out]
  have hs3 : w3.heap.size + 1 + 1 < w4.heap.size := e3.lt
  have hs2 := hb3.size
  have k8 : w4.cell? ⟨w3.heap.size + 1, 0, none⟩ = some (.pointer (some ⟨g, 0, none⟩)) := e2.cell 0
  obtain ⟨p, hp⟩ : ∃ p : Cg, p = ⟨w2, g, A, n, c, ts, ⟨a, xs⟩⟩ := ⟨_, rfl⟩
  have hok : p.Ok := by rw [hp]; exact ⟨A1.out, hx.below y2, hg3, hn⟩
  have hgl : g < w3.heap.size := hr3.lt
  have h0 : CgS p 0 (trcD p.sys p.x w2.heap.size (w3.heap.size + 1 + 1) (w3.heap.size + 1) g 0) w4 := by
    rw [hp]
    refine ⟨_, Q, r3, fun b => b = w3.heap.size ∨ b = w3.heap.size + 1 ∨ b = w3.heap.size + 1 + 1, rfl, ⟨?_, ?_, hr3.below' y4, ho3.below y4, ?_, hb3.trans (y4.mono hb3.size)⟩, .inr (.inr rfl), .inr (.inl rfl), _, 0, [], e3, e2, OTs.nil ?_, rfl, ?_⟩
    · show ¬ (g = w3.heap.size ∨ g = w3.heap.size + 1 ∨ g = w3.heap.size + 1 + 1); omega
    · rintro b (h | h | h) <;> omega
    · intro b hb h
      have h9 := ho3.blk_lt b hb
      rcases h with h | h | h <;> omega
    · exact ⟨by simp, .inr ⟨w3.heap.size, 0, #[], rfl, hs2, e1, Nat.le_refl _, by simp [maxLen], by simp, fun k hk => by simp at hk⟩⟩
    · rintro b (hb | ⟨t, ht, _⟩)
      · simp [blk] at hb; exact .inl hb.symm
      · simp at ht
  have hvis : ∀ i u W, i ≤ N → p.sys.Alive p.x i → CgV p i (trcD p.sys p.x w2.heap.size (w3.heap.size + 1 + 1) (w3.heap.size + 1) g i) u W → Calls Try.prog 86 (#[u] ++ #[.pointer (some ⟨w3.heap.size + 1 + 1, 0, none⟩), .pointer (some ⟨w3.heap.size + 1, 0, none⟩)]) W fun e W' => e = .returned (.bool true) ∧ CgS p i (trcD p.sys p.x w2.heap.size (w3.heap.size + 1 + 1) (w3.heap.size + 1) g (i + 1)) W' := by
    rintro i u W hiN hal ⟨Q', r', X, rfl, hO, x9, x8, A', a', us, h9, h8, ho, hnu, hX⟩
    have hlen := (cycAlive_parts hok hal).2.2.2.2.2
    have hpw : p.w0 = w2 := by rw [hp]
    have hpg : p.g = g := by rw [hp]
    have hW : w2.heap.size ≤ W.heap.size := by have := hO.low.size; rwa [hpw] at this
    have hrn := hO.run
    rw [hpg] at hrn
    refine (traceTurn_any _ (w3.heap.size + 1 + 1) (w3.heap.size + 1) g w2.heap.size i a' A' us (p.it i) p.A p.n p.c Q' r' W h9 h8 hrn hO.own.rd ho (by omega) (by omega) hW).mono ?_
    rintro e W' ⟨A8, a8, v, he, hb8, ho8, hxs, hK, hA8, hv8⟩
    have hsz := hK.size
    have h88 : Blk W' (w3.heap.size + 1) 107 #[.pointer (some ⟨g, 0, none⟩)] := hK.blk h8 (by
      rintro (h | h)
      · omega
      · exact h8.aptt ho.spine (by decide) h)
    refine ⟨he, _, Q', r', _, rfl, hO.turn hK ?_, .inl x9, .inl x8, A8, a8, us ++ [v], hb8, h88, ho8, ?_, ?_⟩
    · rintro b (hb | hb)
      · subst hb; exact ⟨x9, by rw [hpw]; omega⟩
      · exact ⟨hX b (.inl hb), by rw [hpw]; exact ho.spine.blk_ge b hb⟩
    · rw [tusTo_next, tus_append, hnu, hxs]
    · rintro b (hb | ⟨t, ht, hb⟩)
      · rcases hA8 b hb with h | h
        · exact .inl (hX b (.inl h))
        · exact .inr ⟨h, ho8.spine.blk_lt b hb⟩
      · have e2 : (us ++ [v]).flatMap Tm.rows = us.flatMap Tm.rows ++ v.rows := by simp
        rw [e2] at ht
        rcases List.mem_append.1 ht with h | h
        · exact .inl (hX b (.inr ⟨t, h, hb⟩))
        · have hmem : t ∈ (us ++ [v]).flatMap Tm.rows := by rw [e2]; exact List.mem_append_right _ h
          simp only [Tm.rows, List.mem_cons, List.not_mem_nil, or_false] at h
          refine .inr ⟨hv8 b (by rw [h] at hb; exact hb), Own.blk_lt (ho8.each t hmem) b hb⟩
  have hrun := runCycSys p hok N 86 #[.pointer (some ⟨w3.heap.size + 1 + 1, 0, none⟩), .pointer (some ⟨w3.heap.size + 1, 0, none⟩)] (fun _ => true) (trcD p.sys p.x w2.heap.size (w3.heap.size + 1 + 1) (w3.heap.size + 1) g) (trcD_fr _ _ _ _ _ _) w4 (by omega) Try.call86 hvis h0
  have hpg : p.g = g := by rw [hp]
  rw [hpg] at hrun
  have HRUN := Lib.hid hrun
  have HP := Lib.hid hp
  clear hrun hp h0 hpg hok hvis
  go_wp2_with fail
  refine HRUN.out.mono ?_
  rintro e w5 (⟨i, hi, hal, _, hend, rfl, ⟨u, Q4, r4, X, _, ho, _, _, A', a', us, h9, _, hO, hnu, _⟩⟩ | ⟨i, hi, hal, _, hh, hro, rfl, hF⟩)
  · have hen : (cycSys (nums ts)).Ended ⟨a, xs⟩ N i := by
      rw [HP.out] at hal hend
      refine ⟨hi, hal, ?_⟩
      rcases hend with h | h | h
      · cases h
      · exact .inl h
      · exact .inr h
    have HF := Lib.hid (traceCycF_ended A1.out A2.out hen)
    have hlow : Below w2.heap.size w2 w5 := by have := ho.low; rwa [HP.out] at this
    have HNU : Hid (tus us = tusTo (cycSys (nums ts)) ⟨a, xs⟩ (i + 1)) := Lib.hid (by rw [hnu, HP.out])
    have c9 : w5.cell? ⟨w3.heap.size + 1 + 1, 0, none⟩ = some (.slice A' (i + 1) a') := h9.cell 0
    have y5 := y2.trans (hlow.mono y2.size)
    clear ho hal hend hen hnu
    go_wp2_with fail
    exact bodyPost_ret (v := .tuple #[.slice A' (i + 1) a', .int .i64 0]) (by simp [results, Try.results26, go_sem]) rfl (newTs_of HF.out HNU.out (hO.mono y2.size) y5)
  · have hfu : (cycSys (nums ts)).Full ⟨a, xs⟩ N i := by
      rw [HP.out] at hal hh hro
      exact ⟨hi, hal, hh, hro⟩
    have HF := Lib.hid (traceCycF_full A1.out A2.out hfu)
    have hlow : Below w2.heap.size w2 w5 := by have := hF; rwa [HP.out] at this
    clear hal hh hro hfu
    go_wp2_with fail
    exact bodyPost_ret (v := .tuple #[.slice none 0 0, .int .i64 5]) (by simp [results, Try.results26, go_sem]) rfl (newTs_nil HF.out (y2.trans (hlow.mono y2.size)))
end Go.Proofs.Ythipbeggaeogcaa
