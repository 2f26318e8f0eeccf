/-
  Contract of impl.TraceTag.
-/
import Derived.Test.YtldgfgjaabphnaaTraceTagV
namespace Go.Proofs.Ytldgfgjaabphnaa
open Go.RowKit

/-- What TraceTag's own cells hold ahead of round i. -/
def trtD (s : Sys (List Int)) (xs : List Int) (lo b9 i : Nat) (X : Nat → Prop) (W : World) : Prop :=
  X b9 ∧ ∃ A a us, Blk W b9 22 #[.slice A i a] ∧ OII W lo 23 2 A i a us ∧ nums us = wordsTo s xs i ∧ (∀ b, OIIB A us b → X b)
theorem trtD_fr (s : Sys (List Int)) (xs : List Int) (lo b9 i : Nat) : FrD (trtD s xs lo b9 i) := by
  rintro X W W' ⟨x9, A, a, us, h9, ho, hn, hX⟩ hf
  exact ⟨x9, A, a, us, h9.fr hf x9, ho.keptB (fun b hb => hf.same b (hX b hb) (ho.blkB b hb).2), hn, hX⟩

set_option maxRecDepth 100000 in
set_option maxHeartbeats 4000000 in
theorem traceTagI_any (d : Int) (A : Option Addr) (n c : Nat) (ts : List Sl) (B : Option Addr) (m k : Nat) (hs : List Int) (C : Option Addr) (l r : Nat) (xs : List Int) (b : Int) (w : World) (hx : SII w A n ts) (hy : SI w B m hs) (hz : SI w C l xs) (hn : n ≤ 1048576) (hm : m ≤ 1048576) (hns : ∀ t ∈ ts, t.xs.length ≤ 1048576) (hl : l ≤ 1048576) :
    Calls Try.prog 24 #[.agg #[.int .i64 d, .slice A n c, .slice B m k], .slice C l r, .int .i64 b] w (NewII w (traceTagF d (nums ts) hs xs b)) := by
  obtain ⟨W, hW_⟩ : ∃ W, W = w.alloc (.cells #[.int .i64 d, .slice A n c, .slice B m k] 29) := ⟨_, rfl⟩
  have b0 : Blk W w.heap.size 29 #[.int .i64 d, .slice A n c, .slice B m k] := by rw [hW_]; exact Blk.new w _ _
  have y0 : Below w.heap.size w W := by rw [hW_]; exact (Below.refl _ _).alloc (Nat.le_refl _) _
  have HW := Lib.hid hW_
  clear hW_
  have q0 : W.cell? ⟨w.heap.size, 0, none⟩ = some (.int .i64 d) := b0.cell 0
  have q1 : W.cell? ⟨w.heap.size, 1, none⟩ = some (.slice A n c) := b0.cell 1
  have q2 : W.cell? ⟨w.heap.size, 2, none⟩ = some (.slice B m k) := b0.cell 2
  have HNS := Lib.hid hns
  clear hns
  go_enter Try.func24, Try.ntmps24
  go_wp2_with fail
  rw [← HW.out]
  refine (tagCode_any _ _ _ _ ts _ _ _ hs _ _ _ xs _ (hx.below y0) (hy.below y0) (hz.below y0) hn hm hl (fun t ht => by have := HNS.out t ht; omega)).mono ?_
  rintro e w2 ⟨rfl, hb2⟩
  have y2 := y0.trans (hb2.mono y0.size)
  have b2 := b0.below' hb2
  clear q0 q1 q2
  rcases tagCode_01 d (nums ts) hs xs with hcode | hcode
  rotate_left
  · have HF := Lib.hid (traceTagF_bad (b := b) hcode)
    rw [hcode]
    clear hcode
    go_wp2_with fail
    exact bodyPost_ret (v := .tuple #[.slice none 0 0, .int .i64 1]) (by simp [results, Try.results24, go_sem]) rfl (newII_nil HF.out y2)
  have HC := Lib.hid hcode
  rw [hcode]
  clear hcode
  cases a2 : inB b 0 60
  · have HF := Lib.hid (traceTagF_range HC.out a2)
    have A2 := Lib.hid a2
    clear a2
    go_wp2_with (go_at_call 73; refine (within_is A2.out _).mono ?_; rintro e w' ⟨rfl, rfl⟩)
    exact bodyPost_ret (v := .tuple #[.slice none 0 0, .int .i64 2]) (by simp [results, Try.results24, go_sem]) rfl (newII_nil HF.out y2)
  have A2 := Lib.hid a2
  have hb := (inB_iff _ _ _).1 a2
  obtain ⟨N, rfl⟩ : ∃ N : Nat, b = (N : Int) := ⟨b.toNat, by omega⟩
  clear a2
  obtain ⟨w3, hW_⟩ : ∃ W, W = (w2.alloc (.cells #[] 23)).alloc (.cells #[.slice (some ⟨w2.heap.size, 0, none⟩) 0 0] 22) := ⟨_, rfl⟩
  have s_1 : (w2.alloc (.cells #[] 23)).heap.size = w2.heap.size + 1 := by simp
  have e1 : Blk w3 w2.heap.size 23 #[] := by rw [hW_]; exact (Blk.new w2 _ _).alloc _
  have e2 : Blk w3 (w2.heap.size + 1) 22 #[.slice (some ⟨w2.heap.size, 0, none⟩) 0 0] := by rw [hW_, ← s_1]; exact Blk.new _ _ _
  have y3 : Below w2.heap.size w2 w3 := by rw [hW_]; exact ((Below.refl _ _).alloc (Nat.le_refl _) _).alloc (by simp) _
  have Hw3 := Lib.hid hW_
  clear hW_ s_1
  have b2l := b2.lt
  have q0 : w2.cell? ⟨w.heap.size, 0, none⟩ = some (.int .i64 d) := b2.cell 0
  have q1 : w2.cell? ⟨w.heap.size, 1, none⟩ = some (.slice A n c) := b2.cell 1
  have q2 : w2.cell? ⟨w.heap.size, 2, none⟩ = some (.slice B m k) := b2.cell 2
  go_wp2_with (go_at_call 73; refine (within_is A2.out _).mono ?_; rintro e w' ⟨rfl, rfl⟩)
  rw [← Hw3.out]
  have y23 := y2.trans (y3.mono y2.size)
  refine (tagRunOf_any _ _ _ _ _ _ _ _ _ _ xs _ (hz.below y23) hl).mono ?_
  rintro e w4 ⟨g, Q, r3, rfl, hg3, hr3, ho3, hb3⟩
  have e14 := e1.below' hb3
  have e24 := e2.below' hb3
  have hs3 : w2.heap.size + 1 < w3.heap.size := e2.lt
  clear q0 q1 q2
  obtain ⟨p, hp⟩ : ∃ p : Tg, p = ⟨w2, g, d, A, n, c, ts, B, m, k, hs, xs⟩ := ⟨_, rfl⟩
  have hok : p.Ok := by rw [hp]; exact ⟨HC.out, hx.below y2, hy.below y2, by show w2.heap.size ≤ g; omega, hn, hm⟩
  have h0 : TgS p 0 (trtD p.sys p.xs w2.heap.size (w2.heap.size + 1) 0) w4 := by
    rw [hp]
    refine ⟨_, Q, r3, fun b => b = w2.heap.size ∨ b = w2.heap.size + 1, rfl, ⟨?_, ?_, hr3, ho3.mono (by show w2.heap.size ≤ _; omega), ?_, y3.trans (hb3.mono y3.size)⟩, .inr rfl, _, 0, [], e24, OII.nil ?_, rfl, ?_⟩
    · show ¬ (g = w2.heap.size ∨ g = w2.heap.size + 1); omega
    · rintro b (h | h) <;> have := hb3.size <;> omega
    · intro b hb h
      have h9 := ho3.blk_ge b hb
      rcases h with h | h <;> omega
    · exact ⟨by simp, .inr ⟨w2.heap.size, 0, #[], rfl, Nat.le_refl _, e14, Nat.le_refl _, by simp [maxLen], by simp, fun k hk => by simp at hk⟩⟩
    · rintro b (hb | ⟨t, ht, _⟩)
      · simp [blk] at hb; exact .inl hb.symm
      · simp at ht
  have hvis : ∀ i u W, i ≤ N → p.sys.Alive p.xs i → TgV p i (trtD p.sys p.xs w2.heap.size (w2.heap.size + 1) i) u W → Calls Try.prog 74 (#[u] ++ #[.pointer (some ⟨w2.heap.size + 1, 0, none⟩)]) W fun e W' => e = .returned (.bool true) ∧ TgS p i (trtD p.sys p.xs w2.heap.size (w2.heap.size + 1) (i + 1)) W' := by
    rintro i u W hiN hal ⟨Q', r', X, rfl, hO, x9, A', a', us, h9, ho, hnu, hX⟩
    have hlen := (tagCode_parts (tagAlive_good hok.code hal)).2.2.2.1
    have hpw : p.w0 = w2 := by rw [hp]
    have hW : w2.heap.size ≤ W.heap.size := by have := hO.low.size; rwa [hpw] at this
    refine (traceVisit_any Q' (p.it i).length r' (w2.heap.size + 1) w2.heap.size i a' A' us (p.it i) W h9 ho hO.own.rd (by have : (p.it i).length ≤ 1000 := hlen; omega) (by omega) hW).mono ?_
    rintro e W' ⟨A8, a8, v, he, hb8, ho8, hxs, hK, hA8, hv8⟩
    have hsz := hK.size
    refine ⟨he, _, Q', r', _, rfl, hO.turn hK ?_, .inl x9, A8, a8, us ++ [v], hb8, ho8, ?_, ?_⟩
    · rintro b (hb | hb)
      · subst hb; exact ⟨x9, by rw [hpw]; omega⟩
      · exact ⟨hX b (.inl hb), by rw [hpw]; exact ho.1.blk_ge b hb⟩
    · rw [wordsTo_next, nums_append, hnu, hxs]
    · rintro b (hb | ⟨t, ht, hb⟩)
      · rcases hA8 b hb with h | h
        · exact .inl (hX b (.inl h))
        · exact .inr ⟨h, ho8.1.blk_lt b hb⟩
      · rcases List.mem_append.1 ht with h | h
        · exact .inl (hX b (.inr ⟨t, h, hb⟩))
        · rw [List.mem_singleton.1 h] at hb
          exact .inr ⟨hv8 b hb, (ho8.2.1 v (by simp)).blk_lt b hb⟩
  have hrun := runTagSys p hok N 74 #[.pointer (some ⟨w2.heap.size + 1, 0, none⟩)] (fun _ => true) (trtD p.sys p.xs w2.heap.size (w2.heap.size + 1)) (trtD_fr _ _ _ _) w4 (by omega) Try.call74 hvis h0
  have hpg : p.g = g := by rw [hp]
  rw [hpg] at hrun
  have HRUN := Lib.hid hrun
  have HP := Lib.hid hp
  clear hrun hp h0 hpg hok hvis
  go_wp2_with fail
  refine HRUN.out.mono ?_
  rintro e w5 (⟨i, hi, hal, _, hend, rfl, ⟨u, Q4, r4, X, _, ho, _, A', a', us, h9, hO, hnu, _⟩⟩ | ⟨i, hi, hal, _, hh, hro, rfl, hF⟩)
  · have hen : (tagSys d (nums ts) hs).Ended xs N i := by
      rw [HP.out] at hal hend
      refine ⟨hi, hal, ?_⟩
      rcases hend with h | h | h
      · cases h
      · exact .inl h
      · exact .inr h
    have HF := Lib.hid (traceTagF_ended HC.out A2.out hen)
    have hlow : Below w2.heap.size w2 w5 := by have := ho.low; rwa [HP.out] at this
    have HNU : Hid (nums us = wordsTo (tagSys d (nums ts) hs) xs (i + 1)) := Lib.hid (by rw [hnu, HP.out])
    have c9 : w5.cell? ⟨w2.heap.size + 1, 0, none⟩ = some (.slice A' (i + 1) a') := h9.cell 0
    have y4 := y2.trans (hlow.mono y2.size)
    clear ho hal hend hen hnu
    go_wp2_with fail
    exact bodyPost_ret (v := .tuple #[.slice A' (i + 1) a', .int .i64 0]) (by simp [results, Try.results24, go_sem]) rfl (newII_of HF.out HNU.out (hO.mono y2.size) y4)
  · have hfu : (tagSys d (nums ts) hs).Full xs N i := by
      rw [HP.out] at hal hh hro
      exact ⟨hi, hal, hh, hro⟩
    have HF := Lib.hid (traceTagF_full HC.out A2.out hfu)
    have hlow : Below w2.heap.size w2 w5 := by have := hF; rwa [HP.out] at this
    clear hal hh hro hfu
    go_wp2_with fail
    exact bodyPost_ret (v := .tuple #[.slice none 0 0, .int .i64 5]) (by simp [results, Try.results24, go_sem]) rfl (newII_nil HF.out (y2.trans (hlow.mono y2.size)))
end Go.Proofs.Ytldgfgjaabphnaa
