/-
  Contracts of impl.TurnOfWord and impl.tagSteps.
-/
import Derived.Test.YtfdbhlhlhjdpbaaPkCyclicTags2
import Derived.Test.YtfdbhlhlhjdpbaaPkCyclicTags3
import Derived.Test.YtfdbhlhlhjdpbaaPkCyclicTags4
import Derived.Deep.RegionWith
namespace Go.Proofs.Ytfdbhlhlhjdpbaa
open Go.RowKit

def turnOfWordF (d : Int) (words : List (List Int)) (hs xs : List Int) : Tu × Int :=
  if tagCodeF d words hs xs = 0 then
    if cycFitsB d.toNat words && decide (xs.length * words.length ≤ 1000) then (⟨0, codesL words.length xs⟩, 0) else (⟨0, []⟩, 5)
  else (⟨0, []⟩, 1)
theorem turnOfWordF_bad {d : Int} {words : List (List Int)} {hs xs : List Int} (h : tagCodeF d words hs xs = 1) : turnOfWordF d words hs xs = (⟨0, []⟩, 1) := by unfold turnOfWordF; rw [h]; simp
/-- A new turn and a code. -/
def NewTu2 (w : World) (r : Tu × Int) (e : Ending) (w' : World) : Prop :=
  ∃ A c, e = .returned (.tuple #[.agg #[.int .i64 r.1.at_, .slice A r.1.word.length c], .int .i64 r.2]) ∧ Own w' w.heap.size 2 1 A r.1.word.length c (ints r.1.word) ∧ Below w.heap.size w w'
theorem tu2_nil {w wf : World} {k : Int} {r : Tu × Int} (hr : r = (⟨0, []⟩, k)) (hz : Below w.heap.size w wf) : NewTu2 w r (.returned (.tuple #[.agg #[.int .i64 0, .slice none 0 0], .int .i64 k])) wf := by
  subst hr; exact ⟨none, 0, rfl, Own.nil, hz⟩

set_option maxRecDepth 100000 in
set_option maxHeartbeats 4000000 in
theorem turnOfWord_any (d : Int) (A : Option Addr) (n c : Nat) (ts : List Sl) (B : Option Addr) (m k : Nat) (hs : List Int) (C : Option Addr) (l r : Nat) (xs : List Int) (w : World) (hx : SII w A n ts) (hy : SI w B m hs) (hz : SI w C l xs) (hn : n ≤ 1048576) (hm : m ≤ 1048576) (hl : l ≤ 1048576) (hns : ∀ t ∈ ts, t.xs.length ≤ 1048576) :
    Calls Try.prog 13 #[.agg #[.int .i64 d, .slice A n c, .slice B m k], .slice C l r] w (NewTu2 w (turnOfWordF d (nums ts) hs xs)) := by
  have HLN : Hid ((nums ts).length = n) := Lib.hid (by have := hx.len; simpa [nums] using this)
  have HXL := Lib.hid hz.len
  have HNS := Lib.hid hns
  clear hns
  obtain ⟨W, hW_⟩ : ∃ W, W = (w.alloc (.cells #[.int .i64 d, .slice A n c, .slice B m k] 27)).alloc (.cells #[.int .i64 0, .slice none 0 0] 36) := ⟨_, rfl⟩
  have s_1 : (w.alloc (.cells #[.int .i64 d, .slice A n c, .slice B m k] 27)).heap.size = w.heap.size + 1 := by simp
  have b0 : Blk W w.heap.size 27 #[.int .i64 d, .slice A n c, .slice B m k] := by rw [hW_]; exact (Blk.new w _ _).alloc _
  have b1 : Blk W (w.heap.size + 1) 36 #[.int .i64 0, .slice none 0 0] := by rw [hW_, ← s_1]; exact Blk.new _ _ _
  have y0 : Below w.heap.size w W := by rw [hW_]; exact ((Below.refl _ _).alloc (Nat.le_refl _) _).alloc (by simp) _
  have HW := Lib.hid hW_
  clear hW_ s_1
  have q0 : W.cell? ⟨w.heap.size, 0, none⟩ = some (.int .i64 d) := b0.cell 0
  have q1 : W.cell? ⟨w.heap.size, 1, none⟩ = some (.slice A n c) := b0.cell 1
  have q2 : W.cell? ⟨w.heap.size, 2, none⟩ = some (.slice B m k) := b0.cell 2
  go_enter Try.func13, Try.ntmps13
  go_wp2_with fail
  rw [← HW.out]
  refine (tagCode_any _ _ _ _ ts _ _ _ hs _ _ _ xs _ (hx.below y0) (hy.below y0) (hz.below y0) hn hm hl (fun t ht => by have := HNS.out t ht; omega)).mono ?_
  rintro e w2 ⟨rfl, z2⟩
  have y2 := y0.trans (z2.mono y0.size)
  have c0 := b0.below' z2
  have c1 := b1.below' z2
  have hg2 : w.heap.size + 1 < w2.heap.size := c1.lt
  clear q0 q1 q2
  have q0 : w2.cell? ⟨w.heap.size, 0, none⟩ = some (.int .i64 d) := c0.cell 0
  have q1 : w2.cell? ⟨w.heap.size, 1, none⟩ = some (.slice A n c) := c0.cell 1
  have q2 : w2.cell? ⟨w.heap.size, 2, none⟩ = some (.slice B m k) := c0.cell 2
  have u0 : w2.cell? ⟨(w.heap.size + 1), 0, none⟩ = some (.int .i64 0) := c1.cell 0
  have u1 : w2.cell? ⟨(w.heap.size + 1), 1, none⟩ = some (.slice none 0 0) := c1.cell 1
  have f0 := c1.frozen 0
  have f1 := c1.frozen 1
  rcases tagCode_01 d (nums ts) hs xs with hcode | hcode
  rotate_left
  · have HF := Lib.hid (turnOfWordF_bad hcode)
    rw [hcode]
    clear hcode
    go_wp2_with fail
    have d1 := turn_set c1 (.int .i64 0) (.slice none 0 0)
    exact bodyPost_ret (v := .tuple #[.agg #[.int .i64 0, .slice none 0 0], .int .i64 1]) (by simp [results, Try.results13, go_sem, d1.cell 0, d1.cell 1]) rfl (tu2_nil HF.out (turn_below y2 (by omega) _ _))
  obtain ⟨v1, v2, v3, v4, v5, v6, v7, v8⟩ := tagCode_parts hcode
  have HF0 : Hid (turnOfWordF d (nums ts) hs xs = if cycFitsB d.toNat (nums ts) && decide (l * n ≤ 1000) then (⟨0, codesL n xs⟩, 0) else (⟨0, []⟩, 5)) := Lib.hid (by unfold turnOfWordF; rw [hcode, HXL.out, HLN.out]; simp)
  have hval := (tagCode_zero.1 hcode).1
  obtain ⟨dn, rfl⟩ : ∃ dn : Nat, d = (dn : Int) := ⟨d.toNat, by omega⟩
  rw [Int.toNat_natCast] at HF0
  rw [HLN.out] at v5 v6 v7
  rw [hcode]
  have V5 := Lib.hid v5
  have V3 := Lib.hid v3
  have V8 := Lib.hid v8
  have HVAL := Lib.hid hval
  clear hcode v3 v5 v8 hval
  go_wp2_with fail
  refine (cyclicOfTag_any dn _ _ _ ts _ _ _ hs _ (hx.below y2) HVAL.out).mono ?_
  rintro e w3 ⟨(⟨hfit, A3, us, rfl, hO, hnu⟩ | ⟨hfit, rfl⟩), z3⟩
  rotate_left
  · have HF : Hid (turnOfWordF (dn : Int) (nums ts) hs xs = (⟨0, []⟩, 5)) := Lib.hid (by rw [HF0.out, hfit]; rfl)
    clear hfit
    obtain ⟨w4, hW_⟩ : ∃ W_, W_ = w3.alloc (.cells #[.slice none 0 0] 95) := ⟨_, rfl⟩
    have b4 : Blk w4 w3.heap.size 95 #[.slice none 0 0] := by rw [hW_]; exact Blk.new w3 _ _
    have z4 : Below w3.heap.size w3 w4 := by rw [hW_]; exact (Below.refl _ _).alloc (Nat.le_refl _) _
    have Hw4 := Lib.hid hW_
    clear hW_
    have c14 := (c1.below' z3).below' z4
    have y4 := (y2.trans (z3.mono y2.size)).trans (z4.mono (y2.trans (z3.mono y2.size)).size)
    clear q0 q1 q2 u0 u1 f0 f1
    have u0 : w4.cell? ⟨(w.heap.size + 1), 0, none⟩ = some (.int .i64 0) := c14.cell 0
    have u1 : w4.cell? ⟨(w.heap.size + 1), 1, none⟩ = some (.slice none 0 0) := c14.cell 1
    have f0 := c14.frozen 0
    have f1 := c14.frozen 1
    go_upto_region 5 with fail
    rw [← Hw4.out]
    go_wp2_with fail
    have d1 := turn_set c14 (.int .i64 0) (.slice none 0 0)
    exact bodyPost_ret (v := .tuple #[.agg #[.int .i64 0, .slice none 0 0], .int .i64 5]) (by simp [results, Try.results13, go_sem, d1.cell 0, d1.cell 1]) rfl (tu2_nil HF.out (turn_below y4 (by omega) _ _))
  have HFIT := Lib.hid hfit
  clear hfit hO hnu
  have y3 := y2.trans (z3.mono y2.size)
  obtain ⟨w4, hW_⟩ : ∃ W_, W_ = w3.alloc (.cells #[.slice A3 (n * dn) (n * dn)] 95) := ⟨_, rfl⟩
  have b4 : Blk w4 w3.heap.size 95 #[.slice A3 (n * dn) (n * dn)] := by rw [hW_]; exact Blk.new w3 _ _
  have z4 : Below w3.heap.size w3 w4 := by rw [hW_]; exact (Below.refl _ _).alloc (Nat.le_refl _) _
  have Hw4 := Lib.hid hW_
  clear hW_
  have c04 := (c0.below' z3).below' z4
  have c14 := (c1.below' z3).below' z4
  have y4 := y3.trans (z4.mono y3.size)
  have hg4 : w.heap.size + 1 < w4.heap.size := c14.lt
  clear q0 q1 q2 u0 u1 f0 f1
  have q0 : w4.cell? ⟨w.heap.size, 0, none⟩ = some (.int .i64 (dn : Int)) := c04.cell 0
  have q1 : w4.cell? ⟨w.heap.size, 1, none⟩ = some (.slice A n c) := c04.cell 1
  have q2 : w4.cell? ⟨w.heap.size, 2, none⟩ = some (.slice B m k) := c04.cell 2
  have u0 : w4.cell? ⟨(w.heap.size + 1), 0, none⟩ = some (.int .i64 0) := c14.cell 0
  have u1 : w4.cell? ⟨(w.heap.size + 1), 1, none⟩ = some (.slice none 0 0) := c14.cell 1
  have f0 := c14.frozen 0
  have f1 := c14.frozen 1
  have hl4 : l ≤ 1000 := by rw [← HXL.out]; exact v4
  have hln : l * n ≤ 1000 * 200 := Nat.mul_le_mul hl4 v7
  obtain ⟨M, hM⟩ : ∃ M, M = l * n := ⟨_, rfl⟩
  have w1 : IntKind.i64.wrap ((l : Int) * (n : Int)) = (M : Int) := by rw [IntWalk.i64_in _ (by rw [← Int.natCast_mul, ← hM]; omega), hM]; simp
  have HM := Lib.hid hM
  rw [← hM] at hln
  rw [← hM] at HF0
  clear hM
  go_upto_region 7 with fail
  rw [← Hw4.out]
  go_quiet ((first
    | (go_at_call 54; exact quiet_left (sizeI_any _ _ _ _ (by omega)))
    | (go_at_call 49; exact quiet_left (sizeII_any _ _ _ _ (by omega)))))
  have d14 := c14.drewN nq
  have y4q := below_drewN y4 nq
  have hz4 := (hz.below y4).drewN nq
  by_cases hM1 : M ≤ 1000
  · have hgM : ¬ (1000 : Int) < (M : Int) := by omega
    have HF : Hid (turnOfWordF (dn : Int) (nums ts) hs xs = (⟨0, codesL n xs⟩, 0)) := Lib.hid (by rw [HF0.out, HFIT.out]; simp [hM1])
    have HC := Lib.hid (codesOf_any C l r xs n (w4.drewN nq) hz4 v6 V5.out (by rw [← HM.out]; omega) (by omega) (by omega))
    have hcl : Hid ((codesL n xs).length = M) := Lib.hid (by rw [codesL_len, HXL.out, HM.out])
    rw [← HM.out] at HC
    go_wp2_with (first
      | (go_at_call 49; refine (sizeII_any _ _ _ _ (by omega)).mono ?_; rintro e w' ⟨rfl, rfl⟩))
    refine HC.out.mono ?_
    rintro e w5 ⟨A5, rfl, o5, z5⟩
    have e5 := d14.below' z5
    have y5 := y4q.trans (z5.mono y4q.size)
    clear q0 q1 q2 u0 u1 f0 f1
    have u0 : w5.cell? ⟨(w.heap.size + 1), 0, none⟩ = some (.int .i64 0) := e5.cell 0
    have u1 : w5.cell? ⟨(w.heap.size + 1), 1, none⟩ = some (.slice none 0 0) := e5.cell 1
    have f0 := e5.frozen 0
    have f1 := e5.frozen 1
    go_wp2_with fail
    have d1 := turn_set e5 (.int .i64 0) (.slice A5 M M)
    refine bodyPost_ret (v := .tuple #[.agg #[.int .i64 0, .slice A5 M M], .int .i64 0]) (by simp [results, Try.results13, go_sem, d1.cell 0, d1.cell 1]) rfl ?_
    rw [HF.out]
    refine ⟨A5, M, by rw [hcl.out], ?_, turn_below y5 (by omega) _ _⟩
    show Own _ _ _ _ _ (codesL n xs).length _ _
    rw [hcl.out]
    exact (turn_far2 e5 (o5.mono y4q.size) _ _)
  · have hgM : (1000 : Int) < (M : Int) := by omega
    have HF : Hid (turnOfWordF (dn : Int) (nums ts) hs xs = (⟨0, []⟩, 5)) := Lib.hid (by rw [HF0.out, HFIT.out]; simp [hM1])
    go_wp2_with fail
    have d1 := turn_set d14 (.int .i64 0) (.slice none 0 0)
    exact bodyPost_ret (v := .tuple #[.agg #[.int .i64 0, .slice none 0 0], .int .i64 5]) (by simp [results, Try.results13, go_sem, d1.cell 0, d1.cell 1]) rfl (tu2_nil HF.out (turn_below y4q (by omega) _ _))
end Go.Proofs.Ytfdbhlhlhjdpbaa

/-
  Contract of impl.tagSteps: so many steps of a tag system.
-/
namespace Go.Proofs.Ytfdbhlhlhjdpbaa
open Go.RowKit

section
variable {σ : Type} (s : Sys σ)
/-- The code for so many steps: 6 where the system halts before, 5 where there is no room. -/
def Sys.code (s : Sys σ) : Nat → σ → Int
  | 0, _ => 0
  | N + 1, c => if s.halt c then 6 else if s.room c then Sys.code s N (s.next c) else 5
end
section
variable {σ : Type} {s : Sys σ} {c : σ}
theorem Sys.code_halt : ∀ {N i : Nat} {c : σ}, i < N → s.Alive c i → s.halt (s.it c i) = true → s.code N c = 6 := by
  intro N
  induction N with
  | zero => intro i c h; omega
  | succ N ih =>
    intro i c h ha hh
    cases i with
    | zero => have h2 : s.halt c = true := hh; unfold Sys.code; rw [if_pos h2]
    | succ i =>
      have h4 : s.halt c = false ∧ s.room c = true := ha 0 (by omega)
      unfold Sys.code
      rw [if_neg (by simp [h4.1]), if_pos h4.2]
      exact ih (by omega) ha.shift (by rw [Sys.it_shift]; exact hh)
theorem Sys.code_full : ∀ {N i : Nat} {c : σ}, i < N → s.Alive c i → s.halt (s.it c i) = false → s.room (s.it c i) = false → s.code N c = 5 := by
  intro N
  induction N with
  | zero => intro i c h; omega
  | succ N ih =>
    intro i c h ha hh hr
    cases i with
    | zero =>
      have h2 : s.halt c = false := hh
      have h3 : s.room c = false := hr
      unfold Sys.code; rw [if_neg (by simp [h2]), if_neg (by simp [h3])]
    | succ i =>
      have h4 : s.halt c = false ∧ s.room c = true := ha 0 (by omega)
      unfold Sys.code
      rw [if_neg (by simp [h4.1]), if_pos h4.2]
      exact ih (by omega) ha.shift (by rw [Sys.it_shift]; exact hh) (by rw [Sys.it_shift]; exact hr)
theorem Sys.code_ok : ∀ {N : Nat} {c : σ}, s.Alive c N → s.code N c = 0 := by
  intro N
  induction N with
  | zero => intro c _; rfl
  | succ N ih =>
    intro c ha
    have h4 : s.halt c = false ∧ s.room c = true := ha 0 (by omega)
    unfold Sys.code
    rw [if_neg (by simp [h4.1]), if_pos h4.2]
    exact ih ha.shift
theorem Sys.code_alive : ∀ {N : Nat} {c : σ}, s.code N c = 0 → s.Alive c N := by
  intro N
  induction N with
  | zero => intro c _; exact Sys.Alive.zero _ _
  | succ N ih =>
    intro c h
    unfold Sys.code at h
    split at h
    · cases h
    · rename_i h1
      split at h
      · rename_i h2
        exact (ih h).cons (by simpa using h1) h2
      · cases h
end

set_option maxRecDepth 100000 in
set_option maxHeartbeats 4000000 in
theorem tagSteps_any (d : Int) (A : Option Addr) (n c : Nat) (ts : List Sl) (B : Option Addr) (m k : Nat) (hs : List Int) (C : Option Addr) (l r : Nat) (xs : List Int) (N : Nat) (w : World) (hx : SII w A n ts) (hy : SI w B m hs) (hz : SI w C l xs) (hn : n ≤ 1048576) (hm : m ≤ 1048576) (hl : l ≤ 1048576) (hc : tagCodeF d (nums ts) hs xs = 0) (hN : N ≤ 1000000) :
    Calls Try.prog 46 #[.agg #[.int .i64 d, .slice A n c, .slice B m k], .slice C l r, .int .i64 (N : Int)] w fun e w' => e = .returned (.int .i64 ((tagSys d (nums ts) hs).code N xs)) ∧ Below w.heap.size w w' := by
  obtain ⟨W, hW_⟩ : ∃ W, W = w.alloc (.cells #[.int .i64 d, .slice A n c, .slice B m k] 27) := ⟨_, rfl⟩
  have b0 : Blk W w.heap.size 27 #[.int .i64 d, .slice A n c, .slice B m k] := by rw [hW_]; exact Blk.new w _ _
  have y0 : Below w.heap.size w W := by rw [hW_]; exact (Below.refl _ _).alloc (Nat.le_refl _) _
  have HW := Lib.hid hW_
  clear hW_
  have q0 : W.cell? ⟨w.heap.size, 0, none⟩ = some (.int .i64 d) := b0.cell 0
  have q1 : W.cell? ⟨w.heap.size, 1, none⟩ = some (.slice A n c) := b0.cell 1
  have q2 : W.cell? ⟨w.heap.size, 2, none⟩ = some (.slice B m k) := b0.cell 2
  go_enter Try.func46, Try.ntmps46
  go_upto_region 1 with fail
  rw [← HW.out]
  go_wp2_with fail
  refine (tagRunOf_any _ _ _ _ _ _ _ _ _ _ xs _ (hz.below y0) hl).mono ?_
  rintro e w3 ⟨g, Q, r3, rfl, hg3, hr3, ho3, hb3⟩
  clear q0 q1 q2
  obtain ⟨p, hp⟩ : ∃ p : Tg, p = ⟨W, g, d, A, n, c, ts, B, m, k, hs, xs⟩ := ⟨_, rfl⟩
  have hok : p.Ok := by rw [hp]; exact ⟨hc, hx.below y0, hy.below y0, hg3, hn, hm⟩
  have h0 : ∃ Q r, TgO p 0 Q r (fun _ => False) w3 := by
    rw [hp]
    exact ⟨Q, r3, ⟨id, fun _ h => h.elim, hr3, ho3, fun _ _ h => h, hb3⟩⟩
  have HP := Lib.hid hp
  have hpg : Hid (p.g = g) := Lib.hid (by rw [hp])
  have hcd : Hid (p.sys.code N p.xs = (tagSys d (nums ts) hs).code N xs) := Lib.hid (by rw [hp])
  have hw0 : Hid (p.w0 = W) := Lib.hid (by rw [hp])
  clear hp hr3 ho3 hb3 hc
  go_wp2_with fail
  go_loopw [12] (fun i wr => ∃ (j : Nat) (Q : Option Addr) (r : Nat), i = .int .i64 (j : Int) ∧ j ≤ N ∧ p.sys.Alive p.xs j ∧ TgO p j Q r (fun _ => False) wr) (fun i _ => N - (intOf i).toNat)
  case atStart =>
    obtain ⟨Q, r, h⟩ := h0
    exact ⟨0, Q, r, rfl, Nat.zero_le _, Sys.Alive.zero _ _, h⟩
  case round =>
    obtain ⟨j, Q1, r1, rfl, hj, hal, ho⟩ := hrel
    have HAL := Lib.hid hal
    clear hal h0
    have hlow : Below w.heap.size w wr := by have := ho.low; rw [hw0.out] at this; exact y0.trans (this.mono y0.size)
    by_cases hlt : j < N
    · have hlt' : (j : Int) < (N : Int) := by omega
      have hh0 := tagHalts_g hok HAL.out ho
      rw [hpg.out] at hh0
      have HH := Lib.hid hh0
      clear hh0
      go_wp2_with fail
      refine HH.out.mono ?_
      rintro e W' ⟨rfl, q, rfl⟩
      have ho2 := ho.drewN q
      have hlow2 := below_drewN hlow q
      generalize wr.drewN q = W2 at *
      cases hh : p.sys.halt (p.it j) with
      | true =>
        have HF := Lib.hid (Sys.code_halt hlt HAL.out hh)
        clear hh
        go_wp2_with fail
        go_ret
        exact ⟨ret_int (HF.out.symm.trans hcd.out), hlow2⟩
      | false =>
        have HH2 := Lib.hid hh
        have hs0 := tagStep_g hok HAL.out hh ho2
        rw [hpg.out] at hs0
        have HS := Lib.hid hs0
        clear hs0
        clear hh
        go_wp2_with fail
        refine HS.out.mono ?_
        rintro e W3 ⟨rfl, ⟨Q', r', ho'⟩, _⟩
        have hlow3 : Below w.heap.size w W3 := by have := ho'.low; rw [hw0.out] at this; exact y0.trans (this.mono y0.size)
        cases hr : p.sys.room (p.it j) with
        | true =>
          have HR := Lib.hid hr
          clear hr
          go_wp2_with fail
          go_roundw
          case rel => exact ⟨j + 1, Q', r', by go_num, by omega, HAL.out.step HH2.out HR.out, ho'⟩
          case measure => simp [intOf]; omega
        | false =>
          have HF := Lib.hid (Sys.code_full hlt HAL.out HH2.out hr)
          clear hr
          go_wp2_with fail
          go_ret
          exact ⟨ret_int (HF.out.symm.trans hcd.out), hlow3⟩
    · have hjN : j = N := by omega
      subst hjN
      have HF := Lib.hid (Sys.code_ok HAL.out)
      go_wp2_with fail
      go_ret
      exact ⟨ret_int (HF.out.symm.trans hcd.out), hlow⟩
end Go.Proofs.Ytfdbhlhlhjdpbaa

/-
  What RunCyclicTag returns. No program is in sight.
-/
namespace Go.Proofs.Ytfdbhlhlhjdpbaa
open Go.RowKit

def rctF (d : Int) (words : List (List Int)) (hs xs : List Int) (steps : Int) : List Int × Int × Int :=
  if tagCodeF d words hs xs = 0 then
    if inB steps 0 60 then
      if cycFitsB d.toNat words && decide (xs.length * words.length ≤ 1000) then
        if (tagSys d words hs).code steps.toNat xs = 0 then
          if (cycSys (cycWords d.toNat words)).code (steps.toNat * (words.length * d.toNat)) ⟨0, codesL words.length xs⟩ = 0 then
            ((tagSys d words hs).it xs steps.toNat, ((steps.toNat * (words.length * d.toNat) : Nat) : Int), 0)
          else ([], 0, 5)
        else ([], 0, (tagSys d words hs).code steps.toNat xs)
      else ([], 0, 5)
    else ([], 0, 2)
  else ([], 0, 1)
section
variable {d : Int} {words : List (List Int)} {hs xs : List Int} {steps : Int}
theorem rctF_bad (h : tagCodeF d words hs xs = 1) : rctF d words hs xs steps = ([], 0, 1) := by unfold rctF; rw [h]; simp
theorem rctF_range (h : tagCodeF d words hs xs = 0) (h1 : inB steps 0 60 = false) : rctF d words hs xs steps = ([], 0, 2) := by unfold rctF; rw [h, h1]; simp
theorem rctF_fits (h : tagCodeF d words hs xs = 0) (h1 : inB steps 0 60 = true) (h2 : (cycFitsB d.toNat words && decide (xs.length * words.length ≤ 1000)) = false) : rctF d words hs xs steps = ([], 0, 5) := by unfold rctF; rw [h, h1, h2]; simp
theorem rctF_code (h : tagCodeF d words hs xs = 0) (h1 : inB steps 0 60 = true) (h2 : (cycFitsB d.toNat words && decide (xs.length * words.length ≤ 1000)) = true) (h3 : (tagSys d words hs).code steps.toNat xs ≠ 0) : rctF d words hs xs steps = ([], 0, (tagSys d words hs).code steps.toNat xs) := by
  unfold rctF; rw [h, h1, h2]; simp [h3]
theorem rctF_full (h : tagCodeF d words hs xs = 0) (h1 : inB steps 0 60 = true) (h2 : (cycFitsB d.toNat words && decide (xs.length * words.length ≤ 1000)) = true) (h3 : (tagSys d words hs).code steps.toNat xs = 0) (h4 : (cycSys (cycWords d.toNat words)).code (steps.toNat * (words.length * d.toNat)) ⟨0, codesL words.length xs⟩ ≠ 0) : rctF d words hs xs steps = ([], 0, 5) := by
  unfold rctF; rw [h, h1, h2, h3]; simp [h4]
theorem rctF_ok (h : tagCodeF d words hs xs = 0) (h1 : inB steps 0 60 = true) (h2 : (cycFitsB d.toNat words && decide (xs.length * words.length ≤ 1000)) = true) (h3 : (tagSys d words hs).code steps.toNat xs = 0) (h4 : (cycSys (cycWords d.toNat words)).code (steps.toNat * (words.length * d.toNat)) ⟨0, codesL words.length xs⟩ = 0) : rctF d words hs xs steps = ((tagSys d words hs).it xs steps.toNat, ((steps.toNat * (words.length * d.toNat) : Nat) : Int), 0) := by
  unfold rctF; rw [h, h1, h2, h3, h4]; simp
end
theorem rctF_len (d : Int) (words : List (List Int)) (hs xs : List Int) (steps : Int) : (rctF d words hs xs steps).1.length ≤ 1048576 := by
  refine Nat.le_trans (?_ : _ ≤ 1000) (by decide)
  unfold rctF
  split
  · rename_i h
    split
    · split
      · split
        · rename_i h3
          split
          · exact (tagCode_parts (tagAlive_good h (Sys.code_alive h3))).2.2.2.1
          · simp
        · simp
      · simp
    · simp
  · simp
theorem turnOfWordF_at {dn : Nat} {words : List (List Int)} {hs xs : List Int} (h : tagCodeF (dn : Int) words hs xs = 0) : turnOfWordF (dn : Int) words hs xs = if (cycFitsB dn words && decide (xs.length * words.length ≤ 1000)) = true then (⟨0, codesL words.length xs⟩, 0) else (⟨0, []⟩, 5) := by
  unfold turnOfWordF; rw [h]; simp
theorem unitL_bits {n x : Nat} : ∀ y ∈ unitL n x, 0 ≤ y ∧ y ≤ 1 := by
  intro y hy
  obtain ⟨k, _, rfl⟩ := List.mem_map.1 hy
  split <;> omega
theorem codesL_bits {n : Nat} {v : List Int} : ∀ y ∈ codesL n v, 0 ≤ y ∧ y ≤ 1 := by
  intro y hy
  obtain ⟨x, _, h⟩ := List.mem_flatMap.1 hy
  exact unitL_bits y h
theorem codesL_ok {n : Nat} {v : List Int} (h : v.length * n ≤ 1000) : tagWordB (codesL n v) 2 = true := by
  unfold tagWordB allIn
  simp only [Bool.and_eq_true, decide_eq_true_eq, List.all_eq_true, inB_iff]
  exact ⟨by rw [codesL_len]; exact h, fun y hy => by have := codesL_bits y hy; omega⟩
theorem cyc_valid {d : Nat} {words : List (List Int)} {xs : List Int} (hd : 1 ≤ d) (hw : 1 ≤ words.length) (h : (cycFitsB d words && decide (xs.length * words.length ≤ 1000)) = true) : validTurnB (cycWords d words) ⟨0, codesL words.length xs⟩ = true := by
  unfold cycFitsB at h
  simp only [Bool.and_eq_true, decide_eq_true_eq, List.all_eq_true] at h
  obtain ⟨⟨h1, h2⟩, h3⟩ := h
  have hl := cycWords_len hd words
  have h4 : 1 ≤ words.length * d := Nat.mul_pos hw hd
  unfold validTurnB validCyclB wordsB
  simp only [Bool.and_eq_true, inB_iff, List.all_eq_true]
  rw [hl]
  refine ⟨⟨⟨by omega, fun v hv => ?_⟩, by show (0 : Int) ≤ 0 ∧ (0 : Int) ≤ _; omega⟩, codesL_ok h3⟩
  unfold cycWords at hv
  rcases List.mem_append.1 hv with hv | hv
  · obtain ⟨u, hu, rfl⟩ := List.mem_map.1 hv
    exact codesL_ok (h2 u hu)
  · obtain ⟨_, rfl⟩ := List.mem_replicate.1 hv
    rfl
end Go.Proofs.Ytfdbhlhlhjdpbaa

/-
  The plain law behind FnCyclicTags: short tag systems run for a few steps. No program is in sight.
-/
namespace Go.Proofs.Ytfdbhlhlhjdpbaa
open Go.RowKit

/-- A tag system that R8Tag may draw, with a word. -/
structure Small (d : Nat) (words : List (List Int)) (hs xs : List Int) : Prop where
  d1 : 1 ≤ d
  d3 : d ≤ 3
  n1 : 1 ≤ words.length
  n4 : words.length ≤ 4
  row : ∀ v ∈ words, v.length ≤ 3
  code : tagCodeF (d : Int) words hs xs = 0
  short : xs.length ≤ 7
section
variable {d : Nat} {words : List (List Int)} {hs xs : List Int}
theorem tagWordOf_len (h : ∀ v ∈ words, v.length ≤ 3) (ys : List Int) : (tagWordOf words ys).length ≤ 3 := by
  unfold tagWordOf
  rw [List.getD_eq_getElem?_getD]
  cases e : words[(ys.headD 0).toNat]? with
  | none => simp
  | some v => simpa using h v (List.mem_of_getElem? e)
theorem Small.it_len (h : Small d words hs xs) (i : Nat) : ((tagSys (d : Int) words hs).it xs i).length ≤ 7 + 3 * i := by
  induction i with
  | zero => exact h.short
  | succ i ih =>
    have e : (tagSys (d : Int) words hs).it xs (i + 1) = ((tagSys (d : Int) words hs).it xs i ++ tagWordOf words ((tagSys (d : Int) words hs).it xs i)).drop (d : Int).toNat := rfl
    have h1 := tagWordOf_len h.row ((tagSys (d : Int) words hs).it xs i)
    rw [e, List.length_drop, List.length_append]
    omega
theorem Small.room (h : Small d words hs xs) (i : Nat) (hi : i ≤ 6) : (tagSys (d : Int) words hs).room ((tagSys (d : Int) words hs).it xs i) = true := by
  have h1 := h.it_len i
  have h2 := tagWordOf_len h.row ((tagSys (d : Int) words hs).it xs i)
  have e : (tagSys (d : Int) words hs).room ((tagSys (d : Int) words hs).it xs i) = decide (((tagSys (d : Int) words hs).it xs i ++ tagWordOf words ((tagSys (d : Int) words hs).it xs i)).length ≤ 1000) := rfl
  rw [e, decide_eq_true_eq, List.length_append]
  omega
/-- A run of few steps ends. -/
theorem Small.ended (h : Small d words hs xs) : ∀ N, N ≤ 6 → ∃ i, i ≤ N ∧ (tagSys (d : Int) words hs).Ended xs N i := by
  intro N
  induction N with
  | zero => intro _; exact ⟨0, Nat.le_refl _, Nat.le_refl _, Sys.Alive.zero _ _, .inl rfl⟩
  | succ N ih =>
    intro hN
    obtain ⟨i, hi, h1, h2, h3⟩ := ih (by omega)
    by_cases hh : (tagSys (d : Int) words hs).halt ((tagSys (d : Int) words hs).it xs i) = true
    · exact ⟨i, by omega, by omega, h2, .inr hh⟩
    · rcases h3 with rfl | h3
      · exact ⟨i + 1, Nat.le_refl _, Nat.le_refl _, h2.step (by simpa using hh) (h.room i (by omega)), .inl rfl⟩
      · exact absurd h3 hh
theorem codes_row {v : List Int} (h : Small d words hs xs) (hv : v ∈ cycWords d words) : v.length ≤ 12 := by
  unfold cycWords at hv
  rcases List.mem_append.1 hv with hv | hv
  · obtain ⟨u, hu, rfl⟩ := List.mem_map.1 hv
    rw [codesL_len]
    have h1 := h.row u hu
    have h2 := h.n4
    calc u.length * words.length ≤ 3 * 4 := Nat.mul_le_mul h1 h2
      _ = 12 := rfl
  · obtain ⟨_, rfl⟩ := List.mem_replicate.1 hv
    simp
theorem cycNext_grow {ws : List (List Int)} (h : ∀ v ∈ ws, v.length ≤ 12) (x : Tu) : (cycNext ws x).word.length ≤ x.word.length + 12 := by
  have h1 : (ws.getD x.at_.toNat []).length ≤ 12 := by
    rw [List.getD_eq_getElem?_getD]
    cases e : ws[x.at_.toNat]? with
    | none => simp
    | some v => simpa using h v (List.mem_of_getElem? e)
  have h3 : (cycWord ws x).length ≤ 12 := by unfold cycWord; split <;> simp_all
  unfold cycNext
  dsimp only
  rw [List.length_append]
  have h2 : x.word.tail.length ≤ x.word.length := by simp
  omega
theorem cyc_it_len {ws : List (List Int)} (h : ∀ v ∈ ws, v.length ≤ 12) (x : Tu) (k : Nat) : ((cycSys ws).it x k).word.length ≤ x.word.length + 12 * k := by
  induction k with
  | zero => exact Nat.le_refl _
  | succ k ih =>
    have h1 := cycNext_grow h ((cycSys ws).it x k)
    have e : (cycSys ws).it x (k + 1) = cycNext ws ((cycSys ws).it x k) := rfl
    rw [e]
    omega
theorem Small.steps (h : Small d words hs xs) {i : Nat} (hi : i ≤ 5) : i * (words.length * d) ≤ 60 := by
  have h1 : words.length * d ≤ 4 * 3 := Nat.mul_le_mul h.n4 h.d3
  calc i * (words.length * d) ≤ 5 * (4 * 3) := Nat.mul_le_mul hi h1
    _ = 60 := rfl
theorem Small.fits (h : Small d words hs xs) {ys : List Int} (hy : ys.length ≤ 30) : (cycFitsB d words && decide (ys.length * words.length ≤ 1000)) = true := by
  have h1 : words.length * d ≤ 4 * 3 := Nat.mul_le_mul h.n4 h.d3
  unfold cycFitsB
  simp only [Bool.and_eq_true, decide_eq_true_eq, List.all_eq_true]
  refine ⟨⟨by omega, fun v hv => ?_⟩, ?_⟩
  · have := Nat.mul_le_mul (h.row v hv) h.n4
    omega
  · have := Nat.mul_le_mul hy h.n4
    omega
theorem Small.rct (h : Small d words hs xs) {i : Nat} (hi : i ≤ 5) (ha : (tagSys (d : Int) words hs).Alive xs i) : rctF (d : Int) words hs xs (i : Int) = ((tagSys (d : Int) words hs).it xs i, ((i * (words.length * d) : Nat) : Int), 0) := by
  obtain ⟨s1, s2⟩ := cyc_steps h.d1 h.code i ha
  have hal : (cycSys (cycWords d words)).Alive ⟨0, codesL words.length xs⟩ (i * (words.length * d)) := by
    intro k hk
    refine ⟨?_, ?_⟩
    · have e : (cycSys (cycWords d words)).halt ((cycSys (cycWords d words)).it ⟨0, codesL words.length xs⟩ k) = decide (((cycSys (cycWords d words)).it ⟨0, codesL words.length xs⟩ k).word.length = 0) := rfl
      rw [e, decide_eq_false_iff_not]
      exact s2 k hk
    · have h1 := cyc_it_len (fun v hv => codes_row h hv) ⟨0, codesL words.length xs⟩ (k + 1)
      have e : (cycSys (cycWords d words)).room ((cycSys (cycWords d words)).it ⟨0, codesL words.length xs⟩ k) = decide (((cycSys (cycWords d words)).it ⟨0, codesL words.length xs⟩ (k + 1)).word.length ≤ 1000) := rfl
      rw [e, decide_eq_true_eq]
      have h2 : (codesL words.length xs).length ≤ 7 * 4 := by rw [codesL_len]; exact Nat.mul_le_mul h.short h.n4
      have h3 := h.steps hi
      dsimp only at h1
      omega
  have hf := rctF_ok (d := (d : Int)) (words := words) (hs := hs) (xs := xs) (steps := (i : Int)) h.code (by rw [inB_iff]; omega) (by simpa using h.fits (ys := xs) (by have := h.short; omega)) (by simpa using Sys.code_ok ha) (by simpa using Sys.code_ok hal)
  simpa using hf
theorem Small.turn (h : Small d words hs xs) {i : Nat} (hi : i ≤ 5) (ha : (tagSys (d : Int) words hs).Alive xs i) : turnOfWordF (d : Int) words hs ((tagSys (d : Int) words hs).it xs i) = (⟨0, codesL words.length ((tagSys (d : Int) words hs).it xs i)⟩, 0) := by
  rw [turnOfWordF_at (tagAlive_good h.code ha), if_pos (h.fits (by have := h.it_len i; omega))]
end
end Go.Proofs.Ytfdbhlhlhjdpbaa

/-
  The reference's R8Tag: a small tag system and a word.
-/
namespace Go.Proofs.Ytfdbhlhlhjdpbaa
open Go.RowKit

theorem Kb.set_hi {b : Nat} {a W : World} (h : Kb b a W) {p : Addr} (hp : a.heap.size ≤ p.block) (u : Value) : Kb b a (W.setCell p u) :=
  ⟨h.os, h.tape, h.output, by simpa [World.setCell] using h.size, fun k hk hy => (Below.heap_setCell W p u k (by omega)).trans (h.block k hk hy)⟩
def DrewTag (w : World) (e : Ending) (w' : World) : Prop :=
  ∃ (d : Nat) (A : Option Addr) (c : Nat) (ts : List Sl) (B : Option Addr) (k : Nat) (hs : List Int) (C : Option Addr) (r : Nat) (xs : List Int),
    e = .returned (.tuple #[.agg #[.int .i64 (d : Int), .slice A ts.length c, .slice B hs.length k], .slice C xs.length r]) ∧ OII w' w.heap.size 25 2 A ts.length c ts ∧
    Own w' w.heap.size 2 1 B hs.length k (ints hs) ∧ Own w' w.heap.size 2 1 C xs.length r (ints xs) ∧ Small d (nums ts) hs xs ∧ Below w.heap.size w w'
theorem small_of {d M : Nat} {us : List Sl} {hs xs : List Int} (hd1 : 1 ≤ d) (hd3 : d ≤ 3) (hM1 : 1 ≤ M) (hM4 : M ≤ 4) (hu : us.length = M) (ho : OkW 3 (M : Int) us) (hh : hs = [] ∨ ∃ x, hs = [x] ∧ 0 ≤ x ∧ x < (M : Int)) (hxl : xs.length ≤ 7) (hx : ∀ x ∈ xs, 0 ≤ x ∧ x < (M : Int)) : Small d (nums us) hs xs := by
  have hl : (nums us).length = M := by simpa [nums] using hu
  refine ⟨hd1, hd3, by omega, by omega, fun v hv => ?_, ?_, hxl⟩
  · obtain ⟨u, hu, rfl⟩ := List.mem_map.1 hv
    exact (ho u hu).1
  · rw [tagCode_zero, hl]
    have h1 : wordsB (nums us) (M : Int) = true := by
      unfold wordsB tagWordB allIn
      simp only [List.all_eq_true, Bool.and_eq_true, decide_eq_true_eq, inB_iff]
      intro v hv
      obtain ⟨u, hu, rfl⟩ := List.mem_map.1 hv
      obtain ⟨h2, h3⟩ := ho u hu
      exact ⟨by omega, fun y hy => by have := h3 y hy; omega⟩
    refine ⟨?_, ?_⟩
    · unfold validTagB
      rw [hl, h1]
      have h4 : risesB hs = true := by
        unfold risesB
        rcases hh with rfl | ⟨x, rfl, _⟩ <;> simp
      have h5 : allIn hs 0 ((M : Int) - 1) = true := by
        unfold allIn
        simp only [List.all_eq_true, inB_iff]
        rcases hh with rfl | ⟨x, rfl, h6, h7⟩
        · simp
        · intro y hy
          rw [List.mem_singleton.1 hy]; omega
      rw [h4, h5, (inB_iff _ _ _).2 ⟨by omega, by omega⟩, (inB_iff _ _ _).2 ⟨by omega, by omega⟩]
      rfl
    · unfold tagWordB allIn
      simp only [List.all_eq_true, Bool.and_eq_true, decide_eq_true_eq, inB_iff]
      exact ⟨by omega, fun y hy => by have := hx y hy; omega⟩
theorem drew_done {w w4 V wr : World} {l3 g dc hc f d : Nat} {D H F : Option Addr} {us : List Sl} {zs ys : List Int} (hw : w.heap.size < l3) (hg : g < l3) (hgw : w.heap.size < g) (hU : OII w4 l3 25 2 D us.length dc us) (hKv : Kb g w4 V) (hO : Own V l3 2 1 H zs.length hc (ints zs)) (hZ : Below w.heap.size w V)
    (hK : Kb g V wr) (hF : Own wr V.heap.size 2 1 F ys.length f (ints ys)) (hV : l3 ≤ V.heap.size) (hs : Small d (nums us) zs ys) (a b c : Value) :
    DrewTag w (.returned (.tuple #[.agg #[.int .i64 (d : Int), .slice D us.length dc, .slice H zs.length hc], .slice F ys.length f])) (((wr.setCell ⟨w.heap.size, 0, none⟩ a).setCell ⟨w.heap.size, 1, none⟩ b).setCell ⟨w.heap.size, 2, none⟩ c) := by
  have k : Kb w.heap.size wr (((wr.setCell ⟨w.heap.size, 0, none⟩ a).setCell ⟨w.heap.size, 1, none⟩ b).setCell ⟨w.heap.size, 2, none⟩ c) := (((Kb.refl _ _).set_ 0 _).set_ 1 _).set_ 2 _
  refine ⟨d, D, dc, us, H, hc, zs, F, f, ys, rfl, ?_, ?_, ?_, hs, ?_⟩
  · exact ((hU.kb (hKv.trans hK) hg).kb k hw).mono (by omega)
  · exact (k.own' (hK.own' hO hg) hw).mono (by omega)
  · exact (k.own' hF (by omega)).mono (by omega)
  · exact (((hK.below hZ (by omega)).setCell (Nat.le_refl _) _).setCell (Nat.le_refl _) _).setCell (Nat.le_refl _) _
set_option maxRecDepth 100000 in
set_option maxHeartbeats 400000 in
theorem r8Tag_any (A : Option Addr) (n c : Nat) (xs : List Int) (w : World) (hx : SB w A n xs) (hA : ∀ k, blk A = some k → k < w.heap.size) (hn : n ≤ 9223372036854775807) :
    Calls Try.prog 9 #[.slice A n c] w (DrewTag w) := by
  have HX := Lib.hid hx
  have HA := Lib.hid hA
  clear hx hA
  obtain ⟨W, hW_⟩ : ∃ W, W = w.alloc (.cells #[.int .i64 0, .slice none 0 0, .slice none 0 0] 27) := ⟨_, rfl⟩
  have b0 : Blk W w.heap.size 27 #[.int .i64 0, .slice none 0 0, .slice none 0 0] := by rw [hW_]; exact Blk.new w _ _
  have y0 : Below w.heap.size w W := by rw [hW_]; exact (Below.refl _ _).alloc (Nat.le_refl _) _
  have HW := Lib.hid hW_
  clear hW_
  obtain ⟨g, hg⟩ : ∃ g, g = W.heap.size := ⟨_, rfl⟩
  have HG : Hid (w.heap.size < g) := Lib.hid (by rw [hg]; exact b0.lt)
  have HAg : Hid (∀ k, blk A = some k → k ≠ g) := Lib.hid (fun k hk => by have := HA.out k hk; have := HG.out; omega)
  go_enter Try.func9, Try.ntmps9
  go_wp2_with fail
  rw [← HW.out]
  refine (from_any A n c W).mono ?_
  rintro e1 w1 ⟨rfl, hs1, z1⟩
  rw [← hg] at hs1 ⊢
  have B1 := Lib.hid (b0.below' z1)
  have Z1 := Lib.hid (y0.trans (z1.mono y0.size))
  have HX1 := Lib.hid (HX.out.below Z1.out)
  clear b0 y0 z1 hg
  go_wp2_with fail
  refine (pick_any g A n c 0 xs 4 _ HX1.out HAg.out hs1 (by omega) hn (by omega) (by omega)).mono ?_
  rintro e2 w2 ⟨x, rfl, hx0, hx1, hs2, hk2⟩
  have HX2 := Lib.hid (HX1.out.kb hk2 HAg.out)
  have B2 := Lib.hid (hk2.blk_ B1.out (by have := HG.out; omega))
  have Z2 := Lib.hid (hk2.below Z1.out (by have := HG.out; omega))
  obtain ⟨N, rfl⟩ : ∃ N : Nat, x = (N : Int) := ⟨x.toNat, by omega⟩
  have hN : N ≤ 3 := by omega
  obtain ⟨M, hM⟩ : ∃ M : Nat, (1 : Int) + (N : Int) = (M : Int) := ⟨N + 1, by omega⟩
  have HM := Lib.hid hM
  have hM1 : 1 ≤ M := by omega
  have hM4 : M ≤ 4 := by omega
  clear hx0 hx1 hk2 hs1 HX1 B1 Z1 hM
  go_wp2_with fail
  rw [HM.out]
  refine (pick_any g A n c 2 xs 3 _ HX2.out HAg.out hs2 (by omega) hn (by omega) (by omega)).mono ?_
  rintro e3 w3 ⟨x, rfl, hx0, hx1, hs3, hk3⟩
  have HX3 := Lib.hid (HX2.out.kb hk3 HAg.out)
  have B3 := Lib.hid (hk3.blk_ B2.out (by have := HG.out; omega))
  have Z3 := Lib.hid (hk3.below Z2.out (by have := HG.out; omega))
  obtain ⟨d0, rfl⟩ : ∃ d0 : Nat, x = (d0 : Int) := ⟨x.toNat, by omega⟩
  have hd0 : d0 ≤ 2 := by omega
  obtain ⟨E, hE⟩ : ∃ E : Nat, (1 : Int) + (d0 : Int) = (E : Int) := ⟨d0 + 1, by omega⟩
  have HE := Lib.hid hE
  have hE1 : 1 ≤ E := by omega
  have hE3 : E ≤ 3 := by omega
  have HGW : Hid (g < w3.heap.size) := Lib.hid (by obtain ⟨_, _, _, _, _, h⟩ := hs3; exact h.lt)
  clear hx0 hx1 hk3 hs2 HX2 B2 Z2 hE
  go_wp2_with fail
  rw [HE.out]
  refine (drawWords_any g A n c 4 xs M 3 (M : Int) _ HX3.out HAg.out hs3 HGW.out (by omega) hn (by omega) (by omega) (by omega) (by omega)).mono ?_
  rintro e4 w4 ⟨D, dc, us, rfl, hU, hul, hok, hs4, hk4⟩
  have HX4 := Lib.hid (HX3.out.kb hk4 HAg.out)
  have B4 := Lib.hid (hk4.blk_ B3.out (by have := HG.out; omega))
  have Z4 := Lib.hid (hk4.below Z3.out (by have := HG.out; omega))
  obtain ⟨l3, hl3⟩ : ∃ l, l = w3.heap.size := ⟨_, rfl⟩
  have HL3 : Hid (w.heap.size ≤ l3 ∧ g < l3 ∧ l3 ≤ w4.heap.size) := Lib.hid (by rw [hl3]; exact ⟨Z3.out.size, HGW.out, hk4.size⟩)
  have hU4 := hU
  rw [← hl3] at hU4
  clear hl3
  have HS4 := Lib.hid hs4
  have HOK := Lib.hid hok
  have HUL := Lib.hid hul
  clear hU hk4 hs3 HX3 B3 Z3 hs4 hok hul HE
  have HU4 := Lib.hid hU4
  have KK0 : Hid (Kb g w4 w4) := Lib.hid (Kb.refl g w4)
  clear hU4
  obtain ⟨W5, hW_⟩ : ∃ W, W = (w4.alloc (.cells #[] 2)).alloc (.cells #[.int .i64 (E : Int), .slice D us.length dc, .slice (some ⟨w4.heap.size, 0, none⟩) 0 0] 27) := ⟨_, rfl⟩
  have s_1 : (w4.alloc (.cells #[] 2)).heap.size = w4.heap.size + 1 := by simp
  have c0 : Blk W5 w4.heap.size 2 #[] := by rw [hW_]; exact (Blk.new w4 _ _).alloc _
  have c1 : Blk W5 (w4.heap.size + 1) 27 #[.int .i64 (E : Int), .slice D us.length dc, .slice (some ⟨w4.heap.size, 0, none⟩) 0 0] := by rw [hW_, ← s_1]; exact Blk.new _ _ _
  have y5 : Below w4.heap.size w4 W5 := by rw [hW_]; exact ((Below.refl _ _).alloc (Nat.le_refl _) _).alloc (by simp) _
  have HW5 := Lib.hid hW_
  clear hW_ s_1
  go_upto_region 4 with fail
  rw [← HW5.out]
  have HX5 := Lib.hid (HX4.out.below y5)
  have B5 := Lib.hid (B4.out.below' y5)
  have Z5 := Lib.hid (Z4.out.trans (y5.mono Z4.out.size))
  have KK5 : Hid (Kb g w4 W5) := Lib.hid (Kb.of_below y5)
  have HS5 := Lib.hid (HS4.out.below y5)
  have O5 : Hid (Own W5 l3 2 1 (some ⟨w4.heap.size, 0, none⟩) 0 0 (ints [])) := Lib.hid (Blk.owns (n := 0) (s := 1) c0 rfl (by simp [maxLen]) HL3.out.2.2)
  have HT : Hid (w.heap.size < w4.heap.size + 1 ∧ g < w4.heap.size + 1) := Lib.hid (by have := Z4.out.size; have := B4.out.lt; obtain ⟨_, _, _, _, _, h⟩ := HS4.out; have := h.lt; omega)
  have C1 := Lib.hid c1
  clear HX4 B4 HS4 y5 c0 c1 HW5 KK0
  go_wp2_with fail
  refine (one_any g A n c (4 + M * 100) xs 2 _ HX5.out HAg.out HS5.out (by omega) hn (by omega) (by omega)).mono ?_
  rintro e6 w6 ⟨y, rfl, hs6, hk6⟩
  have HX6 := Lib.hid (HX5.out.kb hk6 HAg.out)
  have B6 := Lib.hid (hk6.blk_ B5.out (by have := HG.out; omega))
  have C6 := Lib.hid (hk6.blk_ C1.out (by have := HT.out; omega))
  have Z6 := Lib.hid (hk6.below Z5.out (by have := HG.out; omega))
  have KK6 := Lib.hid (KK5.out.trans hk6)
  have O6 := Lib.hid (hk6.own' O5.out HL3.out.2.1)
  have HS6 := Lib.hid hs6
  clear hk6 hs6 HX5 B5 C1 Z5 O5 HS5 KK5
  go_upto_region 6 with fail
  refine (pick_any g A n c (4 + M * 100 + 2) xs (M : Int) _ HX6.out HAg.out HS6.out (by omega) hn (by omega) (by omega)).mono ?_
  rintro e7 w7 ⟨x, rfl, hx0, hx1, hs7, hk7⟩
  have HX7 := Lib.hid (HX6.out.kb hk7 HAg.out)
  have B7 := Lib.hid (hk7.blk_ B6.out (by have := HG.out; omega))
  have c7 := hk7.blk_ C6.out (by have := HT.out; omega)
  have Z7 := Lib.hid (hk7.below Z6.out (by have := HG.out; omega))
  have KK7 := Lib.hid (KK6.out.trans hk7)
  have HS7 := Lib.hid hs7
  have hl7 : l3 ≤ w7.heap.size := by have := HL3.out; have := hk7.size; have := HT.out; have := C6.out.lt; omega
  clear hk7 hs7 HX6 B6 C6 Z6 O6 HS6 KK6
  have c8 : Blk (w7.alloc (.cells #[.int .i64 x] 2)) (w4.heap.size + 1) 27 _ := c7.alloc _
  have n8 : Blk (w7.alloc (.cells #[.int .i64 x] 2)) w7.heap.size 2 _ := Blk.new w7 _ _
  have f8 := c7.frozen 2
  have k8 : w7.cell? ⟨w4.heap.size + 1, 2, none⟩ = some (.slice (some ⟨w4.heap.size, 0, none⟩) 0 0) := c7.cell 2
  have hg8 : w4.heap.size + 1 < w7.heap.size := c7.lt
  have hn8 : ¬ w4.heap.size + 1 = w7.heap.size := by omega
  have f9 : (w7.alloc (.cells #[.int .i64 x] 2)).frozen? ⟨w4.heap.size + 1, 2, none⟩ = false := c8.frozen 2
  have k9 : (w7.alloc (.cells #[.int .i64 x] 2)).cell? ⟨w4.heap.size + 1, 2, none⟩ = some (.slice (some ⟨w4.heap.size, 0, none⟩) 0 0) := c8.cell 2
  go_upto_region 6 with fail
  obtain ⟨V, hV⟩ : ∃ V, V = (w7.setCell ⟨w4.heap.size + 1, 2, none⟩ (.slice (some ⟨w7.heap.size, 0, none⟩) 1 1)).alloc (.cells #[.int .i64 x] 2) := ⟨_, rfl⟩
  rw [← hV]
  have KV : Kb (w4.heap.size + 1) w7 V := by rw [hV]; exact ((Kb.refl _ w7).set_ 2 _).alloc _
  obtain ⟨H, hc, zs, Cv, Ov, hz⟩ : ∃ (H : Option Addr) (hc : Nat) (zs : List Int), Blk V (w4.heap.size + 1) 27 #[.int .i64 (E : Int), .slice D us.length dc, .slice H zs.length hc] ∧ Own V l3 2 1 H zs.length hc (ints zs) ∧ (zs = [] ∨ ∃ x, zs = [x] ∧ 0 ≤ x ∧ x < (M : Int)) := by
    have q8 : (w7.setCell ⟨w4.heap.size + 1, 2, none⟩ (.slice (some ⟨w7.heap.size, 0, none⟩) 1 1)).heap.size = w7.heap.size := by simp [World.setCell]
    have n9 : Blk V w7.heap.size 2 #[.int .i64 x] := by
        have h9 := Blk.new (w7.setCell ⟨w4.heap.size + 1, 2, none⟩ (.slice (some ⟨w7.heap.size, 0, none⟩) 1 1)) 2 #[.int .i64 x]
        rw [q8] at h9
        rw [hV]; exact h9
    exact ⟨some ⟨w7.heap.size, 0, none⟩, 1, [x], by rw [hV]; exact (c7.set_ 2 _).alloc _, Blk.owns (n := 1) (s := 1) n9 rfl (by simp [maxLen]) hl7, .inr ⟨x, rfl, hx0, by omega⟩⟩
  have Zv : Below w.heap.size w V := by
    rw [hV]; exact (Z7.out.setCell (p := ⟨w4.heap.size + 1, 2, none⟩) (by have := HT.out; show w.heap.size ≤ w4.heap.size + 1; omega) _).alloc (by have := Z7.out.size; simpa [World.setCell] using this) _
  have KKv : Kb g w4 V := by rw [hV]; exact (KK7.out.set_hi (p := ⟨w4.heap.size + 1, 2, none⟩) (Nat.le_succ _) _).alloc _
  have Bv := KV.blk_ B7.out (by have := HT.out; omega)
  have Hv := HX7.out.kb KV (fun k hk => by have := HA.out k hk; have := HT.out; omega)
  have Sv : Src g A n c (4 + M * 100 + 4) V := by
    obtain ⟨a, s, q1, q2, q3, q4⟩ := HS7.out
    exact ⟨a, s, by omega, q2, q3, KV.blk_ q4 (by have := HT.out; omega)⟩
  clear hV KV HX7 B7 c7 Z7 KK7 HS7 hl7 c8 n8 f8 k8 hg8 hn8 f9 k9 hx0 hx1
  rotate_left
  obtain ⟨V, hV⟩ : ∃ V, V = w6 := ⟨_, rfl⟩
  rw [← hV] at KK6 HX6 B6 C6 Z6 O6 HS6 ⊢
  obtain ⟨H, hc, zs, Cv, Ov, hz⟩ : ∃ (H : Option Addr) (hc : Nat) (zs : List Int), Blk V (w4.heap.size + 1) 27 #[.int .i64 (E : Int), .slice D us.length dc, .slice H zs.length hc] ∧ Own V l3 2 1 H zs.length hc (ints zs) ∧ (zs = [] ∨ ∃ x, zs = [x] ∧ 0 ≤ x ∧ x < (M : Int)) :=
    ⟨some ⟨w4.heap.size, 0, none⟩, 0, [], C6.out, O6.out, .inl rfl⟩
  have Zv := Z6.out
  have KKv := KK6.out
  have Bv := B6.out
  have Hv := HX6.out
  have Sv : Src g A n c (4 + M * 100 + 4) V := HS6.out.le (by omega)
  clear hV KK6 HX6 B6 C6 Z6 O6 HS6
  all_goals
    obtain ⟨W2, hW_⟩ : ∃ W_, W_ = V.alloc (.cells #[] 2) := ⟨_, rfl⟩
    have b2 : Blk W2 V.heap.size 2 #[] := by rw [hW_]; exact Blk.new V _ _
    have z2 : Below V.heap.size V W2 := by rw [hW_]; exact (Below.refl _ _).alloc (Nat.le_refl _) _
    have HW2 := Lib.hid hW_
    clear hW_
    have o2 : Own W2 V.heap.size 2 1 (some ⟨V.heap.size, 0, none⟩) 0 0 (ints []) := Blk.owns (n := 0) (s := 1) b2 rfl (by simp [maxLen]) (Nat.le_refl _)
    have HCv := Lib.hid Cv
    have HOv := Lib.hid Ov
    have HZv := Lib.hid Zv
    have HKv := Lib.hid KKv
    have HBv := Lib.hid Bv
    have HHv := Lib.hid Hv
    have HSv := Lib.hid (Sv.below z2)
    have HKz := Lib.hid (Kb.of_below (b := g) z2)
    have Hhz := Lib.hid hz
    have HX2 := Lib.hid (Hv.below z2)
    clear Cv Ov Zv KKv Bv Hv Sv hz z2 b2
    go_upto_region 7 with fail
    rw [← HW2.out]
    clear HW2
    go_wp2_with fail
    refine (pick_any g A n c (4 + M * 100 + 4) xs 8 _ HX2.out HAg.out HSv.out (by omega) hn (by omega) (by omega)).mono ?_
    rintro e8 w8 ⟨x8, rfl, hx80, hx81, hs8, hk8⟩
    obtain ⟨q0, rfl⟩ : ∃ q0 : Nat, x8 = (q0 : Int) := ⟨x8.toNat, by omega⟩
    have hq0 : q0 ≤ 7 := by omega
    have HS8 := Lib.hid hs8
    have HK8 := Lib.hid (HKz.out.trans hk8)
    have o8 := Lib.hid (hk8.own' o2 (by have := HKv.out.size; have := HL3.out; omega))
    clear hs8 hk8 hx80 hx81 HKz HX2 HSv o2
    go_wp2_with fail
    go_loopw [7, 8] (fun v k wr => ∃ (q : Nat) (F : Option Addr) (f : Nat) (ys : List Int), q ≤ q0 ∧ k = .int .i64 (q : Int) ∧ v = .slice F ys.length f ∧ Own wr V.heap.size 2 1 F ys.length f (ints ys) ∧ Hid (ys.length + q = q0) ∧ Hid (∀ x ∈ ys, 0 ≤ x ∧ x < (M : Int)) ∧ Hid (Src g A n c (4 + M * 100 + 4 + 2 + 2 * ys.length) wr) ∧ Hid (Kb g V wr)) (fun _ k _ => (intOf k).toNat)
    case atStart => exact ⟨q0, _, 0, [], Nat.le_refl _, rfl, rfl, o8.out, Lib.hid (by simp), Lib.hid (by simp), HS8, HK8⟩
    case round =>
      obtain ⟨q, F, f, ys, hq, rfl, rfl, hF, HQ, HY, HSq, HKq⟩ := hrel
      clear o8 HS8 HK8
      have hVg : Hid (g < V.heap.size) := Lib.hid (by have := HKv.out.size; have := HL3.out; omega)
      by_cases hq1 : 0 < q
      · have hyl : ys.length ≤ 7 := by have := HQ.out; omega
        have HXq := Lib.hid (HHv.out.kb HKq.out HAg.out)
        go_wp2_with fail
        refine (pick_any g A n c (4 + M * 100 + 4 + 2 + 2 * ys.length) xs (M : Int) _ HXq.out HAg.out HSq.out (by omega) hn (by omega) (by omega)).mono ?_
        rintro e1 w1 ⟨y1, rfl, hy0, hy1, hs1, hk1⟩
        have hE1 := hk1.own' hF hVg.out
        have HK4 := Lib.hid (HKq.out.trans hk1)
        have HS4 := Lib.hid hs1
        have HYY : Hid (∀ x ∈ ys ++ [y1], 0 ≤ x ∧ x < (M : Int)) := Lib.hid (by
          intro x hx
          rcases List.mem_append.1 hx with h | h
          · exact HY.out x h
          · rw [List.mem_singleton.1 h]; exact ⟨hy0, by omega⟩)
        clear hs1 hk1 hy1 hy0
        go_wp2_with (at_builtin; refine wpList_append_Own rfl (.tmp 37) (.tmp 41) rfl elI (lo := V.heap.size) rfl (hE1.alloc _) rfl (Rd.new1 _ (.int .i64 y1) _) (by simp [Value.oneCell']) (by omega) (by simp only [maxLen]; omega) (by have := HK4.out.size; simp; omega) ?_; intro A5 c5 W9 o5 hg5 hw5)
        have HK5 : Hid (Kb g V W9) := Lib.hid ((HK4.out.alloc _).grown (hE1.alloc _) (Nat.le_refl _) hg5)
        have HS5 : Hid (Src g A n c (4 + M * 100 + 4 + 2 + 2 * (ys ++ [y1]).length) W9) := Lib.hid (by
          rw [List.length_append]
          exact ((HS4.out.alloc _).grown (hE1.alloc _) hVg.out hg5).le (by simp; omega))
        have o6 : Own W9 V.heap.size 2 1 A5 (ys ++ [y1]).length c5 (ints (ys ++ [y1])) := by
          rw [List.length_append, ← ints_append]; exact o5
        have HLL : Hid (ys.length + 1 = (ys ++ [y1]).length) := Lib.hid (by rw [List.length_append]; rfl)
        have HQ5 : Hid ((ys ++ [y1]).length + (q - 1) = q0) := Lib.hid (by rw [← HLL.out]; have := HQ.out; omega)
        go_wp2_with fail
        go_roundw
        case rel => exact ⟨q - 1, A5, c5, ys ++ [y1], by omega, by go_num, by rw [← HLL.out], o6, HQ5, HYY, HS5, HK5⟩
        case measure => simp [intOf]; omega
      · obtain rfl : q = 0 := by omega
        have hxl : ys.length ≤ 7 := by have := HQ.out; omega
        have Ce := HKq.out.blk_ HCv.out (by have := HT.out; omega)
        have Be := HKq.out.blk_ HBv.out (by have := HG.out; omega)
        have q0 : wr.cell? ⟨(w4.heap.size + 1), 0, none⟩ = some (.int .i64 (E : Int)) := Ce.cell 0
        have q1 : wr.cell? ⟨(w4.heap.size + 1), 1, none⟩ = some (.slice D us.length dc) := Ce.cell 1
        have q2 : wr.cell? ⟨(w4.heap.size + 1), 2, none⟩ = some (.slice H zs.length hc) := Ce.cell 2
        have f0 := Be.frozen 0
        have f1 := Be.frozen 1
        have f2 := Be.frozen 2
        have hgb : w.heap.size < wr.heap.size := Be.lt
        have p0 : wr.cell? ⟨w.heap.size, 0, none⟩ = some (.int .i64 0) := Be.cell 0
        have p1 : wr.cell? ⟨w.heap.size, 1, none⟩ = some (.slice none 0 0) := Be.cell 1
        have p2 : wr.cell? ⟨w.heap.size, 2, none⟩ = some (.slice none 0 0) := Be.cell 2
        have HS : Hid (Small E (nums us) zs ys) := Lib.hid (small_of hE1 hE3 hM1 hM4 HUL.out HOK.out Hhz.out hxl HY.out)
        have HV : Hid (l3 ≤ V.heap.size) := Lib.hid (by have := HKv.out.size; have := HL3.out; omega)
        have HD := Lib.hid (drew_done (d := E) (by have := HL3.out; have := HG.out; omega) HL3.out.2.1 HG.out HU4.out HKv.out HOv.out HZv.out HKq.out hF HV.out HS.out (.int .i64 (E : Int)) (.slice D us.length dc) (.slice H zs.length hc))
        have HB3 := Lib.hid (((Be.set_ 0 (.int .i64 (E : Int))).set_ 1 (.slice D us.length dc)).set_ 2 (.slice H zs.length hc))
        clear Be Ce hF HZv
        go_wp2_with fail
        have d1 := HB3.out
        exact bodyPost_ret (v := .tuple #[.agg #[.int .i64 (E : Int), .slice D us.length dc, .slice H zs.length hc], .slice F ys.length f]) (by simp [results, Try.results9, go_sem, d1.cell 0, d1.cell 1, d1.cell 2]) rfl HD.out
end Go.Proofs.Ytfdbhlhlhjdpbaa

/-
  Contract of the function that TraceTag hands to runSystem.
-/
namespace Go.Proofs.Ytfdbhlhlhjdpbaa
open Go.RowKit

def TrVis (w : World) (lo b9 i : Nat) (A : Option Addr) (us : List Sl) (xs : List Int) (e : Ending) (w' : World) : Prop :=
  ∃ A2 a2 u, e = .returned (.bool true) ∧ Blk w' b9 24 #[.slice A2 (i + 1) a2] ∧ OII w' lo 25 2 A2 (i + 1) a2 (us ++ [u]) ∧ u.xs = xs ∧ Keep (fun b => b = b9 ∨ blk A = some b) w w' ∧ (∀ b, blk A2 = some b → blk A = some b ∨ w.heap.size ≤ b) ∧ (∀ b, blk u.A = some b → w.heap.size ≤ b)

set_option maxRecDepth 100000 in
set_option maxHeartbeats 4000000 in
theorem traceVisit_any (Q : Option Addr) (l r b9 lo i a : Nat) (A : Option Addr) (us : List Sl) (xs : List Int) (w : World) (hb : Blk w b9 24 #[.slice A i a]) (ho : OII w lo 25 2 A i a us) (hx : SI w Q l xs) (hl : l ≤ 1048576) (hi : i ≤ 1000) (hlo : lo ≤ w.heap.size) :
    Calls Try.prog 44 #[.slice Q l r, .pointer (some ⟨b9, 0, none⟩)] w (TrVis w lo b9 i A us xs) := by
  have c9 : w.cell? ⟨b9, 0, none⟩ = some (.slice A i a) := hb.cell 0
  have f9 := hb.frozen 0
  go_enter Try.func44, Try.ntmps44
  go_wp2_with fail
  refine wp_region_any (by kernel_rfl) ?_
  try (change wpAny _ _ _ _ _ _ _ (World.drew _))
  refine wpAny_take (i := 1) (v := ?_) rfl (by kernel_rfl) (by kernel_rfl) (by kernel_rfl) (fun _ _ _ h => h) (Or.inl ⟨by rfl, ?_⟩) ?_
  rotate_left
  · intro w
    go_simp
    try with_reducible rfl
  try simp only [Act.put, List.setIfInBounds_toArray, List.set_cons_zero, List.set_cons_succ]
  refine wpAny_ready (rs := [0, 2]) (by kernel_rfl) (by simp) ?_
  refine AllReady.cons rfl (fun K hK => ?_) ?_
  · go_simp
    refine hK _ _ ?_
    clear hK K
    try simp only [Act.put, List.setIfInBounds_toArray, List.set_cons_zero, List.set_cons_succ]
    refine wpAny_ready (rs := [2]) (by kernel_rfl) (by simp) ?_
    refine AllReady.cons rfl (fun K hK => ?_) ?_
    · go_simp
      refine (cloneI_any _ _ _ xs _ (hx.drewN 1) hl).mono ?_
      rintro e W7 ⟨A7, a7, rfl, o7, z7'⟩
      have z7 : Below w.heap.size w W7 := below_undrew (n := 1) z7'
      have hb7 := hb.below' z7
      have c97 : W7.cell? ⟨b9, 0, none⟩ = some (.slice A i a) := hb7.cell 0
      have l97 : b9 < W7.heap.size := hb7.lt
      have ho7 := ho.below z7
      clear z7'
      refine hK _ _ ?_
      clear hK K
      try simp only [Act.put, List.setIfInBounds_toArray, List.set_cons_zero, List.set_cons_succ]
      refine wpAny_ready (rs := [3]) (by kernel_rfl) (by simp) ?_
      refine AllReady.cons rfl (fun K hK => ?_) ?_
      · go_simp
        refine hK _ _ ?_
        clear hK K
        try simp only [Act.put, List.setIfInBounds_toArray, List.set_cons_zero, List.set_cons_succ]
        refine wpAny_ready (rs := [4]) (by kernel_rfl) (by simp) ?_
        refine AllReady.cons rfl (fun K hK => ?_) ?_
        · rw [if_pos (by rfl)]
          refine wp_append_Own (.tmp 4) (.tmp 7) rfl elII (lo := lo) rfl (ho7.1.alloc _) rfl (Rd.new1 W7 _ _) (by simp [Value.oneCell']) (by omega) (by simp only [maxLen]; omega) (by have := z7.size; simp; omega) ?_
          intro A8 c8 w8 ho8 hg8 hw8
          have b98 := (hb7.alloc _).growt (ho7.1.alloc _) hg8 (by decide)
          have c98 : w8.cell? ⟨b9, 0, none⟩ = some (.slice A i a) := b98.cell 0
          have f98 : w8.frozen? ⟨b9, 0, none⟩ = false := b98.frozen 0
          refine hK _ _ ?_
          clear hK K
          try simp only [Act.put, List.setIfInBounds_toArray, List.set_cons_zero, List.set_cons_succ]
          refine wpAny_ready (rs := [5]) (by kernel_rfl) (by simp) ?_
          refine AllReady.cons rfl (fun K hK => ?_) ?_
          · go_simp
            refine hK _ _ ?_
            clear hK K
            try simp only [Act.put, List.setIfInBounds_toArray]
            refine wpAny_done (by kernel_rfl) ?_ _
            have hs := OII.snoc (u := ⟨A7, a7, xs⟩) ho (ho7.alloc _) ho8 hg8 (o7.alloc _) (Nat.le_refl _) hlo (by decide)
            have hK : Keep (fun b => b = b9 ∨ blk A = some b) w (w8.setCell ⟨b9, 0, none⟩ (.slice A8 (i + 1) c8)) := ((((Keep.refl _ w).below z7).alloc _).grown hg8 (fun b hb => .inr hb)).set (.inl rfl) _
            have hres : TrVis w lo b9 i A us xs (.returned (.bool true)) (w8.setCell ⟨b9, 0, none⟩ (.slice A8 (i + 1) c8)) := ⟨A8, c8, ⟨A7, a7, xs⟩, rfl, b98.set_ 0 _, hs.set_box b98 (by decide) (by decide) _, rfl, hK, fun b hb => by
              have h9 := z7.size
              rcases hw8.1 with h | h
              · exact .inl (h ▸ hb)
              · rw [hb] at h; simp at h; exact .inr (by omega), fun b hb => o7.blk_ge b hb⟩
            generalize w8.setCell ⟨b9, 0, none⟩ (.slice A8 (i + 1) c8) = wf at *
            go_wp2_with fail
            go_ret
            exact hres
          exact AllReady.nil
        exact AllReady.nil
      exact AllReady.nil
    exact AllReady.nil
  refine AllReady.cons rfl (fun K hK => ?_) ?_
  · go_simp
    refine (cloneI_any _ _ _ xs _ (hx.drewN 1) hl).mono ?_
    rintro e W7 ⟨A7, a7, rfl, o7, z7'⟩
    have z7 : Below w.heap.size w W7 := below_undrew (n := 1) z7'
    have hb7 := hb.below' z7
    have c97 : W7.cell? ⟨b9, 0, none⟩ = some (.slice A i a) := hb7.cell 0
    have l97 : b9 < W7.heap.size := hb7.lt
    have ho7 := ho.below z7
    clear z7'
    refine hK _ _ ?_
    clear hK K
    try simp only [Act.put, List.setIfInBounds_toArray, List.set_cons_zero, List.set_cons_succ]
    refine wpAny_ready (rs := [0, 3]) (by kernel_rfl) (by simp) ?_
    refine AllReady.cons rfl (fun K hK => ?_) ?_
    · go_simp
      refine hK _ _ ?_
      clear hK K
      try simp only [Act.put, List.setIfInBounds_toArray, List.set_cons_zero, List.set_cons_succ]
      refine wpAny_ready (rs := [3]) (by kernel_rfl) (by simp) ?_
      refine AllReady.cons rfl (fun K hK => ?_) ?_
      · go_simp
        refine hK _ _ ?_
        clear hK K
        try simp only [Act.put, List.setIfInBounds_toArray, List.set_cons_zero, List.set_cons_succ]
        refine wpAny_ready (rs := [4]) (by kernel_rfl) (by simp) ?_
        refine AllReady.cons rfl (fun K hK => ?_) ?_
        · rw [if_pos (by rfl)]
          refine wp_append_Own (.tmp 4) (.tmp 7) rfl elII (lo := lo) rfl (ho7.1.alloc _) rfl (Rd.new1 W7 _ _) (by simp [Value.oneCell']) (by omega) (by simp only [maxLen]; omega) (by have := z7.size; simp; omega) ?_
          intro A8 c8 w8 ho8 hg8 hw8
          have b98 := (hb7.alloc _).growt (ho7.1.alloc _) hg8 (by decide)
          have c98 : w8.cell? ⟨b9, 0, none⟩ = some (.slice A i a) := b98.cell 0
          have f98 : w8.frozen? ⟨b9, 0, none⟩ = false := b98.frozen 0
          refine hK _ _ ?_
          clear hK K
          try simp only [Act.put, List.setIfInBounds_toArray, List.set_cons_zero, List.set_cons_succ]
          refine wpAny_ready (rs := [5]) (by kernel_rfl) (by simp) ?_
          refine AllReady.cons rfl (fun K hK => ?_) ?_
          · go_simp
            refine hK _ _ ?_
            clear hK K
            try simp only [Act.put, List.setIfInBounds_toArray]
            refine wpAny_done (by kernel_rfl) ?_ _
            have hs := OII.snoc (u := ⟨A7, a7, xs⟩) ho (ho7.alloc _) ho8 hg8 (o7.alloc _) (Nat.le_refl _) hlo (by decide)
            have hK : Keep (fun b => b = b9 ∨ blk A = some b) w (w8.setCell ⟨b9, 0, none⟩ (.slice A8 (i + 1) c8)) := ((((Keep.refl _ w).below z7).alloc _).grown hg8 (fun b hb => .inr hb)).set (.inl rfl) _
            have hres : TrVis w lo b9 i A us xs (.returned (.bool true)) (w8.setCell ⟨b9, 0, none⟩ (.slice A8 (i + 1) c8)) := ⟨A8, c8, ⟨A7, a7, xs⟩, rfl, b98.set_ 0 _, hs.set_box b98 (by decide) (by decide) _, rfl, hK, fun b hb => by
              have h9 := z7.size
              rcases hw8.1 with h | h
              · exact .inl (h ▸ hb)
              · rw [hb] at h; simp at h; exact .inr (by omega), fun b hb => o7.blk_ge b hb⟩
            generalize w8.setCell ⟨b9, 0, none⟩ (.slice A8 (i + 1) c8) = wf at *
            go_wp2_with fail
            go_ret
            exact hres
          exact AllReady.nil
        exact AllReady.nil
      exact AllReady.nil
    refine AllReady.cons rfl (fun K hK => ?_) ?_
    · go_simp
      refine hK _ _ ?_
      clear hK K
      try simp only [Act.put, List.setIfInBounds_toArray, List.set_cons_zero, List.set_cons_succ]
      refine wpAny_ready (rs := [0]) (by kernel_rfl) (by simp) ?_
      refine AllReady.cons rfl (fun K hK => ?_) ?_
      · go_simp
        refine hK _ _ ?_
        clear hK K
        try simp only [Act.put, List.setIfInBounds_toArray, List.set_cons_zero, List.set_cons_succ]
        refine wpAny_ready (rs := [4]) (by kernel_rfl) (by simp) ?_
        refine AllReady.cons rfl (fun K hK => ?_) ?_
        · rw [if_pos (by rfl)]
          refine wp_append_Own (.tmp 4) (.tmp 7) rfl elII (lo := lo) rfl (ho7.1.alloc _) rfl (Rd.new1 W7 _ _) (by simp [Value.oneCell']) (by omega) (by simp only [maxLen]; omega) (by have := z7.size; simp; omega) ?_
          intro A8 c8 w8 ho8 hg8 hw8
          have b98 := (hb7.alloc _).growt (ho7.1.alloc _) hg8 (by decide)
          have c98 : w8.cell? ⟨b9, 0, none⟩ = some (.slice A i a) := b98.cell 0
          have f98 : w8.frozen? ⟨b9, 0, none⟩ = false := b98.frozen 0
          refine hK _ _ ?_
          clear hK K
          try simp only [Act.put, List.setIfInBounds_toArray, List.set_cons_zero, List.set_cons_succ]
          refine wpAny_ready (rs := [5]) (by kernel_rfl) (by simp) ?_
          refine AllReady.cons rfl (fun K hK => ?_) ?_
          · go_simp
            refine hK _ _ ?_
            clear hK K
            try simp only [Act.put, List.setIfInBounds_toArray]
            refine wpAny_done (by kernel_rfl) ?_ _
            have hs := OII.snoc (u := ⟨A7, a7, xs⟩) ho (ho7.alloc _) ho8 hg8 (o7.alloc _) (Nat.le_refl _) hlo (by decide)
            have hK : Keep (fun b => b = b9 ∨ blk A = some b) w (w8.setCell ⟨b9, 0, none⟩ (.slice A8 (i + 1) c8)) := ((((Keep.refl _ w).below z7).alloc _).grown hg8 (fun b hb => .inr hb)).set (.inl rfl) _
            have hres : TrVis w lo b9 i A us xs (.returned (.bool true)) (w8.setCell ⟨b9, 0, none⟩ (.slice A8 (i + 1) c8)) := ⟨A8, c8, ⟨A7, a7, xs⟩, rfl, b98.set_ 0 _, hs.set_box b98 (by decide) (by decide) _, rfl, hK, fun b hb => by
              have h9 := z7.size
              rcases hw8.1 with h | h
              · exact .inl (h ▸ hb)
              · rw [hb] at h; simp at h; exact .inr (by omega), fun b hb => o7.blk_ge b hb⟩
            generalize w8.setCell ⟨b9, 0, none⟩ (.slice A8 (i + 1) c8) = wf at *
            go_wp2_with fail
            go_ret
            exact hres
          exact AllReady.nil
        exact AllReady.nil
      exact AllReady.nil
    exact AllReady.nil
  exact AllReady.nil
end Go.Proofs.Ytfdbhlhlhjdpbaa
