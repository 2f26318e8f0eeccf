/-
  A cyclic tag system that runs: ValidTurn, its state in memory, cyclicRunOf, halts, word, turn.
-/
import Derived.Test.YthipbeggaeogcaaCyclI
import Derived.Test.YthipbeggaeogcaaTraceTagP
import Derived.Lib.QuietBelow
namespace Go.Proofs.Ythipbeggaeogcaa
open Go.RowKit Go.Sort

set_option maxRecDepth 100000 in
set_option maxHeartbeats 2000000 in
theorem validTurn_any (A : Option Addr) (n c : Nat) (ts : List Sl) (a : Int) (C : Option Addr) (l r : Nat) (xs : List Int) (w : World) (hx : SII w A n ts) (hz : SI w C l xs) (hn : n ≤ 1048576) (hl : l ≤ 1048576) (hns : ∀ t ∈ ts, t.xs.length ≤ 1048576) :
    Calls Try.prog 76 #[.agg #[.slice A n c], .agg #[.int .i64 a, .slice C l r]] w fun e w' => e = .returned (.bool (validTurnB (nums ts) ⟨a, xs⟩)) ∧ Below w.heap.size w w' := by
  obtain ⟨W, hW_⟩ : ∃ W, W = (w.alloc (.cells #[.slice A n c] 33)).alloc (.cells #[.int .i64 a, .slice C l r] 30) := ⟨_, rfl⟩
  have s_1 : (w.alloc (.cells #[.slice A n c] 33)).heap.size = w.heap.size + 1 := by simp
  have b0 : Blk W w.heap.size 33 #[.slice A n c] := by rw [hW_]; exact (Blk.new w _ _).alloc _
  have b1 : Blk W (w.heap.size + 1) 30 #[.int .i64 a, .slice C l r] := by rw [hW_, ← s_1]; exact Blk.new _ _ _
  have y0 : Below w.heap.size w W := by rw [hW_]; exact ((Below.refl _ _).alloc (Nat.le_refl _) _).alloc (by simp) _
  have HW := Lib.hid hW_
  clear hW_ s_1
  have u0 : W.cell? ⟨w.heap.size, 0, none⟩ = some (.slice A n c) := b0.cell 0
  have v0 : W.cell? ⟨(w.heap.size + 1), 0, none⟩ = some (.int .i64 a) := b1.cell 0
  have v1 : W.cell? ⟨(w.heap.size + 1), 1, none⟩ = some (.slice C l r) := b1.cell 1
  have HNS := Lib.hid hns
  clear hns
  have HF : Hid (validTurnB (nums ts) ⟨a, xs⟩ = (validCyclB (nums ts) && inB a 0 ((n : Int) - 1) && tagWordB xs 2)) := Lib.hid (by
    have hln : ((nums ts).length : Int) = n := by have := hx.len; simp [nums]; omega
    unfold validTurnB; rw [hln])
  have HC : Hid (∀ d' os, Calls Try.prog 146 #[.agg #[.slice A n c]] (grow (redrawn W d') os) fun e w' => e = .returned (.bool (validCyclB (nums ts))) ∧ ∃ p : Regrown, w' = grow (redrawn W p.d) p.os) :=
    fun d' os => Calls.regrown_of (validCyclic_any _ _ _ ts _ ((hx.below y0).below (below_regrown W d' os)) hn HNS.out)
  have HZ : Hid (∀ d' os, SI (grow (redrawn W d') os) C l xs) := fun d' os => (hz.below y0).below (below_regrown W d' os)
  obtain ⟨v1, e1⟩ : ∃ v, v = validCyclB (nums ts) := ⟨_, rfl⟩
  obtain ⟨v2, e2⟩ : ∃ v, v = inB a 0 ((n : Int) - 1) := ⟨_, rfl⟩
  have E1 := Lib.hid e1.symm
  have E2 := Lib.hid e2.symm
  rw [← e1] at HC
  clear e1 e2
  cases v1 <;> cases v2
  all_goals
    go_enter Try.func76, Try.ntmps76
    go_wp2_with fail
    rw [← HW.out]
    have k0 := cell_regrown u0
    have m0 := cell_regrown v0
    have m1 := cell_regrown v1
    refine wp_region_quiet_below (by kernel_rfl) (by kernel_rfl) ?_
    repeat (go_big_quiet_step ((first
      | (go_at_call 146; exact HC.out _ _)
      | (go_at_call 96; exact Calls.regrown_of ((sizeII_any _ _ _ _ (by omega)).mono fun _ _ ⟨he, hw⟩ => ⟨he, hw ▸ Below.refl _ _⟩))
      | (go_at_call 85; exact Calls.regrown_of ((within_is E2.out _).mono fun _ _ ⟨he, hw⟩ => ⟨he, hw ▸ Below.refl _ _⟩))
      | (go_at_call 147; exact Calls.regrown_of ((isTagWord_any _ _ _ xs _ _ (HZ.out _ _) (by omega) (by omega) (by omega)).mono fun _ _ ⟨he, hw⟩ => ⟨he, hw ▸ Below.refl _ _⟩)))))
    refine wpQuiet_nil ?_
    intro _ hw'
    obtain ⟨⟨dq, osq⟩, hw''⟩ := hw'
    subst hw''
    have z1 := below_regrown W dq osq
    clear k0 m0 m1
    generalize grow (redrawn W dq) osq = W1 at *
    go_wp2_with fail
    go_ret
    exact ⟨ret_bool (by rw [HF.out, E1.out, E2.out]; simp), y0.trans (z1.mono y0.size)⟩

/-- A run of a cyclic tag system in memory. -/
def CRun (w : World) (g : Nat) (A : Option Addr) (n c : Nat) (a : Int) (Q : Option Addr) (l r : Nat) : Prop := Blk w g 199 #[.slice A n c, .int .i64 a, .slice Q l r]
def NewCRun (w : World) (A : Option Addr) (n c : Nat) (x : Tu) (e : Ending) (w' : World) : Prop :=
  ∃ g Q r, e = .returned (.pointer (some ⟨g, 0, none⟩)) ∧ w.heap.size ≤ g ∧ CRun w' g A n c x.at_ Q x.word.length r ∧ Own w' w.heap.size 2 1 Q x.word.length r (ints x.word) ∧ Below w.heap.size w w'

set_option maxHeartbeats 1000000 in
theorem cyclicRunOf_any (A : Option Addr) (n c : Nat) (a : Int) (C : Option Addr) (l r : Nat) (xs : List Int) (w : World) (hz : SI w C l xs) (hl : l ≤ 1048576) :
    Calls Try.prog 78 #[.agg #[.slice A n c], .agg #[.int .i64 a, .slice C l r]] w (NewCRun w A n c ⟨a, xs⟩) := by
  obtain ⟨W, hW_⟩ : ∃ W, W = (w.alloc (.cells #[.slice A n c] 33)).alloc (.cells #[.int .i64 a, .slice C l r] 30) := ⟨_, rfl⟩
  have s_1 : (w.alloc (.cells #[.slice A n c] 33)).heap.size = w.heap.size + 1 := by simp
  have b0 : Blk W w.heap.size 33 #[.slice A n c] := by rw [hW_]; exact (Blk.new w _ _).alloc _
  have b1 : Blk W (w.heap.size + 1) 30 #[.int .i64 a, .slice C l r] := by rw [hW_, ← s_1]; exact Blk.new _ _ _
  have y0 : Below w.heap.size w W := by rw [hW_]; exact ((Below.refl _ _).alloc (Nat.le_refl _) _).alloc (by simp) _
  have HW := Lib.hid hW_
  clear hW_ s_1
  have u0 : W.cell? ⟨w.heap.size, 0, none⟩ = some (.slice A n c) := b0.cell 0
  have v0 : W.cell? ⟨(w.heap.size + 1), 0, none⟩ = some (.int .i64 a) := b1.cell 0
  have v1 : W.cell? ⟨(w.heap.size + 1), 1, none⟩ = some (.slice C l r) := b1.cell 1
  have hz1 := hz.below y0
  have g0 := b0.lt
  have g1 := b1.lt
  go_enter Try.func78, Try.ntmps78
  go_wp2_with fail
  rw [← HW.out]
  go_region_held3 (fun w' => w'.cell? ⟨w.heap.size, 0, none⟩ = some (.slice A n c) ∧ w'.cell? ⟨w.heap.size + 1, 0, none⟩ = some (.int .i64 a) ∧ w'.cell? ⟨w.heap.size + 1, 1, none⟩ = some (.slice C l r))
    (first
      | (go_keep; done)
      | (exact ⟨(hb.cell (p := ⟨w.heap.size, 0, none⟩) g0).trans u0, (hb.cell (p := ⟨w.heap.size + 1, 0, none⟩) g1).trans v0, (hb.cell (p := ⟨w.heap.size + 1, 1, none⟩) g1).trans v1⟩))
    (first
      | (go_at_call 112; refine (cloneI_any _ _ _ xs _ (Rd.drewN hz1 1) hl).mono ?_; rintro e w' ⟨A2, c2, rfl, ho, hb⟩))
  go_wp2
  go_ret
  have hwz : W.heap.size ≤ w'.heap.size := hb.size
  have hbl : Below W.heap.size W w' := below_undrew hb
  exact ⟨w'.heap.size, A2, c2, rfl, by omega, heap_alloc_new w' _, ((ho.mono (show w.heap.size ≤ W.heap.size by omega)).alloc _), (y0.trans (hbl.mono (by omega))).alloc (by omega) _⟩

theorem cyclicHalts_any {w : World} {g : Nat} {A : Option Addr} {n c : Nat} {a : Int} {Q : Option Addr} {l r : Nat} (h : CRun w g A n c a Q l r) :
    Calls Try.prog 97 #[.pointer (some ⟨g, 0, none⟩)] w fun e w' => e = .returned (.bool (decide (l = 0))) ∧ w = w' := by
  have k2 : w.cell? ⟨g, 2, none⟩ = some (.slice Q l r) := h.cell 2
  go_enter Try.func97, Try.ntmps97
  go_wp2
  go_ret
  exact ⟨ret_bool (by rw [Bool.eq_iff_iff]; simp), rfl⟩
theorem cyclicWord_any {w : World} {g : Nat} {A : Option Addr} {n c : Nat} {a : Int} {Q : Option Addr} {l r : Nat} (h : CRun w g A n c a Q l r) :
    Calls Try.prog 245 #[.pointer (some ⟨g, 0, none⟩)] w fun e w' => e = .returned (.slice Q l r) ∧ w = w' := by
  have k2 : w.cell? ⟨g, 2, none⟩ = some (.slice Q l r) := h.cell 2
  go_enter Try.func245, Try.ntmps245
  go_wp2
  go_ret
  exact ⟨rfl, rfl⟩

/-- A new turn. -/
def NewTu (w : World) (x : Tu) (e : Ending) (w' : World) : Prop :=
  ∃ Q r, e = .returned (.agg #[.int .i64 x.at_, .slice Q x.word.length r]) ∧ Own w' w.heap.size 2 1 Q x.word.length r (ints x.word) ∧ Below w.heap.size w w'
set_option maxHeartbeats 1000000 in
theorem cyclicTurn_any {w : World} {g : Nat} {A : Option Addr} {n c : Nat} {a : Int} {Q : Option Addr} {l r : Nat} {xs : List Int} (h : CRun w g A n c a Q l r) (hz : SI w Q l xs) (hl : l ≤ 1048576) :
    Calls Try.prog 81 #[.pointer (some ⟨g, 0, none⟩)] w (NewTu w ⟨a, xs⟩) := by
  obtain ⟨W, hW_⟩ : ∃ W, W = w.alloc (.cells #[.int .i64 0, .slice none 0 0] 30) := ⟨_, rfl⟩
  have b1 : Blk W w.heap.size 30 #[.int .i64 0, .slice none 0 0] := by rw [hW_]; exact Blk.new w _ _
  have y0 : Below w.heap.size w W := by rw [hW_]; exact (Below.refl _ _).alloc (Nat.le_refl _) _
  have HW := Lib.hid hW_
  clear hW_
  have h1 := h.below' y0
  have k1 : W.cell? ⟨g, 1, none⟩ = some (.int .i64 a) := h1.cell 1
  have k2 : W.cell? ⟨g, 2, none⟩ = some (.slice Q l r) := h1.cell 2
  have t0 : W.cell? ⟨w.heap.size, 0, none⟩ = some (.int .i64 0) := b1.cell 0
  have t1 : W.cell? ⟨w.heap.size, 1, none⟩ = some (.slice none 0 0) := b1.cell 1
  have f0 := b1.frozen 0
  have f1 := b1.frozen 1
  have hz1 := hz.below y0
  have hg1 := h1.lt
  have g1 := b1.lt
  have HL := Lib.hid hz.len
  have gne : g ≠ w.heap.size := by have := h.lt; omega
  go_enter Try.func81, Try.ntmps81
  go_wp2_with fail
  rw [← HW.out]
  go_region_held3 (fun w' => w'.cell? ⟨g, 1, none⟩ = some (.int .i64 a) ∧ w'.cell? ⟨g, 2, none⟩ = some (.slice Q l r))
    (first
      | (go_keep; done)
      | (exact ⟨h3.cell 1, h3.cell 2⟩)
      | (exact ⟨((h3.far (p := ⟨w.heap.size, 0, none⟩) gne _).far (p := ⟨w.heap.size, 1, none⟩) gne _).cell 1, ((h3.far (p := ⟨w.heap.size, 0, none⟩) gne _).far (p := ⟨w.heap.size, 1, none⟩) gne _).cell 2⟩))
    (first
      | (go_at_call 112; refine (cloneI_any _ _ _ xs _ (Rd.drewN hz1 1) hl).mono ?_; rintro e w' ⟨A2, c2, rfl, ho, hb⟩
         have h3 := (h1.drewN 1).below' hb
         have bt := (b1.drewN 1).below' hb
         have p0 : w'.cell? ⟨w.heap.size, 0, none⟩ = some (.int .i64 0) := bt.cell 0
         have p1 : w'.cell? ⟨w.heap.size, 1, none⟩ = some (.slice none 0 0) := bt.cell 1
         have q0 := bt.frozen 0
         have q1 := bt.frozen 1))
  go_wp2_with fail
  have hwz : W.heap.size ≤ w'.heap.size := hb.size
  have hbl : Below W.heap.size W w' := below_undrew hb
  have dB := (bt.set_ 0 (.int .i64 a)).set_ 1 (.slice A2 xs.length c2)
  have d0 : ((w'.setCell ⟨w.heap.size, 0, none⟩ (.int .i64 a)).setCell ⟨w.heap.size, 1, none⟩ (.slice A2 xs.length c2)).cell? ⟨w.heap.size, 0, none⟩ = some (.int .i64 a) := dB.cell 0
  have d1 : ((w'.setCell ⟨w.heap.size, 0, none⟩ (.int .i64 a)).setCell ⟨w.heap.size, 1, none⟩ (.slice A2 xs.length c2)).cell? ⟨w.heap.size, 1, none⟩ = some (.slice A2 xs.length c2) := dB.cell 1
  have yb : Below w.heap.size w ((w'.setCell ⟨w.heap.size, 0, none⟩ (.int .i64 a)).setCell ⟨w.heap.size, 1, none⟩ (.slice A2 xs.length c2)) := ((y0.trans (hbl.mono y0.size)).setCell (by simp) _).setCell (by simp) _
  have hbq : blk A2 ≠ some w.heap.size := fun e => by have := ho.blk_ge _ e; simp at this; omega
  have yo : Own ((w'.setCell ⟨w.heap.size, 0, none⟩ (.int .i64 a)).setCell ⟨w.heap.size, 1, none⟩ (.slice A2 xs.length c2)) w.heap.size 2 1 A2 xs.length c2 (ints xs) := ((ho.mono (by simpa using y0.size)).far (p := ⟨w.heap.size, 0, none⟩) hbq _).far (p := ⟨w.heap.size, 1, none⟩) hbq _
  generalize (w'.setCell ⟨w.heap.size, 0, none⟩ (.int .i64 a)).setCell ⟨w.heap.size, 1, none⟩ (.slice A2 xs.length c2) = wf at *
  have hres : NewTu w ⟨a, xs⟩ (.returned (.agg #[.int .i64 a, .slice A2 xs.length c2])) wf := ⟨A2, c2, rfl, yo, yb⟩
  exact bodyPost_ret (v := .agg #[.int .i64 a, .slice A2 xs.length c2]) (by simp [results, Try.results81, go_sem, d0, d1]) rfl hres
end Go.Proofs.Ythipbeggaeogcaa
