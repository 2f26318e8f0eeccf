/-
  The program's whileMachine: what lies in memory; contract of ended.
-/
import Derived.Test.YtfheepjfpgiaoaaVcI
import Derived.Test.YtfheepjfpgiaoaaEvI
namespace Go.Proofs.Ytfheepjfpgiaoaa
open Go.RowKit

/-- Blocks of other types than those that a step may write are as they were. -/
def KX (w w' : World) : Prop := ∀ b t cs, Blk w b t cs → t ≠ 3 → t ≠ 124 → t ≠ 199 → Blk w' b t cs
theorem KX.refl (w : World) : KX w w := fun _ _ _ h _ _ _ => h
theorem KX.trans {a b c : World} (h : KX a b) (k : KX b c) : KX a c := fun x t cs hb h1 h2 h3 => k x t cs (h x t cs hb h1 h2 h3) h1 h2 h3
theorem KX.below {w w' : World} (z : Below w.heap.size w w') : KX w w' := fun _ _ _ h _ _ _ => h.below' z
theorem KX.drewN (w : World) (n : Nat) : KX w (w.drewN n) := fun _ _ _ h _ _ _ => h.drewN n
theorem KX.setCell {w : World} {g i : Nat} {t : TypeId} {cur : Array Value} (h : Blk w g t cur) (ht : t = 3 ∨ t = 124 ∨ t = 199) (u : Value) : KX w (w.setCell ⟨g, i, none⟩ u) := fun g2 t2 cs x h1 h2 h3 => x.far (p := ⟨g, i, none⟩) (fun e => by
  have e : g2 = g := e
  subst e
  have h4 := Eq.trans (Eq.symm h) x
  simp at h4
  rcases ht with e | e | e
  · exact h1 (h4.2 ▸ e)
  · exact h2 (h4.2 ▸ e)
  · exact h3 (h4.2 ▸ e)) u
theorem KX.kt {w w' : World} (h : KX w w') : KT w w' := fun g cs x => h g _ cs x (by decide) (by decide) (by decide)
theorem KX.own {w : World} {lo n c s b off k : Nat} {e : TypeId} {cs : List Value} (h : Own w lo e s (some ⟨b, off, none⟩) n c cs) (he : e = 3 ∨ e = 124) (u : Value) : KX w (w.setCell ⟨b, off + k, none⟩ u) := fun g t cs' x h1 h2 h3 => x.far (p := ⟨b, off + k, none⟩) (fun e2 => by
  have e2 : g = b := e2
  subst e2
  have hne : t ≠ e := by
    rcases he with e1 | e1
    · rw [e1]; exact h1
    · rw [e1]; exact h2
  exact x.apt h hne rfl) u
theorem KX.grown {w w2 : World} {lo n c s : Nat} {e : TypeId} {A : Option Addr} {cs : List Value} (h : Own w lo e s A n c cs) (hg : w.grownBy w2 (blk A)) (he : e = 3) : KX w w2 := fun _ t _ x h1 _ _ => x.grown h hg (by rw [he]; exact h1)
theorem elIn : Elem Try.prog 193 3 1 8 (.int .i64 0) := ⟨Try.underlying193, by kernel_rfl, rfl, by decide⟩
theorem elTp : Elem Try.prog 102 124 1 8 (.pointer none) := ⟨Try.underlying102, by kernel_rfl, rfl, by decide⟩
/-- A machine in memory: the program behind PA, the store, the index, the open loops (the innermost first). -/
structure WmI (w0 w : World) (g : Nat) (PA : Option Addr) (n pc : Nat) (ts : List Ce) (SA : Option Addr) (sc : Nat) (s : List Tr) (i : Nat) (LA : Option Addr) (lc : Nat) (L : List Nat) : Prop where
  base : Below w0.heap.size w0 w
  prog : SC w0 PA n ts
  glo : w0.heap.size ≤ g
  box : Blk w g 199 #[.slice PA n pc, .slice SA 6 sc, .int .i64 (i : Int), .slice LA L.length lc]
  store : ∃ ps : List (Option Addr), ps.length = 6 ∧ s.length = 6 ∧ Own w w0.heap.size 124 1 SA 6 sc (ps.map Value.pointer) ∧ ∀ (k : Nat) (t : Tr), s[k]? = some t → ∃ p, ps[k]? = some p ∧ TrAt w t p
  loops : Own w w0.heap.size 3 1 LA L.length lc (ints (L.reverse.map fun j : Nat => (j : Int)))
section
variable {w0 w w' : World} {g : Nat} {PA : Option Addr} {n pc : Nat} {ts : List Ce} {SA : Option Addr} {sc : Nat} {s : List Tr} {i : Nat} {LA : Option Addr} {lc : Nat} {L : List Nat}
theorem WmI.low (h : WmI w0 w g PA n pc ts SA sc s i LA lc L) : w0.heap.size ≤ w.heap.size := h.base.size
theorem WmI.st (h : WmI w0 w g PA n pc ts SA sc s i LA lc L) : StAt w SA s := by
  obtain ⟨ps, h1, h2, h3, h4⟩ := h.store
  exact ⟨ps, h1, h2, h3.rd, h4⟩
theorem WmI.prg (h : WmI w0 w g PA n pc ts SA sc s i LA lc L) : SC w PA n ts := h.prog.below h.base
theorem WmI.below (h : WmI w0 w g PA n pc ts SA sc s i LA lc L) (z : Below w.heap.size w w') : WmI w0 w' g PA n pc ts SA sc s i LA lc L := by
  obtain ⟨ps, h1, h2, h3, h4⟩ := h.store
  exact ⟨h.base.trans (z.mono h.low), h.prog, h.glo, h.box.below' z, ⟨ps, h1, h2, h3.below z, fun k t hk => by obtain ⟨p, e, ht⟩ := h4 k t hk; exact ⟨p, e, ht.below z⟩⟩, h.loops.below z⟩
theorem WmI.drewN (h : WmI w0 w g PA n pc ts SA sc s i LA lc L) (k : Nat) : WmI w0 (w.drewN k) g PA n pc ts SA sc s i LA lc L := h.below (below_drewN (Below.refl _ _) k)
/-- The index is written. -/
theorem WmI.setAt (h : WmI w0 w g PA n pc ts SA sc s i LA lc L) (j : Nat) : WmI w0 (w.setCell ⟨g, 2, none⟩ (.int .i64 (j : Int))) g PA n pc ts SA sc s j LA lc L ∧ KX w (w.setCell ⟨g, 2, none⟩ (.int .i64 (j : Int))) := by
  obtain ⟨ps, h1, h2, h3, h4⟩ := h.store
  have k := KX.setCell (i := 2) h.box (.inr (.inr rfl)) (.int .i64 (j : Int))
  exact ⟨⟨h.base.setCell (p := ⟨g, 2, none⟩) h.glo _, h.prog, h.glo, h.box.set_ 2 _, ⟨ps, h1, h2, h3.far (p := ⟨g, 2, none⟩) (h.box.apt h3 (by decide)) _, fun k' t hk => by obtain ⟨p, e, ht⟩ := h4 k' t hk; exact ⟨p, e, ht.kt k.kt⟩⟩, h.loops.far (p := ⟨g, 2, none⟩) (h.box.apt h.loops (by decide)) _⟩, k⟩
/-- The open loops' slice is written. -/
theorem WmI.setLoops (h : WmI w0 w g PA n pc ts SA sc s i LA lc L) {LA' : Option Addr} {lc' : Nat} {L' : List Nat} (ho : Own w w0.heap.size 3 1 LA' L'.length lc' (ints (L'.reverse.map fun j : Nat => (j : Int)))) :
    WmI w0 (w.setCell ⟨g, 3, none⟩ (.slice LA' L'.length lc')) g PA n pc ts SA sc s i LA' lc' L' ∧ KX w (w.setCell ⟨g, 3, none⟩ (.slice LA' L'.length lc')) := by
  obtain ⟨ps, h1, h2, h3, h4⟩ := h.store
  have k := KX.setCell (i := 3) h.box (.inr (.inr rfl)) (.slice LA' L'.length lc')
  exact ⟨⟨h.base.setCell (p := ⟨g, 3, none⟩) h.glo _, h.prog, h.glo, h.box.set_ 3 _, ⟨ps, h1, h2, h3.far (p := ⟨g, 3, none⟩) (h.box.apt h3 (by decide)) _, fun k' t hk => by obtain ⟨p, e, ht⟩ := h4 k' t hk; exact ⟨p, e, ht.kt k.kt⟩⟩, ho.far (p := ⟨g, 3, none⟩) (h.box.apt ho (by decide)) _⟩, k⟩
/-- A variable is written. -/
theorem WmI.setVar {b off v : Nat} (h : WmI w0 w g PA n pc ts (some ⟨b, off, none⟩) sc s i LA lc L) (hv : v < 6) {x : Tr} {p : Option Addr} (hp : TrAt w x p) :
    WmI w0 (w.setCell ⟨b, off + v, none⟩ (.pointer p)) g PA n pc ts (some ⟨b, off, none⟩) sc (s.set v x) i LA lc L ∧ KX w (w.setCell ⟨b, off + v, none⟩ (.pointer p)) := by
  obtain ⟨ps, h1, h2, h3, h4⟩ := h.store
  have k := KX.own (k := v) h3 (.inr rfl) (.pointer p)
  have hb := h3.blk_ge b rfl
  have hgb : g ≠ b := fun e => h.box.apt h3 (by decide) (by rw [e]; rfl)
  have hlb : blk LA ≠ some b := fun e => Own.blk_ne h.loops h3 (by decide) b e rfl
  have o3 := h3.set_ (k := v) (by rw [List.length_map]; omega) (.pointer p)
  rw [← List.map_set] at o3
  refine ⟨⟨h.base.setCell (p := ⟨b, off + v, none⟩) hb _, h.prog, h.glo, h.box.far (p := ⟨b, off + v, none⟩) hgb _, ⟨ps.set v p, by rw [List.length_set]; exact h1, by rw [List.length_set]; exact h2, o3, fun k' t hk => ?_⟩, h.loops.far (p := ⟨b, off + v, none⟩) hlb _⟩, k⟩
  by_cases e : k' = v
  · subst e
    rw [List.getElem?_set_self (by omega)] at hk
    cases hk
    exact ⟨p, List.getElem?_set_self (by omega), hp.kt k.kt⟩
  · rw [List.getElem?_set_ne (by omega)] at hk
    obtain ⟨q, e2, ht⟩ := h4 k' t hk
    exact ⟨q, by rw [List.getElem?_set_ne (by omega)]; exact e2, ht.kt k.kt⟩
end
/-- What stands in memory behind ended or a step. -/
def WmQ (w0 w : World) (g : Nat) (PA : Option Addr) (n pc : Nat) (ts : List Ce) (SA : Option Addr) (sc : Nat) (s : List Tr) (p : Pg) (S : List Pg) (w' : World) : Prop :=
  ∃ i LA lc L, WmI w0 w' g PA n pc ts SA sc s i LA lc L ∧ Rel (cmds ts) L S i p ∧ KX w w'
theorem Rel.stk {l : List Cmd} {L : List Nat} {S : List Pg} {i : Nat} {p : Pg} (h : Rel l L S i p) : L.length = S.length := by
  induction h with
  | base => rfl
  | loop _ _ _ _ _ ih => simp [ih]
set_option maxRecDepth 100000 in
set_option maxHeartbeats 4000000 in
theorem ended_any (w0 : World) (g : Nat) (PA : Option Addr) (n pc : Nat) (ts : List Ce) (SA : Option Addr) (sc : Nat) (s : List Tr) (i : Nat) (LA : Option Addr) (lc : Nat) (L : List Nat) (p : Pg) (S : List Pg) (w : World) (h : WmI w0 w g PA n pc ts SA sc s i LA lc L) (hr : Rel (cmds ts) L S i p) (hn : n ≤ 1000) :
    Calls Try.prog 154 #[.pointer (some ⟨g, 0, none⟩)] w fun e w' => e = .returned (.bool (doneW p S)) ∧ WmQ w0 w g PA n pc ts SA sc s (normW p S).1 (normW p S).2 w' := by
  have hl : (cmds ts).length = n := by rw [cmds_len]; exact h.prog.len
  have hin : i ≤ n := by rw [← hl]; exact hr.le
  have g0 : w.cell? ⟨g, 0, none⟩ = some (.slice PA n pc) := h.box.cell 0
  have g2 : w.cell? ⟨g, 2, none⟩ = some (.int .i64 (i : Int)) := h.box.cell 2
  have g3 : w.cell? ⟨g, 3, none⟩ = some (.slice LA L.length lc) := h.box.cell 3
  cases hr with
  | base hd hi hk =>
    have HH := Lib.hid h
    have HR : Hid (Rel (cmds ts) [] [] i p) := Lib.hid (.base hd hi hk)
    have hD : ((i : Int) == (n : Int)) = doneW p [] := by
      cases p with
      | done =>
        have h1 := congrArg List.length hd
        rw [List.length_drop] at h1
        simp [Pg.enc] at h1
        show ((i : Int) == (n : Int)) = true
        simp; omega
      | set v e r =>
        have h1 := congrArg List.length hd
        rw [List.length_drop] at h1
        simp [Pg.enc] at h1
        show ((i : Int) == (n : Int)) = false
        simp; omega
      | wh e b r =>
        have h1 := congrArg List.length hd
        rw [List.length_drop] at h1
        simp [Pg.enc] at h1
        show ((i : Int) == (n : Int)) = false
        simp; omega
    have hN : normW p [] = (p, []) := by cases p <;> rfl
    have HN := Lib.hid hN
    obtain ⟨d, hdd⟩ : ∃ d, doneW p [] = d := ⟨_, rfl⟩
    rw [hdd] at hD
    have HDD := Lib.hid hdd
    have w1 : IntKind.i64.wrap (((0 : Nat) : Int) - 1) = -1 := IntWalk.i64_in _ (by omega)
    have w2 : IntKind.i64.wrap (0 - 1) = -1 := IntWalk.i64_in _ (by omega)
    clear h hd hi hk hN hdd hl
    dsimp only [List.length_nil] at g3
    go_enter Try.func154, Try.ntmps154
    go_wp2_with fail
    go_quiet (fail)
    go_wp2_with fail
    go_ret
    rw [HDD.out, HN.out]
    exact ⟨rfl, i, LA, lc, [], HH.out.drewN _, HR.out, KX.drewN _ _⟩
  | loop h1 hd hi hk hti =>
    rename_i L S t e b r rest
    have HH := Lib.hid h
    have HR : Hid (Rel (cmds ts) (t :: L) (.wh e b r :: S) i p) := Lib.hid (.loop h1 hd hi hk hti)
    have HR1 := Lib.hid h1
    obtain ⟨hwt, _, _, _⟩ := h1.wh
    have htn : t < n := by have := (List.getElem?_eq_some_iff.1 hwt).1; omega
    obtain ⟨ce, pb, po, HT, _, hPA, hpb, _, _, c2, _, _⟩ := h.prg.pick htn
    have hce : ce.l = (b.enc.length : Int) := by
      have h2 : (cmds ts)[t]? = some ce.cmd := by unfold cmds; rw [List.getElem?_map, HT.out]; rfl
      rw [hwt] at h2
      have h3 := Option.some.inj h2
      exact (congrArg Cmd.l h3).symm
    rw [hce] at c2
    have hbn : t + 1 + b.enc.length ≤ n := by
      obtain ⟨_, _, h2, _⟩ := h1.wh
      have h3 := h2.le; omega
    obtain ⟨lb, lo, hLA, _, hlb, lc0, _⟩ := h.loops.at_ (k := L.length) (by rw [length_ints]; simp)
    have hLc : w.cell? ⟨lb, lo + L.length, none⟩ = some (.int .i64 (t : Int)) := by
      rw [lc0, ints_get]
      simp
    obtain ⟨m, hm⟩ : ∃ m, L.length = m := ⟨_, rfl⟩
    obtain ⟨M, hM⟩ : ∃ M, (t :: L).length = M := ⟨_, rfl⟩
    obtain ⟨B, hB⟩ : ∃ B, b.enc.length = B := ⟨_, rfl⟩
    have hmM : m + 1 = M := by rw [← hm, ← hM]; rfl
    have hmL : m ≤ 1000 := by have h2 := h1.len_le; omega
    rw [hM] at g3
    rw [hB] at c2 hi hbn
    rw [hm] at hLc
    have HM := Lib.hid hM
    have Hm := Lib.hid hm
    have HmM := Lib.hid hmM
    subst hPA
    subst hLA
    have w1 : IntKind.i64.wrap ((M : Int) - 1) = (m : Int) := by rw [show ((M : Int) - 1) = (m : Int) by omega]; exact IntWalk.i64_in _ (by omega)
    have w3 : IntKind.i64.wrap ((t : Int) + (B : Int)) = ((t + B : Nat) : Int) := by rw [IntWalk.i64_in _ (by omega)]; omega
    obtain ⟨T, hT⟩ : ∃ T, t + B = T := ⟨_, rfl⟩
    rw [hT] at w3
    have i0 : ¬ (m : Int) < 0 := by omega
    have i1 : (0 : Int) ≤ (m : Int) := by omega
    have i2 : (m : Int) < (M : Int) := by omega
    have i3 : (0 : Int) ≤ (t : Int) := by omega
    have i4 : (t : Int) < (n : Int) := by omega
    by_cases hpe : p.enc.length = 0
    · obtain rfl : p = .done := by
        cases p with
        | done => rfl
        | set v e r => simp [Pg.enc] at hpe
        | wh e b r => simp [Pg.enc] at hpe
      have i5 : (i : Int) > (T : Int) := by omega
      have HL : Hid (Own w w0.heap.size 3 1 (some ⟨lb, lo, none⟩) L.length lc (ints (L.reverse.map fun j : Nat => (j : Int)))) := Lib.hid (by
        have h2 := Own.cut h.loops (i := 0) (j := L.length) (Nat.zero_le _) (by simp) (A' := some ⟨lb, lo, none⟩) (fun e => e) (fun b off e => .inl (by rw [e]; rfl))
        rw [Nat.sub_zero, Nat.sub_zero, List.drop_zero, ints_take] at h2
        have e2 : ((t :: L).reverse.map fun j : Nat => (j : Int)).take L.length = L.reverse.map fun j : Nat => (j : Int) := by
          rw [List.reverse_cons, List.map_append, List.take_append_of_le_length (by simp), List.take_of_length_le (by simp)]
        rw [e2] at h2
        exact h2)
      have f2 := h.box.frozen 2
      have f3 := h.box.frozen 3
      have hMc : M ≤ lc := by have h5 := h.loops.le; rw [hM] at h5; exact h5
      have j1 : ¬ (lc : Int) < (m : Int) := by omega
      have j2 : (m : Int) ≤ (lc : Int) := by omega
      have j3 : ¬ (lc : Int) = 0 := by omega
      have j4 : ¬ lc = 0 := by omega
      clear h h1 hd hi hk hti hwt HT hce hbn lc0 hm hM hB hmM hT hl hpe hin
      go_enter Try.func154, Try.ntmps154
      go_wp2_with fail
      go_quiet (fail)
      go_wp2_with fail
      go_region
      go_wp2_with fail
      go_ret
      have h2 := (HH.out.drewN (nq + 1)).setAt t
      have h3 := h2.1.setLoops (L' := L) ((HL.out.drewN (nq + 1)).far (p := ⟨g, 2, none⟩) ((HH.out.drewN (nq + 1)).box.apt HL.out (by decide)) (.int .i64 (t : Int)))
      have h4 := KX.drewN w (nq + 1)
      rw [Hm.out] at h3
      refine ⟨rfl, t, some ⟨lb, lo, none⟩, lc, L, ?_, HR1.out, (h4.trans h2.2).trans h3.2⟩
      exact h3.1
    · have i5 : ¬ (i : Int) > (T : Int) := by omega
      have HN : Hid (normW p (.wh e b r :: S) = (p, .wh e b r :: S) ∧ doneW p (.wh e b r :: S) = false) := Lib.hid (by
        cases p with
        | done => exact absurd rfl hpe
        | set v e r => exact ⟨rfl, rfl⟩
        | wh e b r => exact ⟨rfl, rfl⟩)
      clear h h1 hd hi hk hti hwt HT hce hbn lc0 hm hM hB hmM hT hl hpe hin
      go_enter Try.func154, Try.ntmps154
      go_wp2_with fail
      go_quiet (fail)
      go_wp2_with fail
      go_ret
      rw [HN.out.1, HN.out.2]
      exact ⟨rfl, i, some ⟨lb, lo, none⟩, lc, t :: L, HH.out.drewN _, HR.out, KX.drewN _ _⟩
end Go.Proofs.Ytfheepjfpgiaoaa
