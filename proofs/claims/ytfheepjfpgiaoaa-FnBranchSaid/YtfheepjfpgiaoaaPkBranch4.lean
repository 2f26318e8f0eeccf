/-
  Contract of the whileMachine's step.
-/
import Derived.Test.YtfheepjfpgiaoaaPkBranch2
import Derived.Test.YtfheepjfpgiaoaaPkBranch3
import Derived.Test.YtfheepjfpgiaoaaBl
import Derived.Deep.QuietTactic
import Derived.BigQuiet
import Derived.Test.YtfheepjfpgiaoaaKb
namespace Go.Proofs.Ytfheepjfpgiaoaa
open Go.RowKit

/-- A loop is opened. -/
theorem WmI.push {w0 w w2 : World} {g : Nat} {PA : Option Addr} {n pc : Nat} {ts : List Ce} {SA : Option Addr} {sc : Nat} {s : List Tr} {i : Nat} {LA A2 : Option Addr} {lc c2 : Nat} {L L' : List Nat} (h : WmI w0 w g PA n pc ts SA sc s i LA lc L) (o2 : Own w2 w0.heap.size 3 1 A2 L'.length c2 (ints (L'.reverse.map fun j : Nat => (j : Int)))) (hg : w.grownBy w2 (blk LA)) :
    WmI w0 (w2.setCell ⟨g, 3, none⟩ (.slice A2 L'.length c2)) g PA n pc ts SA sc s i A2 c2 L' ∧ KX w (w2.setCell ⟨g, 3, none⟩ (.slice A2 L'.length c2)) ∧ Blk w2 g 199 #[.slice PA n pc, .slice SA 6 sc, .int .i64 (i : Int), .slice LA L.length lc] := by
  obtain ⟨ps, h1, h2, h3, h4⟩ := h.store
  have hb := h.box.grown h.loops hg (by decide)
  have k := KX.grown h.loops hg rfl
  have h3' := h3.grown_apt h.loops hg (by decide)
  have k2 := KX.setCell (i := 3) hb (.inr (.inr rfl)) (.slice A2 L'.length c2)
  have hbel : Below w0.heap.size w0 w2 := h.base.grown hg h.low (fun b hb => h.loops.blk_ge b hb)
  refine ⟨⟨hbel.setCell (p := ⟨g, 3, none⟩) h.glo _, h.prog, h.glo, hb.set_ 3 _, ⟨ps, h1, h2, h3'.far (p := ⟨g, 3, none⟩) (hb.apt h3' (by decide)) _, fun k' t hk => ?_⟩, o2.far (p := ⟨g, 3, none⟩) (hb.apt o2 (by decide)) _⟩, k.trans k2, hb⟩
  obtain ⟨p, e, ht⟩ := h4 k' t hk
  exact ⟨p, e, ht.kt (k.trans k2).kt⟩
/-- A store that the call owns. -/
def StOwn (w : World) (lo : Nat) (SA : Option Addr) (sc : Nat) (s : List Tr) : Prop := ∃ ps : List (Option Addr), ps.length = 6 ∧ s.length = 6 ∧ Own w lo 124 1 SA 6 sc (ps.map Value.pointer) ∧ ∀ (k : Nat) (t : Tr), s[k]? = some t → ∃ p, ps[k]? = some p ∧ TrAt w t p
theorem StOwn.below {w w' : World} {lo : Nat} {SA : Option Addr} {sc : Nat} {s : List Tr} (h : StOwn w lo SA sc s) (z : Below w.heap.size w w') : StOwn w' lo SA sc s := by
  obtain ⟨ps, h1, h2, h3, h4⟩ := h
  exact ⟨ps, h1, h2, h3.below z, fun k t hk => by obtain ⟨p, e, ht⟩ := h4 k t hk; exact ⟨p, e, ht.below z⟩⟩
theorem Own.typed {w w' : World} {lo n c s : Nat} {e : TypeId} {A : Option Addr} {cs : List Value} (h : Own w lo e s A n c cs) (k : ∀ b cs, Blk w b e cs → Blk w' b e cs) : Own w' lo e s A n c cs := by
  refine ⟨h.1, ?_⟩
  rcases h.2 with h1 | ⟨b, off, cur, hA, hb, hg, r⟩
  · exact .inl h1
  · exact .inr ⟨b, off, cur, hA, hb, k b cur hg, r⟩
theorem StOwn.typed {w w' : World} {lo : Nat} {SA : Option Addr} {sc : Nat} {s : List Tr} (h : StOwn w lo SA sc s) (k : ∀ b t cs, Blk w b t cs → t ≠ 2 → t ≠ 4 → Blk w' b t cs) : StOwn w' lo SA sc s := by
  obtain ⟨ps, h1, h2, h3, h4⟩ := h
  exact ⟨ps, h1, h2, h3.typed (fun b cs hb => k b _ cs hb (by decide) (by decide)), fun j t hk => by obtain ⟨p, e, ht⟩ := h4 j t hk; exact ⟨p, e, ht.kt (fun b cs hb => k b _ cs hb (by decide) (by decide))⟩⟩
def fullV : Value := .iface 226 (.agg #[])
/-- What a step does. -/
def StepR (w0 w : World) (g : Nat) (PA : Option Addr) (n pc : Nat) (ts : List Ce) (SA : Option Addr) (sc : Nat) (s0 : List Tr) (r : Option (Pg × List Pg × List Tr)) (e : Ending) (w' : World) : Prop :=
  match r with
  | some (p, S, s) => (∃ u, e = .returned u) ∧ WmQ w0 w g PA n pc ts SA sc s p S w'
  | none => e = .panicked [{ v := .iface 226 (.agg #[]), recovered := false }] ∧ KX w w' ∧ Below w0.heap.size w0 w' ∧ StOwn w' w0.heap.size SA sc s0
set_option maxRecDepth 100000 in
set_option maxHeartbeats 8000000 in
theorem step_any (w0 : World) (g : Nat) (PA : Option Addr) (n pc : Nat) (ts : List Ce) (SA : Option Addr) (sc : Nat) (s : List Tr) (i : Nat) (LA : Option Addr) (lc : Nat) (L : List Nat) (p : Pg) (S : List Pg) (w : World) (h : WmI w0 w g PA n pc ts SA sc s i LA lc L) (hr : Rel (cmds ts) L S i p) (hn : n ≤ 1000) (hp : p ≠ .done) (hs : ∀ t ∈ s, t.nodes ≤ 2000) :
    Calls Try.prog 155 #[.pointer (some ⟨g, 0, none⟩)] w (StepR w0 w g PA n pc ts SA sc s (stepW p S s)) := by
  have hl : (cmds ts).length = n := by rw [cmds_len]; exact h.prog.len
  have g0 : w.cell? ⟨g, 0, none⟩ = some (.slice PA n pc) := h.box.cell 0
  have g1 : w.cell? ⟨g, 1, none⟩ = some (.slice SA 6 sc) := h.box.cell 1
  have g2 : w.cell? ⟨g, 2, none⟩ = some (.int .i64 (i : Int)) := h.box.cell 2
  have hgl := h.box.lt
  have HS := Lib.hid hs
  have HH := Lib.hid h
  have HR := Lib.hid hr
  cases p with
  | done => exact absurd rfl hp
  | set v e r =>
    obtain ⟨hc, hv, hg, hr2⟩ := hr.set
    have hin : i < n := by have := (List.getElem?_eq_some_iff.1 hc).1; omega
    obtain ⟨ce, pb, po, HT, _, rfl, hpb, c0, c1, c2, c3, hce⟩ := h.prg.pick hin
    have h2 : ce.cmd = ⟨0, (v : Int), 0, e.enc⟩ := by
      have h3 : (cmds ts)[i]? = some ce.cmd := by unfold cmds; rw [List.getElem?_map, HT.out]; rfl
      rw [hc] at h3
      exact (Option.some.inj h3).symm
    obtain ⟨ck, cv, cl, cA, cc, ces⟩ := ce
    simp only [Ce.cmd, Cmd.mk.injEq] at h2
    obtain ⟨rfl, rfl, rfl, rfl⟩ := h2
    dsimp only at c0 c1 c2 c3 hce
    obtain ⟨E, hE⟩ : ∃ E, e.enc.length = E := ⟨_, rfl⟩
    have hE40 : E ≤ 40 := by rw [← hE, ex_len]; exact hg.2
    rw [hE] at c3 hce
    have HE := Lib.hid hE
    have HG := Lib.hid hg
    have HCE := Lib.hid hce
    have HR2 : Hid (Rel (cmds ts) L S (i + 1) r) := Lib.hid hr2
    obtain ⟨i', hii⟩ : ∃ i', i + 1 = i' := ⟨_, rfl⟩
    rw [hii] at HR2
    have w1 : IntKind.i64.wrap ((i : Int) + 1) = (i' : Int) := by rw [show ((i : Int) + 1) = (i' : Int) by omega]; exact IntWalk.i64_in _ (by omega)
    have i1 : (0 : Int) ≤ (i : Int) := by omega
    have i2 : (i : Int) < (n : Int) := by omega
    clear h hr hc hg HT hce hl hp hs hr2 hii
    go_enter Try.func155, Try.ntmps155
    go_upto_region 0 with fail
    go_region
    obtain ⟨W1, hW1⟩ : ∃ W1, W1 = (w.alloc (.cells #[.int .i64 0, .int .i64 (v : Int), .int .i64 0, .slice cA E cc] 99)).drew := ⟨_, rfl⟩
    rw [← hW1]
    have b1 : Blk W1 w.heap.size 99 #[.int .i64 0, .int .i64 (v : Int), .int .i64 0, .slice cA E cc] := by rw [hW1]; exact (Blk.new w _ _).drewN 1
    have z1 : Below w.heap.size w W1 := by rw [hW1]; exact below_drewN ((Below.refl _ _).alloc (Nat.le_refl _) _) 1
    have hgs : w.heap.size < W1.heap.size := b1.lt
    have HW := Lib.hid hW1
    have x0 : W1.cell? ⟨w.heap.size, 0, none⟩ = some (.int .i64 0) := b1.cell 0
    have x1 : W1.cell? ⟨w.heap.size, 1, none⟩ = some (.int .i64 (v : Int)) := b1.cell 1
    have x2 : W1.cell? ⟨w.heap.size, 2, none⟩ = some (.int .i64 0) := b1.cell 2
    have x3 : W1.cell? ⟨w.heap.size, 3, none⟩ = some (.slice cA E cc) := b1.cell 3
    have H1 := Lib.hid (HH.out.below z1)
    have g1' : W1.cell? ⟨g, 1, none⟩ = some (.slice SA 6 sc) := H1.out.box.cell 1
    have HB1 := Lib.hid b1
    have hEV := fun k => exprValue_any cA E cc e.enc SA sc s (by omega) HS.out e 0 [] (W1.drewN k) (by rw [List.drop_zero, List.append_nil]) HG.out.1 ((HCE.out.below z1).drewN k) ((H1.out.drewN k).st)
    have HEV := Lib.hid hEV
    have HZ1 := Lib.hid z1
    clear hW1 z1 b1 hEV c0 c1 c2 c3 g0 g1 g2
    go_upto_region 1 with fail
    have KS := Lib.hid (fun w' (z : Below W1.heap.size W1 w') => And.intro ((z.cell (p := ⟨w.heap.size, 3, none⟩) hgs).trans x3) ((z.cell (p := ⟨g, 1, none⟩) (by show g < _; omega)).trans g1'))
    unfold EvP at HEV
    have HEVL : Hid (((0 + e.len : Nat) : Int) = (E : Int)) := Lib.hid (by rw [Nat.zero_add, ← ex_len, HE.out])
    refine wp_region_held_drew (S := (fun w' => w'.cell? ⟨w.heap.size, 3, none⟩ = some (.slice cA E cc) ∧ w'.cell? ⟨g, 1, none⟩ = some (.slice SA 6 sc))) (by kernel_rfl) ?_ (fun hHeld => ?_)
    · exact KS.out _ (below_drewN (Below.refl _ _) 1)
    refine wpAnyH_take (i := 0) (v := ?_) rfl (by kernel_rfl) (by kernel_rfl) (by kernel_rfl) (fun _ _ _ h => h) (Or.inl ⟨by rfl, ?_⟩) (by assumption) ?_
    rotate_left
    · intro w hSw
      try dsimp only at hSw
      obtain ⟨hs0_, hs1_⟩ := hSw
      go_simp
      try with_reducible rfl
    try simp only [Act.put, List.setIfInBounds_toArray, List.set_cons_zero, List.set_cons_succ]
    refine wpAnyH_take (i := 1) (v := ?_) rfl (by kernel_rfl) (by kernel_rfl) (by kernel_rfl) (fun _ _ _ h => h) (Or.inl ⟨by rfl, ?_⟩) (by assumption) ?_
    rotate_left
    · intro w hSw
      try dsimp only at hSw
      obtain ⟨hs0_, hs1_⟩ := hSw
      go_simp
      try with_reducible rfl
    try simp only [Act.put, List.setIfInBounds_toArray, List.set_cons_zero, List.set_cons_succ]
    refine wpAnyH_take (i := 2) (v := ?_) rfl (by kernel_rfl) (by kernel_rfl) (by kernel_rfl) (fun _ _ _ h => h) (Or.inl ⟨by rfl, ?_⟩) (by assumption) ?_
    rotate_left
    · intro w hSw
      try dsimp only at hSw
      obtain ⟨hs0_, hs1_⟩ := hSw
      go_simp
      try with_reducible rfl
    try simp only [Act.put, List.setIfInBounds_toArray, List.set_cons_zero, List.set_cons_succ]
    refine wpAnyH_take (i := 3) (v := ?_) rfl (by kernel_rfl) (by kernel_rfl) (by kernel_rfl) (fun _ _ _ h => h) (Or.inl ⟨by rfl, ?_⟩) (by assumption) ?_
    rotate_left
    · intro w hSw
      try dsimp only at hSw
      obtain ⟨hs0_, hs1_⟩ := hSw
      go_simp
      try with_reducible rfl
    try simp only [Act.put, List.setIfInBounds_toArray, List.set_cons_zero, List.set_cons_succ]
    refine wpAnyH_take (i := 4) (v := ?_) rfl (by kernel_rfl) (by kernel_rfl) (by kernel_rfl) (fun _ _ _ h => h) (Or.inl ⟨by rfl, ?_⟩) (by assumption) ?_
    rotate_left
    · intro w hSw
      try dsimp only at hSw
      obtain ⟨hs0_, hs1_⟩ := hSw
      go_simp
      try with_reducible rfl
    try simp only [Act.put, List.setIfInBounds_toArray, List.set_cons_zero, List.set_cons_succ]
    refine wpAnyH_take (i := 5) (v := ?_) rfl (by kernel_rfl) (by kernel_rfl) (by kernel_rfl) (fun _ _ _ h => h) (Or.inl ⟨by rfl, ?_⟩) (by assumption) ?_
    rotate_left
    · intro w hSw
      try dsimp only at hSw
      obtain ⟨hs0_, hs1_⟩ := hSw
      go_simp
      try with_reducible rfl
    try simp only [Act.put, List.setIfInBounds_toArray, List.set_cons_zero, List.set_cons_succ]
    try simp only [putAll, markAll, dstAt, Act.put, List.getElem_toArray, List.getElem?_toArray, List.getElem_cons_zero, List.getElem_cons_succ, List.getElem?_cons_zero, List.getElem?_cons_succ, Option.bind_some, List.setIfInBounds_toArray, List.set_cons_zero, List.set_cons_succ]
    refine wpAnyH_ready (rs := [6]) (by kernel_rfl) (by simp) ?_
    refine AllReadyH.cons rfl (fun K hK => ?_) ?_
    · go_simp
      refine (HEV.out 1).mono ?_
      intro e2 W2 hEV
      cases hev : e.ev s
      · rw [hev] at hEV
        obtain ⟨rfl, z2'⟩ := hEV
        have z2 : Below W1.heap.size W1 W2 := below_undrew (n := 1) z2'
        have z12 : Below w.heap.size w W2 := HZ1.out.trans (z2.mono HZ1.out.size)
        have HRES : StepR w0 w g (some ⟨pb, po, none⟩) n pc ts SA sc s (stepW (.set v e r) S s) (.panicked [{ v := .iface 226 (.agg #[]), recovered := false }]) W2 := by
          rw [show stepW (.set v e r) S s = none by show (e.ev s).map _ = none; rw [hev]; rfl]
          exact ⟨rfl, KX.below z12, HH.out.base.trans (z12.mono HH.out.low), (HH.out.below z12).store⟩
        exact ⟨rfl, HRES⟩
      rename_i x
      have HSP : Hid (stepW (.set v e r) S s = some (r, S, s.set v x)) := Lib.hid (by show (e.ev s).map _ = _; rw [hev]; rfl)
      have HXN : Hid (x.nodes ≤ 2000) := Lib.hid (ev_nodes HS.out e x hev)
      rw [hev] at hEV
      clear hev
      obtain ⟨⟨q, rfl, hq⟩, z2'⟩ := hEV
      rw [HEVL.out]
      have z2 : Below W1.heap.size W1 W2 := below_undrew (n := 1) z2'
      clear z2'
      refine hK.out _ _ ?_ (fun hHeld => ?_)
      · first | exact KS.out _ z2 | exact KS.out _ (below_drewN (Below.refl _ _) 1)
      clear hK K
      try simp only [Act.put, List.setIfInBounds_toArray, List.set_cons_zero, List.set_cons_succ]
      refine wpAnyH_take (i := 7) (v := ?_) rfl (by kernel_rfl) (by kernel_rfl) (by kernel_rfl) (fun _ _ _ h => h) (Or.inl ⟨by rfl, ?_⟩) (by assumption) ?_
      rotate_left
      · intro w hSw
        try dsimp only at hSw
        obtain ⟨hs0_, hs1_⟩ := hSw
        go_simp
        try with_reducible rfl
      try simp only [Act.put, List.setIfInBounds_toArray, List.set_cons_zero, List.set_cons_succ]
      refine wpAnyH_take (i := 8) (v := ?_) rfl (by kernel_rfl) (by kernel_rfl) (by kernel_rfl) (fun _ _ _ h => h) (Or.inl ⟨by rfl, ?_⟩) (by assumption) ?_
      rotate_left
      · intro w hSw
        try dsimp only at hSw
        obtain ⟨hs0_, hs1_⟩ := hSw
        go_simp
        try with_reducible rfl
      try simp only [Act.put, List.setIfInBounds_toArray, List.set_cons_zero, List.set_cons_succ]
      refine wpAnyH_take (i := 9) (v := ?_) rfl (by kernel_rfl) (by kernel_rfl) (by kernel_rfl) (fun _ _ _ h => h) (Or.inl ⟨by rfl, ?_⟩) (by assumption) ?_
      rotate_left
      · intro w hSw
        try dsimp only at hSw
        obtain ⟨hs0_, hs1_⟩ := hSw
        go_simp
        try with_reducible rfl
      try simp only [Act.put, List.setIfInBounds_toArray, List.set_cons_zero, List.set_cons_succ]
      refine wpAnyH_take (i := 10) (v := ?_) rfl (by kernel_rfl) (by kernel_rfl) (by kernel_rfl) (fun _ _ _ h => h) (Or.inl ⟨by rfl, ?_⟩) (by assumption) ?_
      rotate_left
      · intro w hSw
        try dsimp only at hSw
        obtain ⟨hs0_, hs1_⟩ := hSw
        go_simp
        try with_reducible rfl
      try simp only [Act.put, List.setIfInBounds_toArray, List.set_cons_zero, List.set_cons_succ]
      try simp only [putAll, markAll, dstAt, Act.put, List.getElem_toArray, List.getElem?_toArray, List.getElem_cons_zero, List.getElem_cons_succ, List.getElem?_cons_zero, List.getElem?_cons_succ, Option.bind_some, List.setIfInBounds_toArray, List.set_cons_zero, List.set_cons_succ]
      refine wpAnyH_ready (rs := [11]) (by kernel_rfl) (by simp) ?_
      refine AllReadyH.cons rfl (fun K hK => ?_) ?_
      · go_simp
        refine hK.out _ _ ?_ (fun hHeld => ?_)
        · first | exact KS.out _ z2 | exact KS.out _ (below_drewN (Below.refl _ _) 1)
        clear hK K
        try simp only [Act.put, List.setIfInBounds_toArray, List.set_cons_zero, List.set_cons_succ]
        refine wpAnyH_done (by kernel_rfl) ?_ _
        have HQ := Lib.hid hq
        have z12 : Below w.heap.size w W2 := HZ1.out.trans (z2.mono HZ1.out.size)
        have H2 := Lib.hid (H1.out.below z2)
        have y0 : W2.cell? ⟨w.heap.size, 0, none⟩ = some (.int .i64 0) := (z2.cell (p := ⟨w.heap.size, 0, none⟩) hgs).trans x0
        have y1 : W2.cell? ⟨w.heap.size, 1, none⟩ = some (.int .i64 (v : Int)) := (z2.cell (p := ⟨w.heap.size, 1, none⟩) hgs).trans x1
        have y3 : W2.cell? ⟨w.heap.size, 2, none⟩ = some (.int .i64 0) := (z2.cell (p := ⟨w.heap.size, 2, none⟩) hgs).trans x2
        have y2 : W2.cell? ⟨g, 1, none⟩ = some (.slice SA 6 sc) := H2.out.box.cell 1
        have y4 : W2.cell? ⟨g, 2, none⟩ = some (.int .i64 (i : Int)) := H2.out.box.cell 2
        have HZ := Lib.hid z12
        clear KS HEV x0 x1 x2 x3 g1' z2 HZ1 H1 HB1 z12
        obtain ⟨ps, hp1, hp2, hp3, hp4⟩ := H2.out.store
        obtain ⟨sb, so, hSA, _, _, sv, sf⟩ := hp3.at_ (k := v) (by rw [List.length_map]; omega)
        subst hSA
        obtain ⟨u, su⟩ : ∃ u, W2.cell? ⟨sb, so + v, none⟩ = some u := ⟨_, sv⟩
        have HS2 := Lib.hid (H2.out.setVar hv HQ.out)
        have j1 : (0 : Int) ≤ (v : Int) := by omega
        have j2 : (v : Int) < 6 := by omega
        clear sv hp1 hp2 hp3 hp4 hq
        go_wp2_with fail
        go_region
        obtain ⟨W3, hW3⟩ : ∃ W3, W3 = (W2.setCell ⟨sb, so + v, none⟩ (.pointer q)).drew := ⟨_, rfl⟩
        rw [← hW3]
        have H3 : WmI w0 W3 g (some ⟨pb, po, none⟩) n pc ts (some ⟨sb, so, none⟩) sc (s.set v x) i LA lc L := by rw [hW3]; exact HS2.out.1.drewN 1
        have k3 : KX w W3 := by rw [hW3]; exact ((KX.below HZ.out).trans HS2.out.2).trans (KX.drewN _ 1)
        have HS4 := Lib.hid (H3.setAt i')
        have HK3 := Lib.hid k3
        have z2 : W3.cell? ⟨g, 2, none⟩ = some (.int .i64 (i : Int)) := H3.box.cell 2
        have f2 := H3.box.frozen 2
        clear hW3 H3 k3 y0 y1 y2 y3 y4 su sf HS2
        go_wp2_with fail
        go_end0
        rw [HSP.out]
        exact ⟨⟨_, rfl⟩, i', LA, lc, L, HS4.out.1, HR2.out, HK3.out.trans HS4.out.2⟩
      exact AllReadyH.nil
    exact AllReadyH.nil
  | wh e b r =>
    obtain ⟨hc, hg, hra, hrb⟩ := hr.wh
    have hin : i < n := by have := (List.getElem?_eq_some_iff.1 hc).1; omega
    obtain ⟨ce, pb, po, HT, _, rfl, hpb, c0, c1, c2, c3, hce⟩ := h.prg.pick hin
    have h2 : ce.cmd = ⟨1, 0, (b.enc.length : Int), e.enc⟩ := by
      have h3 : (cmds ts)[i]? = some ce.cmd := by unfold cmds; rw [List.getElem?_map, HT.out]; rfl
      rw [hc] at h3
      exact (Option.some.inj h3).symm
    obtain ⟨ck, cv, cl, cA, cc, ces⟩ := ce
    simp only [Ce.cmd, Cmd.mk.injEq] at h2
    obtain ⟨rfl, rfl, rfl, rfl⟩ := h2
    dsimp only at c0 c1 c2 c3 hce
    obtain ⟨E, hE⟩ : ∃ E, e.enc.length = E := ⟨_, rfl⟩
    have hE40 : E ≤ 40 := by rw [← hE, ex_len]; exact hg.2
    rw [hE] at c3 hce
    have HE := Lib.hid hE
    have HG := Lib.hid hg
    have HCE := Lib.hid hce
    obtain ⟨B, hB⟩ : ∃ B, b.enc.length = B := ⟨_, rfl⟩
    have hBn : i + 1 + B ≤ n := by have h5 := hra.le; rw [hB] at h5; omega
    rw [hB] at c2 hra
    have HRA : Hid (Rel (cmds ts) L S (i + 1 + B) r) := Lib.hid hra
    have HRB : Hid (Rel (cmds ts) (i :: L) (.wh e b r :: S) (i + 1) b) := Lib.hid hrb
    obtain ⟨i', hii⟩ : ∃ i', i + 1 = i' := ⟨_, rfl⟩
    obtain ⟨iB, hiB⟩ : ∃ iB, i + 1 + B = iB := ⟨_, rfl⟩
    rw [hii] at HRB
    rw [hiB] at HRA
    have w1 : IntKind.i64.wrap ((i : Int) + 1) = (i' : Int) := by rw [show ((i : Int) + 1) = (i' : Int) by omega]; exact IntWalk.i64_in _ (by omega)
    have w2 : IntKind.i64.wrap (1 + (B : Int)) = ((1 + B : Nat) : Int) := by rw [IntWalk.i64_in _ (by omega)]; omega
    obtain ⟨B1, hB1⟩ : ∃ B1, 1 + B = B1 := ⟨_, rfl⟩
    rw [hB1] at w2
    have w3 : IntKind.i64.wrap ((i : Int) + (B1 : Int)) = (iB : Int) := by rw [show ((i : Int) + (B1 : Int)) = (iB : Int) by omega]; exact IntWalk.i64_in _ (by omega)
    clear hB1
    have i1 : (0 : Int) ≤ (i : Int) := by omega
    have i2 : (i : Int) < (n : Int) := by omega
    clear h hr hc hg HT hce hl hp hs hra hrb hii hB hiB
    go_enter Try.func155, Try.ntmps155
    go_upto_region 0 with fail
    go_region
    obtain ⟨W1, hW1⟩ : ∃ W1, W1 = (w.alloc (.cells #[.int .i64 1, .int .i64 0, .int .i64 (B : Int), .slice cA E cc] 99)).drew := ⟨_, rfl⟩
    rw [← hW1]
    have b1 : Blk W1 w.heap.size 99 #[.int .i64 1, .int .i64 0, .int .i64 (B : Int), .slice cA E cc] := by rw [hW1]; exact (Blk.new w _ _).drewN 1
    have z1 : Below w.heap.size w W1 := by rw [hW1]; exact below_drewN ((Below.refl _ _).alloc (Nat.le_refl _) _) 1
    have hgs : w.heap.size < W1.heap.size := b1.lt
    have HW := Lib.hid hW1
    have x0 : W1.cell? ⟨w.heap.size, 0, none⟩ = some (.int .i64 1) := b1.cell 0
    have x1 : W1.cell? ⟨w.heap.size, 1, none⟩ = some (.int .i64 0) := b1.cell 1
    have x2 : W1.cell? ⟨w.heap.size, 2, none⟩ = some (.int .i64 (B : Int)) := b1.cell 2
    have x3 : W1.cell? ⟨w.heap.size, 3, none⟩ = some (.slice cA E cc) := b1.cell 3
    have H1 := Lib.hid (HH.out.below z1)
    have g1' : W1.cell? ⟨g, 1, none⟩ = some (.slice SA 6 sc) := H1.out.box.cell 1
    have HB1 := Lib.hid b1
    have hEV := fun k => exprValue_any cA E cc e.enc SA sc s (by omega) HS.out e 0 [] (W1.drewN k) (by rw [List.drop_zero, List.append_nil]) HG.out.1 ((HCE.out.below z1).drewN k) ((H1.out.drewN k).st)
    have HEV := Lib.hid hEV
    have HZ1 := Lib.hid z1
    clear hW1 z1 b1 hEV c0 c1 c2 c3 g0 g1 g2
    go_upto_region 1 with fail
    have KS := Lib.hid (fun w' (z : Below W1.heap.size W1 w') => And.intro ((z.cell (p := ⟨w.heap.size, 3, none⟩) hgs).trans x3) ((z.cell (p := ⟨g, 1, none⟩) (by show g < _; omega)).trans g1'))
    unfold EvP at HEV
    have HEVL : Hid (((0 + e.len : Nat) : Int) = (E : Int)) := Lib.hid (by rw [Nat.zero_add, ← ex_len, HE.out])
    refine wp_region_held_drew (S := (fun w' => w'.cell? ⟨w.heap.size, 3, none⟩ = some (.slice cA E cc) ∧ w'.cell? ⟨g, 1, none⟩ = some (.slice SA 6 sc))) (by kernel_rfl) ?_ (fun hHeld => ?_)
    · exact KS.out _ (below_drewN (Below.refl _ _) 1)
    refine wpAnyH_take (i := 0) (v := ?_) rfl (by kernel_rfl) (by kernel_rfl) (by kernel_rfl) (fun _ _ _ h => h) (Or.inl ⟨by rfl, ?_⟩) (by assumption) ?_
    rotate_left
    · intro w hSw
      try dsimp only at hSw
      obtain ⟨hs0_, hs1_⟩ := hSw
      go_simp
      try with_reducible rfl
    try simp only [Act.put, List.setIfInBounds_toArray, List.set_cons_zero, List.set_cons_succ]
    refine wpAnyH_take (i := 1) (v := ?_) rfl (by kernel_rfl) (by kernel_rfl) (by kernel_rfl) (fun _ _ _ h => h) (Or.inl ⟨by rfl, ?_⟩) (by assumption) ?_
    rotate_left
    · intro w hSw
      try dsimp only at hSw
      obtain ⟨hs0_, hs1_⟩ := hSw
      go_simp
      try with_reducible rfl
    try simp only [Act.put, List.setIfInBounds_toArray, List.set_cons_zero, List.set_cons_succ]
    refine wpAnyH_take (i := 2) (v := ?_) rfl (by kernel_rfl) (by kernel_rfl) (by kernel_rfl) (fun _ _ _ h => h) (Or.inl ⟨by rfl, ?_⟩) (by assumption) ?_
    rotate_left
    · intro w hSw
      try dsimp only at hSw
      obtain ⟨hs0_, hs1_⟩ := hSw
      go_simp
      try with_reducible rfl
    try simp only [Act.put, List.setIfInBounds_toArray, List.set_cons_zero, List.set_cons_succ]
    refine wpAnyH_take (i := 3) (v := ?_) rfl (by kernel_rfl) (by kernel_rfl) (by kernel_rfl) (fun _ _ _ h => h) (Or.inl ⟨by rfl, ?_⟩) (by assumption) ?_
    rotate_left
    · intro w hSw
      try dsimp only at hSw
      obtain ⟨hs0_, hs1_⟩ := hSw
      go_simp
      try with_reducible rfl
    try simp only [Act.put, List.setIfInBounds_toArray, List.set_cons_zero, List.set_cons_succ]
    refine wpAnyH_take (i := 4) (v := ?_) rfl (by kernel_rfl) (by kernel_rfl) (by kernel_rfl) (fun _ _ _ h => h) (Or.inl ⟨by rfl, ?_⟩) (by assumption) ?_
    rotate_left
    · intro w hSw
      try dsimp only at hSw
      obtain ⟨hs0_, hs1_⟩ := hSw
      go_simp
      try with_reducible rfl
    try simp only [Act.put, List.setIfInBounds_toArray, List.set_cons_zero, List.set_cons_succ]
    refine wpAnyH_take (i := 5) (v := ?_) rfl (by kernel_rfl) (by kernel_rfl) (by kernel_rfl) (fun _ _ _ h => h) (Or.inl ⟨by rfl, ?_⟩) (by assumption) ?_
    rotate_left
    · intro w hSw
      try dsimp only at hSw
      obtain ⟨hs0_, hs1_⟩ := hSw
      go_simp
      try with_reducible rfl
    try simp only [Act.put, List.setIfInBounds_toArray, List.set_cons_zero, List.set_cons_succ]
    try simp only [putAll, markAll, dstAt, Act.put, List.getElem_toArray, List.getElem?_toArray, List.getElem_cons_zero, List.getElem_cons_succ, List.getElem?_cons_zero, List.getElem?_cons_succ, Option.bind_some, List.setIfInBounds_toArray, List.set_cons_zero, List.set_cons_succ]
    refine wpAnyH_ready (rs := [6]) (by kernel_rfl) (by simp) ?_
    refine AllReadyH.cons rfl (fun K hK => ?_) ?_
    · go_simp
      refine (HEV.out 1).mono ?_
      intro e2 W2 hEV
      cases hev : e.ev s
      · rw [hev] at hEV
        obtain ⟨rfl, z2'⟩ := hEV
        have z2 : Below W1.heap.size W1 W2 := below_undrew (n := 1) z2'
        have z12 : Below w.heap.size w W2 := HZ1.out.trans (z2.mono HZ1.out.size)
        have HRES : StepR w0 w g (some ⟨pb, po, none⟩) n pc ts SA sc s (stepW (.wh e b r) S s) (.panicked [{ v := .iface 226 (.agg #[]), recovered := false }]) W2 := by
          rw [show stepW (.wh e b r) S s = none by show (e.ev s).map _ = none; rw [hev]; rfl]
          exact ⟨rfl, KX.below z12, HH.out.base.trans (z12.mono HH.out.low), (HH.out.below z12).store⟩
        exact ⟨rfl, HRES⟩
      rename_i x
      have HSP : Hid (stepW (.wh e b r) S s = some (if x = .nil then (r, S, s) else (b, .wh e b r :: S, s))) := Lib.hid (by show (e.ev s).map _ = _; rw [hev]; rfl)
      have HXN : Hid (x.nodes ≤ 2000) := Lib.hid (ev_nodes HS.out e x hev)
      rw [hev] at hEV
      clear hev
      obtain ⟨⟨q, rfl, hq⟩, z2'⟩ := hEV
      rw [HEVL.out]
      have z2 : Below W1.heap.size W1 W2 := below_undrew (n := 1) z2'
      clear z2'
      refine hK.out _ _ ?_ (fun hHeld => ?_)
      · first | exact KS.out _ z2 | exact KS.out _ (below_drewN (Below.refl _ _) 1)
      clear hK K
      try simp only [Act.put, List.setIfInBounds_toArray, List.set_cons_zero, List.set_cons_succ]
      refine wpAnyH_take (i := 7) (v := ?_) rfl (by kernel_rfl) (by kernel_rfl) (by kernel_rfl) (fun _ _ _ h => h) (Or.inl ⟨by rfl, ?_⟩) (by assumption) ?_
      rotate_left
      · intro w hSw
        try dsimp only at hSw
        obtain ⟨hs0_, hs1_⟩ := hSw
        go_simp
        try with_reducible rfl
      try simp only [Act.put, List.setIfInBounds_toArray, List.set_cons_zero, List.set_cons_succ]
      refine wpAnyH_take (i := 8) (v := ?_) rfl (by kernel_rfl) (by kernel_rfl) (by kernel_rfl) (fun _ _ _ h => h) (Or.inl ⟨by rfl, ?_⟩) (by assumption) ?_
      rotate_left
      · intro w hSw
        try dsimp only at hSw
        obtain ⟨hs0_, hs1_⟩ := hSw
        go_simp
        try with_reducible rfl
      try simp only [Act.put, List.setIfInBounds_toArray, List.set_cons_zero, List.set_cons_succ]
      refine wpAnyH_take (i := 9) (v := ?_) rfl (by kernel_rfl) (by kernel_rfl) (by kernel_rfl) (fun _ _ _ h => h) (Or.inl ⟨by rfl, ?_⟩) (by assumption) ?_
      rotate_left
      · intro w hSw
        try dsimp only at hSw
        obtain ⟨hs0_, hs1_⟩ := hSw
        go_simp
        try with_reducible rfl
      try simp only [Act.put, List.setIfInBounds_toArray, List.set_cons_zero, List.set_cons_succ]
      refine wpAnyH_take (i := 10) (v := ?_) rfl (by kernel_rfl) (by kernel_rfl) (by kernel_rfl) (fun _ _ _ h => h) (Or.inl ⟨by rfl, ?_⟩) (by assumption) ?_
      rotate_left
      · intro w hSw
        try dsimp only at hSw
        obtain ⟨hs0_, hs1_⟩ := hSw
        go_simp
        try with_reducible rfl
      try simp only [Act.put, List.setIfInBounds_toArray, List.set_cons_zero, List.set_cons_succ]
      try simp only [putAll, markAll, dstAt, Act.put, List.getElem_toArray, List.getElem?_toArray, List.getElem_cons_zero, List.getElem_cons_succ, List.getElem?_cons_zero, List.getElem?_cons_succ, Option.bind_some, List.setIfInBounds_toArray, List.set_cons_zero, List.set_cons_succ]
      refine wpAnyH_ready (rs := [11]) (by kernel_rfl) (by simp) ?_
      refine AllReadyH.cons rfl (fun K hK => ?_) ?_
      · go_simp
        refine hK.out _ _ ?_ (fun hHeld => ?_)
        · first | exact KS.out _ z2 | exact KS.out _ (below_drewN (Below.refl _ _) 1)
        clear hK K
        try simp only [Act.put, List.setIfInBounds_toArray, List.set_cons_zero, List.set_cons_succ]
        refine wpAnyH_done (by kernel_rfl) ?_ _
        have HQ := Lib.hid hq
        have z12 : Below w.heap.size w W2 := HZ1.out.trans (z2.mono HZ1.out.size)
        have H2 := Lib.hid (H1.out.below z2)
        have y0 : W2.cell? ⟨w.heap.size, 0, none⟩ = some (.int .i64 1) := (z2.cell (p := ⟨w.heap.size, 0, none⟩) hgs).trans x0
        have y1 : W2.cell? ⟨w.heap.size, 1, none⟩ = some (.int .i64 0) := (z2.cell (p := ⟨w.heap.size, 1, none⟩) hgs).trans x1
        have y3 : W2.cell? ⟨w.heap.size, 2, none⟩ = some (.int .i64 (B : Int)) := (z2.cell (p := ⟨w.heap.size, 2, none⟩) hgs).trans x2
        have y2 : W2.cell? ⟨g, 1, none⟩ = some (.slice SA 6 sc) := H2.out.box.cell 1
        have y4 : W2.cell? ⟨g, 2, none⟩ = some (.int .i64 (i : Int)) := H2.out.box.cell 2
        have HZ := Lib.hid z12
        clear KS HEV x0 x1 x2 x3 g1' z2 HZ1 H1 HB1 z12
        cases x with
        | nil =>
          obtain rfl : q = none := hq
          have f2 := H2.out.box.frozen 2
          have HS4 := Lib.hid (H2.out.setAt iB)
          go_wp2_with fail
          go_region
          go_wp2_with fail
          go_end0
          rw [HSP.out, if_pos (by first | rfl | trivial)]
          exact ⟨⟨_, rfl⟩, iB, LA, lc, L, HS4.out.1.drewN 1, HRA.out, ((KX.below HZ.out).trans HS4.out.2).trans (KX.drewN _ 1)⟩
        | nd xa xb =>
          obtain ⟨qa, _, _, rfl, _, _, _⟩ := hq
          go_upto_region 7 with fail
          have HL1 : Hid (ints ((i :: L).reverse.map fun j : Nat => (j : Int)) = ints (L.reverse.map fun j : Nat => (j : Int)) ++ [.int .i64 (i : Int)]) := Lib.hid (by simp [ints])
          have HLN : Hid (L.length ≤ 1000) := Lib.hid (by have := HR.out.len_le; omega)
          have KG := Lib.hid (fun w' (z : Below W2.heap.size W2 w') => H2.out.below z)
          have zc : Below W2.heap.size W2 W2.drew := below_drewN (Below.refl _ _) 1
          have kg : W2.drew.cell? ⟨g, 3, none⟩ = some (.slice LA L.length lc) := (KG.out _ zc).box.cell 3
          clear y0 y1 y2 y3 HQ
          refine wp_region_held_drew (S := (fun w' => w'.cell? ⟨g, 2, none⟩ = some (.int .i64 (i : Int)))) (by kernel_rfl) ?_ (fun hHeld => ?_)
          · exact (KG.out _ zc).box.cell 2
          generalize W2.drew = Wd at *
          refine wpAnyH_take (i := 0) (v := ?_) rfl (by kernel_rfl) (by kernel_rfl) (by kernel_rfl) (fun _ _ _ h => h) (Or.inl ⟨by rfl, ?_⟩) (by assumption) ?_
          rotate_left
          · intro w hSw
            try dsimp only at hSw
            go_simp
            try with_reducible rfl
          try simp only [Act.put, List.setIfInBounds_toArray, List.set_cons_zero, List.set_cons_succ]
          refine wpAnyH_take (i := 1) (v := ?_) rfl (by kernel_rfl) (by kernel_rfl) (by kernel_rfl) (fun _ _ _ h => h) (Or.inl ⟨by rfl, ?_⟩) (by assumption) ?_
          rotate_left
          · intro w hSw
            try dsimp only at hSw
            go_simp
            try with_reducible rfl
          try simp only [Act.put, List.setIfInBounds_toArray, List.set_cons_zero, List.set_cons_succ]
          refine wpAnyH_take (i := 2) (v := ?_) rfl (by kernel_rfl) (by kernel_rfl) (by kernel_rfl) (fun _ _ _ h => h) (Or.inl ⟨by rfl, ?_⟩) (by assumption) ?_
          rotate_left
          · intro w hSw
            try dsimp only at hSw
            go_simp
            try with_reducible rfl
          try simp only [Act.put, List.setIfInBounds_toArray, List.set_cons_zero, List.set_cons_succ]
          refine wpAnyH_take (i := 3) (v := ?_) rfl (by kernel_rfl) (by kernel_rfl) (by kernel_rfl) (fun _ _ _ h => h) (Or.inl ⟨by rfl, ?_⟩) (by assumption) ?_
          rotate_left
          · intro w hSw
            try dsimp only at hSw
            go_simp
            try with_reducible rfl
          try simp only [Act.put, List.setIfInBounds_toArray, List.set_cons_zero, List.set_cons_succ]
          refine wpAnyH_take (i := 5) (v := ?_) rfl (by kernel_rfl) (by kernel_rfl) (by kernel_rfl) (fun _ _ _ h => h) (Or.inl ⟨by rfl, ?_⟩) (by assumption) ?_
          rotate_left
          · intro w hSw
            try dsimp only at hSw
            go_simp
            try with_reducible rfl
          try simp only [Act.put, List.setIfInBounds_toArray, List.set_cons_zero, List.set_cons_succ]
          refine wpAnyH_take (i := 6) (v := ?_) rfl (by kernel_rfl) (by kernel_rfl) (by kernel_rfl) (fun _ _ _ h => h) (Or.inl ⟨by rfl, ?_⟩) (by assumption) ?_
          rotate_left
          · intro w hSw
            try dsimp only at hSw
            go_simp
            try with_reducible rfl
          try simp only [Act.put, List.setIfInBounds_toArray, List.set_cons_zero, List.set_cons_succ]
          refine wpAnyH_take (i := 7) (v := ?_) rfl (by kernel_rfl) (by kernel_rfl) (by kernel_rfl) (fun _ _ _ h => h) (Or.inl ⟨by rfl, ?_⟩) (by assumption) ?_
          rotate_left
          · intro w hSw
            try dsimp only at hSw
            go_simp
            try with_reducible rfl
          try simp only [Act.put, List.setIfInBounds_toArray, List.set_cons_zero, List.set_cons_succ]
          refine wpAnyH_take (i := 8) (v := ?_) rfl (by kernel_rfl) (by kernel_rfl) (by kernel_rfl) (fun _ _ _ h => h) (Or.inl ⟨by rfl, ?_⟩) (by assumption) ?_
          rotate_left
          · intro w hSw
            try dsimp only at hSw
            go_simp
            try with_reducible rfl
          try simp only [Act.put, List.setIfInBounds_toArray, List.set_cons_zero, List.set_cons_succ]
          try simp only [putAll, markAll, dstAt, Act.put, List.getElem_toArray, List.getElem?_toArray, List.getElem_cons_zero, List.getElem_cons_succ, List.getElem?_cons_zero, List.getElem?_cons_succ, Option.bind_some, List.setIfInBounds_toArray, List.set_cons_zero, List.set_cons_succ]
          refine wpAnyH_ready (rs := [4, 9]) (by kernel_rfl) (by simp) ?_
          refine AllReadyH.cons rfl (fun K hK => ?_) ?_
          · go_simp
            refine hK.out _ _ ?_ (fun hHeld => ?_)
            · first | exact hP.1.box.cell 2 | exact hP.2.2.cell 2 | exact (KG.out _ zc).box.cell 2
            clear hK K
            try simp only [Act.put, List.setIfInBounds_toArray, List.set_cons_zero, List.set_cons_succ]
            try simp only [putAll, markAll, dstAt, Act.put, List.getElem_toArray, List.getElem?_toArray, List.getElem_cons_zero, List.getElem_cons_succ, List.getElem?_cons_zero, List.getElem?_cons_succ, Option.bind_some, List.setIfInBounds_toArray, List.set_cons_zero, List.set_cons_succ]
            refine wpAnyH_ready (rs := [9]) (by kernel_rfl) (by simp) ?_
            refine AllReadyH.cons rfl (fun K hK => ?_) ?_
            · go_simp
              replace zc := zc.alloc zc.size (.cells #[.int .i64 (i : Int)] 3)
              replace kg := (KG.out _ zc).box.cell 3
              refine hK.out _ _ ?_ (fun hHeld => ?_)
              · first | exact hP.1.box.cell 2 | exact hP.2.2.cell 2 | exact (KG.out _ zc).box.cell 2
              clear hK K
              try simp only [Act.put, List.setIfInBounds_toArray, List.set_cons_zero, List.set_cons_succ]
              try simp only [putAll, markAll, dstAt, Act.put, List.getElem_toArray, List.getElem?_toArray, List.getElem_cons_zero, List.getElem_cons_succ, List.getElem?_cons_zero, List.getElem?_cons_succ, Option.bind_some, List.setIfInBounds_toArray, List.set_cons_zero, List.set_cons_succ]
              refine wpAnyH_ready (rs := [10]) (by kernel_rfl) (by simp) ?_
              refine AllReadyH.cons rfl (fun K hK => ?_) ?_
              · rw [if_pos (by rfl)]
                have hOW := KG.out _ zc
                refine wp_append_Own (.tmp 61) (.tmp 66) rfl elIn (lo := w0.heap.size) rfl hOW.loops rfl (Rd.new1 Wd _ _) (by intro u hu; simp at hu; subst hu; rfl) (by have := HLN.out; omega) (by have := HLN.out; simp only [maxLen]; omega) hOW.low ?_
                intro A2 c2 w3 o3 hg3 _
                have hP := hOW.push (by rw [HL1.out]; exact o3) hg3
                have kg := hP.2.2.cell 3
                have kf := hP.2.2.frozen 3
                refine hK.out _ _ ?_ (fun hHeld => ?_)
                · first | exact hP.1.box.cell 2 | exact hP.2.2.cell 2 | exact (KG.out _ zc).box.cell 2
                clear hK K
                try simp only [Act.put, List.setIfInBounds_toArray, List.set_cons_zero, List.set_cons_succ]
                refine wpAnyH_take (i := 11) (v := ?_) rfl (by kernel_rfl) (by kernel_rfl) (by kernel_rfl) (fun _ _ _ h => h) (Or.inl ⟨by rfl, ?_⟩) (by assumption) ?_
                rotate_left
                · intro w hSw
                  try dsimp only at hSw
                  go_simp
                  try with_reducible rfl
                try simp only [Act.put, List.setIfInBounds_toArray, List.set_cons_zero, List.set_cons_succ]
                refine wpAnyH_take (i := 12) (v := ?_) rfl (by kernel_rfl) (by kernel_rfl) (by kernel_rfl) (fun _ _ _ h => h) (Or.inl ⟨by rfl, ?_⟩) (by assumption) ?_
                rotate_left
                · intro w hSw
                  try dsimp only at hSw
                  go_simp
                  try with_reducible rfl
                try simp only [Act.put, List.setIfInBounds_toArray, List.set_cons_zero, List.set_cons_succ]
                try simp only [putAll, markAll, dstAt, Act.put, List.getElem_toArray, List.getElem?_toArray, List.getElem_cons_zero, List.getElem_cons_succ, List.getElem?_cons_zero, List.getElem?_cons_succ, Option.bind_some, List.setIfInBounds_toArray, List.set_cons_zero, List.set_cons_succ]
                refine wpAnyH_ready (rs := [13]) (by kernel_rfl) (by simp) ?_
                refine AllReadyH.cons rfl (fun K hK => ?_) ?_
                · go_simp
                  refine hK.out _ _ ?_ (fun hHeld => ?_)
                  · first | exact hP.1.box.cell 2 | exact hP.2.2.cell 2 | exact (KG.out _ zc).box.cell 2
                  clear hK K
                  try simp only [Act.put, List.setIfInBounds_toArray, List.set_cons_zero, List.set_cons_succ]
                  refine wpAnyH_done (by kernel_rfl) ?_ _
                  obtain ⟨W4, hW4⟩ : ∃ W4, W4 = w3.setCell ⟨g, 3, none⟩ (.slice A2 (L.length + 1) c2) := ⟨_, rfl⟩
                  rw [← hW4]
                  have H4 : WmI w0 W4 g (some ⟨pb, po, none⟩) n pc ts SA sc s i A2 c2 (i :: L) := by rw [hW4]; exact hP.1
                  have k4 : KX w W4 := by rw [hW4]; exact ((KX.below HZ.out).trans (KX.below zc)).trans hP.2.1
                  have g24 : W4.cell? ⟨g, 2, none⟩ = some (.int .i64 (i : Int)) := H4.box.cell 2
                  have f24 := H4.box.frozen 2
                  have HS5 := Lib.hid (H4.setAt i')
                  have HK4 := Lib.hid k4
                  clear hW4 H4 k4 kg kf o3 hg3 hOW zc
                  go_wp2_with fail
                  go_end0
                  rw [HSP.out, if_neg (by simp)]
                  exact ⟨⟨_, rfl⟩, i', A2, c2, i :: L, HS5.out.1, HRB.out, HK4.out.trans HS5.out.2⟩
                exact AllReadyH.nil
              exact AllReadyH.nil
            exact AllReadyH.nil
          refine AllReadyH.cons rfl (fun K hK => ?_) ?_
          · go_simp
            replace zc := zc.alloc zc.size (.cells #[.int .i64 (i : Int)] 3)
            replace kg := (KG.out _ zc).box.cell 3
            refine hK.out _ _ ?_ (fun hHeld => ?_)
            · first | exact hP.1.box.cell 2 | exact hP.2.2.cell 2 | exact (KG.out _ zc).box.cell 2
            clear hK K
            try simp only [Act.put, List.setIfInBounds_toArray, List.set_cons_zero, List.set_cons_succ]
            try simp only [putAll, markAll, dstAt, Act.put, List.getElem_toArray, List.getElem?_toArray, List.getElem_cons_zero, List.getElem_cons_succ, List.getElem?_cons_zero, List.getElem?_cons_succ, Option.bind_some, List.setIfInBounds_toArray, List.set_cons_zero, List.set_cons_succ]
            refine wpAnyH_ready (rs := [4]) (by kernel_rfl) (by simp) ?_
            refine AllReadyH.cons rfl (fun K hK => ?_) ?_
            · go_simp
              refine hK.out _ _ ?_ (fun hHeld => ?_)
              · first | exact hP.1.box.cell 2 | exact hP.2.2.cell 2 | exact (KG.out _ zc).box.cell 2
              clear hK K
              try simp only [Act.put, List.setIfInBounds_toArray, List.set_cons_zero, List.set_cons_succ]
              try simp only [putAll, markAll, dstAt, Act.put, List.getElem_toArray, List.getElem?_toArray, List.getElem_cons_zero, List.getElem_cons_succ, List.getElem?_cons_zero, List.getElem?_cons_succ, Option.bind_some, List.setIfInBounds_toArray, List.set_cons_zero, List.set_cons_succ]
              refine wpAnyH_ready (rs := [10]) (by kernel_rfl) (by simp) ?_
              refine AllReadyH.cons rfl (fun K hK => ?_) ?_
              · rw [if_pos (by rfl)]
                have hOW := KG.out _ zc
                refine wp_append_Own (.tmp 61) (.tmp 66) rfl elIn (lo := w0.heap.size) rfl hOW.loops rfl (Rd.new1 Wd _ _) (by intro u hu; simp at hu; subst hu; rfl) (by have := HLN.out; omega) (by have := HLN.out; simp only [maxLen]; omega) hOW.low ?_
                intro A2 c2 w3 o3 hg3 _
                have hP := hOW.push (by rw [HL1.out]; exact o3) hg3
                have kg := hP.2.2.cell 3
                have kf := hP.2.2.frozen 3
                refine hK.out _ _ ?_ (fun hHeld => ?_)
                · first | exact hP.1.box.cell 2 | exact hP.2.2.cell 2 | exact (KG.out _ zc).box.cell 2
                clear hK K
                try simp only [Act.put, List.setIfInBounds_toArray, List.set_cons_zero, List.set_cons_succ]
                refine wpAnyH_take (i := 11) (v := ?_) rfl (by kernel_rfl) (by kernel_rfl) (by kernel_rfl) (fun _ _ _ h => h) (Or.inl ⟨by rfl, ?_⟩) (by assumption) ?_
                rotate_left
                · intro w hSw
                  try dsimp only at hSw
                  go_simp
                  try with_reducible rfl
                try simp only [Act.put, List.setIfInBounds_toArray, List.set_cons_zero, List.set_cons_succ]
                refine wpAnyH_take (i := 12) (v := ?_) rfl (by kernel_rfl) (by kernel_rfl) (by kernel_rfl) (fun _ _ _ h => h) (Or.inl ⟨by rfl, ?_⟩) (by assumption) ?_
                rotate_left
                · intro w hSw
                  try dsimp only at hSw
                  go_simp
                  try with_reducible rfl
                try simp only [Act.put, List.setIfInBounds_toArray, List.set_cons_zero, List.set_cons_succ]
                try simp only [putAll, markAll, dstAt, Act.put, List.getElem_toArray, List.getElem?_toArray, List.getElem_cons_zero, List.getElem_cons_succ, List.getElem?_cons_zero, List.getElem?_cons_succ, Option.bind_some, List.setIfInBounds_toArray, List.set_cons_zero, List.set_cons_succ]
                refine wpAnyH_ready (rs := [13]) (by kernel_rfl) (by simp) ?_
                refine AllReadyH.cons rfl (fun K hK => ?_) ?_
                · go_simp
                  refine hK.out _ _ ?_ (fun hHeld => ?_)
                  · first | exact hP.1.box.cell 2 | exact hP.2.2.cell 2 | exact (KG.out _ zc).box.cell 2
                  clear hK K
                  try simp only [Act.put, List.setIfInBounds_toArray, List.set_cons_zero, List.set_cons_succ]
                  refine wpAnyH_done (by kernel_rfl) ?_ _
                  obtain ⟨W4, hW4⟩ : ∃ W4, W4 = w3.setCell ⟨g, 3, none⟩ (.slice A2 (L.length + 1) c2) := ⟨_, rfl⟩
                  rw [← hW4]
                  have H4 : WmI w0 W4 g (some ⟨pb, po, none⟩) n pc ts SA sc s i A2 c2 (i :: L) := by rw [hW4]; exact hP.1
                  have k4 : KX w W4 := by rw [hW4]; exact ((KX.below HZ.out).trans (KX.below zc)).trans hP.2.1
                  have g24 : W4.cell? ⟨g, 2, none⟩ = some (.int .i64 (i : Int)) := H4.box.cell 2
                  have f24 := H4.box.frozen 2
                  have HS5 := Lib.hid (H4.setAt i')
                  have HK4 := Lib.hid k4
                  clear hW4 H4 k4 kg kf o3 hg3 hOW zc
                  go_wp2_with fail
                  go_end0
                  rw [HSP.out, if_neg (by simp)]
                  exact ⟨⟨_, rfl⟩, i', A2, c2, i :: L, HS5.out.1, HRB.out, HK4.out.trans HS5.out.2⟩
                exact AllReadyH.nil
              exact AllReadyH.nil
            exact AllReadyH.nil
          exact AllReadyH.nil
      exact AllReadyH.nil
    exact AllReadyH.nil
end Go.Proofs.Ytfheepjfpgiaoaa

/-
  Contracts of impl's follows, termEnd over nodes, IsTree, areTrees.
-/
namespace Go.Proofs.Ytfheepjfpgiaoaa
open Go.RowKit

theorem follows_any (b : Bool) (w : World) : Calls Try.prog 182 #[.bool b] w fun e w' => e = .returned (.int .i64 ((fB b : Nat) : Int)) ∧ w = w' := by
  cases b with
  | true =>
    go_enter Try.func182, Try.ntmps182
    go_wp2_with fail
    go_ret
    exact ⟨rfl, rfl⟩
  | false =>
    go_enter Try.func182, Try.ntmps182
    go_wp2_with fail
    go_ret
    exact ⟨rfl, rfl⟩
theorem sizeBool_any (A : Option Addr) (n c : Nat) (w : World) (_hn : n ≤ 9223372036854775807) :
    Calls Try.prog 107 #[.slice A n c] w fun e w' => e = .returned (.int .i64 n) ∧ w = w' := by
  go_enter Try.func107, Try.ntmps107
  go_wp2
  go_ret
  exact ⟨rfl, rfl⟩
theorem fB_le (b : Bool) : fB b ≤ 2 := by cases b <;> decide
set_option maxRecDepth 100000 in
set_option maxHeartbeats 1000000 in
theorem termEndB_any (A : Option Addr) (n c : Nat) (bs : List Bool) (w : World) (hx : SB w A n bs) (hn : n ≤ 1152921504606846976) :
    Calls Try.prog 181 #[.slice A n c, .int .i64 0, .func (.func 182) #[] #[]] w fun e w' => e = .returned (.int .i64 (endV fB bs 1 0)) ∧ w = w' := by
  have HL := Lib.hid hx.len
  have hcall := Try.call182
  go_enter Try.func181, Try.ntmps181
  go_wp2_with fail
  go_loop [1, 7] (fun s1 s7 => ∃ k o : Nat, k ≤ n ∧ o ≤ k + 1 ∧ s1 = .int .i64 (k : Int) ∧ s7 = .int .i64 (o : Int) ∧ Hid (endV fB bs o k = endV fB bs 1 0)) (fun s1 _ => n - (intOf s1).toNat)
  case atStart => exact ⟨0, 1, by omega, by omega, rfl, rfl, rfl⟩
  case round =>
    obtain ⟨k, o, hk, ho, rfl, rfl, he⟩ := hrel
    by_cases h0 : o = 0
    · subst h0
      have HE : Hid (endV fB bs 1 0 = (k : Int)) := Lib.hid (by rw [← he.out, endV_zero])
      have i1 : ¬ ((0 : Nat) : Int) > 0 := by omega
      go_wp2_with fail
      go_ret
      exact ⟨ret_int HE.out.symm, rfl⟩
    · have i1 : ((o : Nat) : Int) > 0 := by omega
      have i0 : 0 < o := by omega
      by_cases hlt : k < n
      · obtain ⟨b, g, off, HT, rfl, _, hc⟩ := hx.pick hlt
        have HN := Lib.hid (endV_next fB (l := bs) (o := o) i0 HT.out)
        have hf := fB_le b
        have HF := Lib.hid (follows_any b w)
        obtain ⟨f, hff⟩ : ∃ f, fB b = f := ⟨_, rfl⟩
        rw [hff] at HN hf HF
        have w1 : IntKind.i64.wrap ((f : Int) - 1) = (f : Int) - 1 := IntWalk.i64_in _ (by omega)
        have w2 : IntKind.i64.wrap ((o : Int) + ((f : Int) - 1)) = ((o - 1 + f : Nat) : Int) := by rw [IntWalk.i64_in _ (by omega)]; omega
        have w3 : IntKind.i64.wrap ((k : Int) + 1) = ((k + 1 : Nat) : Int) := by rw [IntWalk.i64_in _ (by omega)]; omega
        have hfo : o - 1 + f ≤ k + 1 + 1 := by omega
        obtain ⟨o', ho'⟩ : ∃ o', o - 1 + f = o' := ⟨_, rfl⟩
        rw [ho'] at w2 hfo HN
        clear hff hf ho'
        go_wp2_with (refine HF.out.mono ?_; rintro e w' ⟨rfl, rfl⟩)
        go_round
        case rel => exact ⟨k + 1, o', by omega, by omega, by go_num, rfl, Lib.hid (by rw [← HN.out]; exact he.out)⟩
        case measure => (simp [intOf] <;> omega)
      · have HE : Hid (endV fB bs 1 0 = -1) := Lib.hid (by rw [← he.out]; exact endV_out fB i0 (by rw [HL.out]; omega))
        go_wp2_with fail
        go_ret
        exact ⟨ret_int HE.out.symm, rfl⟩
set_option maxHeartbeats 1000000 in
theorem isTree_any (A : Option Addr) (n c : Nat) (bs : List Bool) (w : World) (hx : SB w A n bs) (hn : n ≤ 1152921504606846976) :
    Calls Try.prog 98 #[.slice A n c] w fun e w' => e = .returned (.bool (treeB bs)) ∧ w = w' := by
  have HL := Lib.hid hx.len
  have HT := Lib.hid (termEndB_any A n c bs w hx hn)
  have HS := Lib.hid (endV_whole (l := bs))
  rw [hx.len] at HS
  cases hin : inB (n : Int) 1 2000 with
  | false =>
    have HI := Lib.hid hin
    have HF : Hid (treeB bs = false) := Lib.hid (by
      have h1 : ¬ (1 ≤ (n : Int) ∧ (n : Int) ≤ 2000) := fun h => by rw [(inB_iff _ _ _).2 h] at hin; cases hin
      rcases Nat.eq_zero_or_pos n with h0 | h0
      · rw [show bs = [] from List.eq_nil_of_length_eq_zero (by rw [HL.out, h0])]; rfl
      · exact treeB_long (by rw [HL.out]; omega))
    clear hin
    go_enter Try.func98, Try.ntmps98
    go_wp2_with (first | (go_at_call 107; refine (sizeBool_any _ _ _ _ (by omega)).mono ?_; rintro e w' ⟨rfl, rfl⟩) | (go_at_call 109; refine (within_is HI.out _).mono ?_; rintro e w' ⟨rfl, rfl⟩))
    go_ret
    exact ⟨ret_bool HF.out.symm, rfl⟩
  | true =>
    have HI := Lib.hid hin
    have HF : Hid (treeB bs = wholeB bs) := Lib.hid (by
      have h1 := (inB_iff _ _ _).1 hin
      unfold treeB; rw [decide_eq_true (by rw [HL.out]; omega), Bool.true_and])
    clear hin
    obtain ⟨V, hV⟩ : ∃ V, endV fB bs 1 0 = V := ⟨_, rfl⟩
    rw [hV] at HT HS
    clear hV
    have hS2 : (V == (n : Int)) = treeB bs := by rw [HF.out]; exact HS.out
    obtain ⟨r, hr⟩ : ∃ r, treeB bs = r := ⟨_, rfl⟩
    rw [hr] at hS2 ⊢
    clear HF hr
    go_enter Try.func98, Try.ntmps98
    go_wp2_with (first | (go_at_call 107; refine (sizeBool_any _ _ _ _ (by omega)).mono ?_; rintro e w' ⟨rfl, rfl⟩) | (go_at_call 109; refine (within_is HI.out _).mono ?_; rintro e w' ⟨rfl, rfl⟩) | (go_at_call 181; refine HT.out.mono ?_; rintro e w' ⟨rfl, rfl⟩))
    go_ret
    exact ⟨rfl, rfl⟩
theorem areTrees1_any (A : Option Addr) (n c : Nat) (bs : List Bool) (w : World) (hx : SB w A n bs) (hn : n ≤ 1152921504606846976) :
    Calls Try.prog 179 #[.slice A n c] w fun e w' => e = .returned (.bool (!treeB bs)) ∧ w = w' := by
  go_enter Try.func179, Try.ntmps179
  go_wp2_with (go_at_call 98; refine (isTree_any _ _ _ _ _ hx hn).mono ?_; rintro e w' ⟨rfl, rfl⟩)
  go_ret
  exact ⟨rfl, rfl⟩
end Go.Proofs.Ytfheepjfpgiaoaa

/-
  Contract of impl's treeOf.
-/
namespace Go.Proofs.Ytfheepjfpgiaoaa
open Go.RowKit

theorem KT.kb {w w' : World} {b : Nat} {t : TypeId} {cur : Array Value} (k : Kb b w w') (hb : Blk w b t cur) (ht : t ≠ 224) : KT w w' := fun g cs x => k.blk_ x (fun e => by
  subst e
  have h1 := Eq.trans (Eq.symm hb) x
  simp at h1
  exact ht h1.2)
theorem SB.kb {w w' : World} {b : Nat} {A : Option Addr} {n : Nat} {bs : List Bool} (h : SB w A n bs) (k : Kb b w w') (hA : blk A ≠ some b) : SB w' A n bs :=
  Rd.keep h fun p hp e => World.cell?_of_block (k.block p.block hp (fun e2 => hA (by rw [← e, e2])))
theorem pre_at {l : List Bool} {k : Nat} {x : Bool} {r : List Bool} (h : l.drop k = x :: r) : l[k]? = some x ∧ l.drop (k + 1) = r := by
  have h1 := congrArg (·[0]?) h
  refine ⟨by simpa using h1, ?_⟩
  rw [← List.drop_drop, h]; rfl
theorem pre_tree {l : List Bool} {k : Nat} {t : Tr} {r : List Bool} (h : l.drop k = t.enc ++ r) : l.drop (k + t.nodes) = r := by
  rw [← List.drop_drop, h, ← enc_len, List.drop_left]
/-- The nodes of a tree are built; the place goes on behind them. -/
def BuildP (w : World) (t : Tr) (kb k : Nat) (e : Ending) (w' : World) : Prop := ∃ p, e = .returned (.pointer p) ∧ TrAt w' t p ∧ Blk w' kb 3 #[.int .i64 ((k + t.nodes : Nat) : Int)] ∧ Kb kb w w'
/-- What treeOf's own function finds. -/
structure BuildI (w : World) (A : Option Addr) (n c : Nat) (bs : List Bool) (tb kb bb k : Nat) : Prop where
  nodes : SB w A n bs
  far : blk A ≠ some kb
  bt : Blk w tb 43 #[.slice A n c]
  bk : Blk w kb 3 #[.int .i64 (k : Int)]
  bf : Blk w bb 132 #[.func (.func 186) #[] #[.pointer (some ⟨tb, 0, none⟩), .pointer (some ⟨kb, 0, none⟩), .pointer (some ⟨bb, 0, none⟩)]]
theorem Blk.ne {w : World} {a b : Nat} {s t : TypeId} {cs ds : Array Value} (h : Blk w a s cs) (h' : Blk w b t ds) (hst : s ≠ t) : a ≠ b := by
  rintro rfl
  have h1 := Eq.trans (Eq.symm h) h'
  simp at h1
  exact hst h1.2
theorem BuildI.kb {w w' : World} {A : Option Addr} {n c : Nat} {bs : List Bool} {tb kb bb k k' : Nat} (h : BuildI w A n c bs tb kb bb k) (z : Kb kb w w') (b : Blk w' kb 3 #[.int .i64 (k' : Int)]) : BuildI w' A n c bs tb kb bb k' :=
  ⟨h.nodes.kb z h.far, h.far, z.blk_ h.bt (h.bt.ne h.bk (by decide)), b, z.blk_ h.bf (h.bf.ne h.bk (by decide))⟩
set_option maxRecDepth 100000 in
set_option maxHeartbeats 2000000 in
theorem build_any (A : Option Addr) (n c tb kb bb : Nat) (bs : List Bool) (hn : n ≤ 2000) : ∀ (t : Tr) (rest : List Bool) (k : Nat) (w : World), bs.drop k = t.enc ++ rest → BuildI w A n c bs tb kb bb k →
    Calls Try.prog 186 #[.pointer (some ⟨tb, 0, none⟩), .pointer (some ⟨kb, 0, none⟩), .pointer (some ⟨bb, 0, none⟩)] w (BuildP w t kb k) := by
  intro t
  have hcall := Try.call186
  induction t with
  | nil =>
    intro rest k w hd h
    obtain ⟨hk, _⟩ := pre_at (x := false) (r := rest) hd
    have hkn : k < n := by have := (List.getElem?_eq_some_iff.1 hk).1; have := h.nodes.len; omega
    obtain ⟨b, g, off, HT, rfl, _, hc⟩ := h.nodes.pick hkn
    obtain rfl : b = false := by have := HT.out; rw [hk] at this; cases this; rfl
    have t0 : w.cell? ⟨tb, 0, none⟩ = some (.slice (some ⟨g, off, none⟩) n c) := h.bt.cell 0
    have k0 : w.cell? ⟨kb, 0, none⟩ = some (.int .i64 (k : Int)) := h.bk.cell 0
    have f0 := h.bk.frozen 0
    have i1 : (0 : Int) ≤ (k : Int) := by omega
    have i2 : (k : Int) < (n : Int) := by omega
    have w1 : IntKind.i64.wrap ((k : Int) + 1) = ((k + 1 : Nat) : Int) := by rw [IntWalk.i64_in _ (by omega)]; omega
    obtain ⟨k2, hk2⟩ : ∃ k2, k + 1 = k2 := ⟨_, rfl⟩
    rw [hk2] at w1
    have hb := h.bk.set_ 0 (.int .i64 (k2 : Int))
    have HR : Hid (BuildP w .nil kb k (.returned (.pointer none)) (w.setCell ⟨kb, 0, none⟩ (.int .i64 (k2 : Int)))) := Lib.hid ⟨none, rfl, rfl, by rw [show k + Tr.nil.nodes = k2 from hk2]; exact hb, (Kb.refl kb w).set_ 0 _⟩
    clear hk hd h HT hk2 hb
    go_enter Try.func186, Try.ntmps186
    go_wp2_with fail
    go_ret
    exact HR.out
  | nd a b iha ihb =>
    intro rest k w hd h
    rw [Tr.enc, List.cons_append, List.append_assoc] at hd
    obtain ⟨hk, hd1⟩ := pre_at hd
    have hd2 := pre_tree hd1
    have hkn : k < n := by have := (List.getElem?_eq_some_iff.1 hk).1; have := h.nodes.len; omega
    have hkm : k + 1 + a.nodes + b.nodes ≤ n := by
      have h1 := congrArg List.length hd
      have h2 := h.nodes.len
      rw [List.length_drop, List.length_cons, List.length_append, List.length_append, enc_len, enc_len] at h1
      omega
    obtain ⟨x, g, off, HT, rfl, _, hc⟩ := h.nodes.pick hkn
    obtain rfl : x = true := by have := HT.out; rw [hk] at this; cases this; rfl
    have t0 : w.cell? ⟨tb, 0, none⟩ = some (.slice (some ⟨g, off, none⟩) n c) := h.bt.cell 0
    have k0 : w.cell? ⟨kb, 0, none⟩ = some (.int .i64 (k : Int)) := h.bk.cell 0
    have f0 := h.bk.frozen 0
    have i1 : (0 : Int) ≤ (k : Int) := by omega
    have i2 : (k : Int) < (n : Int) := by omega
    have w1 : IntKind.i64.wrap ((k : Int) + 1) = ((k + 1 : Nat) : Int) := by rw [IntWalk.i64_in _ (by omega)]; omega
    obtain ⟨k2, hk2⟩ : ∃ k2, k + 1 = k2 := ⟨_, rfl⟩
    rw [hk2] at w1 hd1 hd2 hkm
    obtain ⟨W, hW⟩ : ∃ W, w.setCell ⟨kb, 0, none⟩ (.int .i64 (k2 : Int)) = W := ⟨_, rfl⟩
    have z1 : Kb kb w W := by rw [← hW]; exact (Kb.refl kb w).set_ 0 _
    have h1 : BuildI W (some ⟨g, off, none⟩) n c bs tb kb bb k2 := h.kb z1 (by rw [← hW]; exact h.bk.set_ 0 _)
    have HA := Lib.hid (iha _ k2 W hd1 h1)
    have HW := Lib.hid hW
    have HK2 := Lib.hid hk2
    have b0 : W.cell? ⟨bb, 0, none⟩ = some (.func (.func 186) #[] #[.pointer (some ⟨tb, 0, none⟩), .pointer (some ⟨kb, 0, none⟩), .pointer (some ⟨bb, 0, none⟩)]) := h1.bf.cell 0
    clear hk hd h HT hk2 hd1 hW iha
    go_enter Try.func186, Try.ntmps186
    go_upto_region 3 with fail
    rw [HW.out]
    go_wp2_with fail
    refine HA.out.mono ?_
    rintro e W2 ⟨p, rfl, hp, hb2, z2⟩
    have h2 := h1.kb z2 hb2
    have HB := Lib.hid (ihb _ _ W2 hd2 h2)
    have b2 : W2.cell? ⟨bb, 0, none⟩ = some (.func (.func 186) #[] #[.pointer (some ⟨tb, 0, none⟩), .pointer (some ⟨kb, 0, none⟩), .pointer (some ⟨bb, 0, none⟩)]) := h2.bf.cell 0
    clear HA h1 hb2 ihb
    go_wp2_with fail
    refine HB.out.mono ?_
    rintro e W3 ⟨q, rfl, hq, hb3, z3⟩
    have hp3 := hp.kt (KT.kb z3 h2.bk (by decide))
    have HP := Lib.hid (pair_any a b p q W3 hp3 hq (by omega))
    have HR := Lib.hid (TrAt.new hp3 hq)
    have HBK : Hid (∀ o, Blk (W3.alloc o) kb 3 #[.int .i64 ((k + (Tr.nd a b).nodes : Nat) : Int)]) := Lib.hid (fun o => by
      have h5 : k2 + a.nodes + b.nodes = k + (Tr.nd a b).nodes := by have := HK2.out; rw [Tr.nodes]; omega
      rw [← h5]
      exact hb3.alloc o)
    have z4 := (z1.trans z2).trans z3
    clear HB h2 hb3 hp hp3 hq
    go_wp2_with (go_at_call 175; refine HP.out.mono ?_; rintro e W4 ⟨rfl, rfl⟩)
    go_ret
    exact ⟨_, rfl, HR.out, HBK.out _, z4.alloc _⟩
end Go.Proofs.Ytfheepjfpgiaoaa
