/-
  Contract of impl's runTrees.
-/
import Derived.Test.YtfheepjfpgiaoaaWmR
import Derived.Defers
namespace Go.Proofs.Ytfheepjfpgiaoaa
open Go.RowKit

/-- Cells of boxes that are no nodes and no slice of pointers are written. -/
theorem StOwn.setBox {w : World} {lo : Nat} {SA : Option Addr} {sc g i : Nat} {s : List Tr} {t : TypeId} {cur : Array Value} (h : StOwn w lo SA sc s) (hb : Blk w g t cur) (h1 : t ≠ 224) (h2 : t ≠ 124) (u : Value) : StOwn (w.setCell ⟨g, i, none⟩ u) lo SA sc s := by
  obtain ⟨ps, e1, e2, h3, h4⟩ := h
  exact ⟨ps, e1, e2, h3.far (p := ⟨g, i, none⟩) (hb.apt h3 h2) u, fun k t hk => by obtain ⟨p, e, ht⟩ := h4 k t hk; exact ⟨p, e, ht.kt (KT.setCell hb h1 u)⟩⟩
theorem WmI.setBox {w0 w : World} {g x j : Nat} {PA : Option Addr} {n pc : Nat} {ts : List Ce} {SA : Option Addr} {sc : Nat} {s : List Tr} {i : Nat} {LA : Option Addr} {lc : Nat} {L : List Nat} {cur : Array Value} (h : WmI w0 w g PA n pc ts SA sc s i LA lc L) (hb : Blk w x 2 cur) (hx : w0.heap.size ≤ x) (u : Value) : WmI w0 (w.setCell ⟨x, j, none⟩ u) g PA n pc ts SA sc s i LA lc L := by
  have hs : StOwn (w.setCell ⟨x, j, none⟩ u) w0.heap.size SA sc s := StOwn.setBox h.store hb (by decide) (by decide) u
  exact ⟨h.base.setCell (p := ⟨x, j, none⟩) hx _, h.prog, h.glo, h.box.far (p := ⟨x, j, none⟩) (h.box.ne hb (by decide)) _, hs, h.loops.far (p := ⟨x, j, none⟩) (hb.apt h.loops (by decide)) _⟩
/-- What a run leaves. -/
def RunT (w0 : World) (SA : Option Addr) (sc : Nat) (r : Option (List Tr × Nat × Bool)) (e : Ending) (w' : World) : Prop :=
  Below w0.heap.size w0 w' ∧ match r with
  | some (s, k, d) => e = .returned (.tuple #[.int .i64 (k : Int), .bool d, .int .i64 0]) ∧ StOwn w' w0.heap.size SA sc s
  | none => e = .returned (.tuple #[.int .i64 0, .bool false, .int .i64 5]) ∧ ∃ s, StOwn w' w0.heap.size SA sc s
theorem Rel.next {l : List Cmd} {L : List Nat} {S : List Pg} {i : Nat} {p : Pg} (h : Rel l L S i p) (hd : doneW p S = false) : (normW p S).1 ≠ .done := by
  cases h with
  | base h _ _ =>
    cases p with
    | done => cases hd
    | set v e r => simp [normW]
    | wh e b r => simp [normW]
  | loop h _ _ _ _ =>
    cases p with
    | done => simp [normW]
    | set v e r => simp [normW]
    | wh e b r => simp [normW]
theorem step_nodes {p : Pg} {S : List Pg} {s : List Tr} (hs : ∀ t ∈ s, t.nodes ≤ 2000) {p' : Pg} {S' : List Pg} {s' : List Tr} (h : stepW p S s = some (p', S', s')) : ∀ t ∈ s', t.nodes ≤ 2000 := by
  cases p with
  | done => cases h; exact hs
  | set v e r =>
    have h1 : (e.ev s).map (fun x => (r, S, s.set v x)) = some (p', S', s') := h
    cases hx : e.ev s with
    | none => rw [hx] at h1; cases h1
    | some x =>
      rw [hx] at h1
      cases h1
      intro t ht
      rcases List.mem_or_eq_of_mem_set ht with h2 | h2
      · exact hs t h2
      · rw [h2]; exact ev_nodes hs e x hx
  | wh e b r =>
    have h1 : (e.ev s).map (fun x => if x = .nil then (r, S, s) else (b, .wh e b r :: S, s)) = some (p', S', s') := h
    cases hx : e.ev s with
    | none => rw [hx] at h1; cases h1
    | some x =>
      rw [hx] at h1
      have h2 : (if x = .nil then (r, S, s) else (b, .wh e b r :: S, s)) = (p', S', s') := Option.some.inj h1
      split at h2 <;> (cases h2; exact hs)
theorem goW_done {f n : Nat} {p : Pg} {S : List Pg} {s : List Tr} (h : doneW p S = true) : goW f n p S s = some (s, n, true) := by
  cases f with
  | zero => rw [goW, h]
  | succ f => rw [goW, if_pos h]
theorem goW_zero {n : Nat} {p : Pg} {S : List Pg} {s : List Tr} (h : doneW p S = false) : goW 0 n p S s = some (s, n, false) := by rw [goW, h]
theorem goW_none {f n : Nat} {p : Pg} {S : List Pg} {s : List Tr} (h : doneW p S = false) (hs : stepW (normW p S).1 (normW p S).2 s = none) : goW (f + 1) n p S s = none := by rw [goW, if_neg (by rw [h]; decide), hs]
theorem goW_some {f n : Nat} {p p' : Pg} {S S' : List Pg} {s s' : List Tr} (h : doneW p S = false) (hs : stepW (normW p S).1 (normW p S).2 s = some (p', S', s')) : goW (f + 1) n p S s = goW f (n + 1) p' S' s' := by rw [goW, if_neg (by rw [h]; decide), hs]
/-- The three results are written. -/
theorem RunT.of {w0 w w' : World} {SA : Option Addr} {sc : Nat} {s : List Tr} {x k : Nat} {d : Bool} {v0 v1 v2 : Value} (hz : Below w0.heap.size w0 w) (hl : w0.heap.size ≤ x) (h0 : Blk w x 2 #[v0]) (h1 : Blk w (x + 1) 4 #[v1]) (h2 : Blk w (x + 1 + 1) 2 #[v2]) (hs : StOwn w w0.heap.size SA sc s)
    (hw : w' = ((w.setCell ⟨x, 0, none⟩ (.int .i64 (k : Int))).setCell ⟨x + 1, 0, none⟩ (.bool d)).setCell ⟨x + 1 + 1, 0, none⟩ (.int .i64 0)) :
    Below w0.heap.size w0 w' ∧ StOwn w' w0.heap.size SA sc s ∧ Blk w' x 2 #[.int .i64 (k : Int)] ∧ Blk w' (x + 1) 4 #[.bool d] ∧ Blk w' (x + 1 + 1) 2 #[.int .i64 0] := by
  have n1 : x ≠ x + 1 := by omega
  have n2 : x ≠ x + 1 + 1 := by omega
  have n3 : x + 1 ≠ x + 1 + 1 := by omega
  have h1a := h1.far (p := ⟨x, 0, none⟩) (Ne.symm n1) (.int .i64 (k : Int))
  have h2a := h2.far (p := ⟨x, 0, none⟩) (Ne.symm n2) (.int .i64 (k : Int))
  have h2b := h2a.far (p := ⟨x + 1, 0, none⟩) (Ne.symm n3) (.bool d)
  subst hw
  refine ⟨((hz.setCell (p := ⟨x, 0, none⟩) hl _).setCell (p := ⟨x + 1, 0, none⟩) (by show _ ≤ x + 1; omega) _).setCell (p := ⟨x + 1 + 1, 0, none⟩) (by show _ ≤ x + 1 + 1; omega) _, ((hs.setBox h0 (by decide) (by decide) _).setBox h1a (by decide) (by decide) _).setBox h2b (by decide) (by decide) _, ?_, ?_, ?_⟩
  · exact ((h0.set_ 0 _).far (p := ⟨x + 1, 0, none⟩) n1 _).far (p := ⟨x + 1 + 1, 0, none⟩) n2 _
  · exact (h1a.set_ 0 _).far (p := ⟨x + 1 + 1, 0, none⟩) n3 _
  · exact h2b.set_ 0 _
def leftT (bud b : Nat) (w : World) : Nat :=
  match w.cell? ⟨b, 0, none⟩ with
  | some (.int _ v) => ((bud : Int) - v).toNat
  | _ => 0
set_option maxRecDepth 100000 in
set_option maxHeartbeats 4000000 in
theorem runTrees_any (w0 w : World) (PA : Option Addr) (n pc : Nat) (ts : List Ce) (SA : Option Addr) (sc : Nat) (s0 : List Tr) (bud : Nat) (pg : Pg) (hz0 : Below w0.heap.size w0 w) (hx : SC w0 PA n ts) (hn : n ≤ 1000) (hpg : cmds ts = pg.enc) (hok : pg.ok) (hst : StOwn w w0.heap.size SA sc s0) (hs0 : ∀ t ∈ s0, t.nodes ≤ 2000) (hb : bud ≤ 1000000) :
    Calls Try.prog 71 #[.slice PA n pc, .slice SA 6 sc, .int .i64 (bud : Int)] w (RunT w0 SA sc (goW bud 0 pg [] s0)) := by
  obtain ⟨R, hR⟩ : ∃ R, goW bud 0 pg [] s0 = R := ⟨_, rfl⟩
  rw [hR]
  have hmf : ∀ (fn : Fn) (first cap : Array Value) (w : World), (Instr.makeFunc fn first cap).run Try.prog w = .ok (.func fn first cap) w := fun _ _ _ _ => rfl
  obtain ⟨W1, hW_⟩ : ∃ W, W = ((w.alloc (.cells #[.int .i64 0] 2)).alloc (.cells #[.bool false] 4)).alloc (.cells #[.int .i64 0] 2) := ⟨_, rfl⟩
  have s_1 : (w.alloc (.cells #[.int .i64 0] 2)).heap.size = w.heap.size + 1 := by simp
  have s_2 : ((w.alloc (.cells #[.int .i64 0] 2)).alloc (.cells #[.bool false] 4)).heap.size = w.heap.size + 1 + 1 := by simp
  have b0 : Blk W1 w.heap.size 2 #[.int .i64 0] := by rw [hW_]; exact ((Blk.new w _ _).alloc _).alloc _
  have b1 : Blk W1 (w.heap.size + 1) 4 #[.bool false] := by rw [hW_, ← s_1]; exact (Blk.new _ _ _).alloc _
  have b2 : Blk W1 (w.heap.size + 1 + 1) 2 #[.int .i64 0] := by rw [hW_, ← s_2]; exact Blk.new _ _ _
  have y1 : Below w.heap.size w W1 := by rw [hW_]; exact (((Below.refl _ _).alloc (Nat.le_refl _) _).alloc (by simp) _).alloc (by simp; omega) _
  have HW1 := Lib.hid hW_
  clear hW_ s_1 s_2
  obtain ⟨x, hxx⟩ : ∃ x, x = w.heap.size := ⟨_, rfl⟩
  have hlow := hz0.size
  have hz1 : Below w0.heap.size w0 W1 := hz0.trans (y1.mono hlow)
  obtain ⟨W2, hW_⟩ : ∃ W_, W_ = W1.alloc (.cells #[.slice PA n pc, .slice SA 6 sc, .int .i64 0, .slice none 0 0] 199) := ⟨_, rfl⟩
  have bm : Blk W2 W1.heap.size 199 #[.slice PA n pc, .slice SA 6 sc, .int .i64 0, .slice none 0 0] := by rw [hW_]; exact Blk.new W1 _ _
  have z2 : Below W1.heap.size W1 W2 := by rw [hW_]; exact (Below.refl _ _).alloc (Nat.le_refl _) _
  have HW2 := Lib.hid hW_
  clear hW_
  have hW1 : W1.heap.size = w.heap.size + 1 + 1 + 1 := by rw [HW1.out]; simp
  have hM : WmI w0 W2 W1.heap.size PA n pc ts SA sc s0 0 none 0 [] := ⟨hz1.trans (z2.mono hz1.size), hx, hz1.size, bm, hst.below (y1.trans (z2.mono y1.size)), Own.nil⟩
  have c0 := b0.below' z2
  have c1 := b1.below' z2
  have c2 := b2.below' z2
  have HM := Lib.hid hM
  have HSZ := Lib.hid hW1
  have HLOW := Lib.hid hlow
  go_enter_defers Try.func71, Try.ntmps71
  go_upto_region 1 with fail
  rw [← HW1.out]
  clear b0 b1 b2 bm hst hM z2 y1 hW1 hxx hz1
  go_upto_region 2 with fail
  rw [← HW2.out]
  generalize hgv : W1.heap.size = gv at *
  have HGV := Lib.hid hgv
  clear hgv
  have hcall := Try.call153
  go_wp2_with fail
  go_loopw [] (fun wr => ∃ (f nn : Nat) (p : Pg) (S : List Pg) (s : List Tr) (i : Nat) (LA : Option Addr) (lc : Nat) (L : List Nat), nn + f = bud ∧ Hid (WmI w0 wr gv PA n pc ts SA sc s i LA lc L) ∧ Hid (Rel (cmds ts) L S i p) ∧ Hid (Blk wr w.heap.size 2 #[.int .i64 (nn : Int)]) ∧ Hid (Blk wr (w.heap.size + 1) 4 #[.bool false]) ∧ Hid (Blk wr (w.heap.size + 1 + 1) 2 #[.int .i64 0]) ∧ Hid (∀ t ∈ s, t.nodes ≤ 2000) ∧ Hid (goW f nn p S s = R)) (fun wr => leftT bud w.heap.size wr)
  case atStart => exact ⟨bud, 0, pg, [], s0, 0, none, 0, [], by omega, HM, Lib.hid (.base (by rw [List.drop_zero]; exact hpg) (Nat.zero_le _) hok), Lib.hid c0, Lib.hid c1, Lib.hid c2, Lib.hid hs0, Lib.hid hR⟩
  case round =>
    obtain ⟨f, nn, p, S, s, i, LA, lc, L, hnf, HI, HRL, HB0, HB1, HB2, HSN, HG⟩ := hrel
    clear HM hx c0 c1 c2 hs0 hR hz0
    have HE := Lib.hid (ended_any w0 gv PA n pc ts SA sc s i LA lc L p S wr HI.out HRL.out hn)
    cases hd : doneW p S with
    | true =>
          have HD := Lib.hid hd
          rw [hd] at HE
          clear hd
          go_wp2_with fail
          refine HE.out.mono ?_
          rintro e W3 ⟨rfl, i3, LA3, lc3, L3, h3, hr3, kx⟩
          have d0 := kx _ _ _ HB0.out (by decide) (by decide) (by decide)
          have d1 := kx _ _ _ HB1.out (by decide) (by decide) (by decide)
          have d2 := kx _ _ _ HB2.out (by decide) (by decide) (by decide)
          have a0 : W3.cell? ⟨w.heap.size, 0, none⟩ = some (.int .i64 (nn : Int)) := d0.cell 0
          have b0 : W3.cell? ⟨(w.heap.size + 1), 0, none⟩ = some (.bool false) := d1.cell 0
          have c0 : W3.cell? ⟨(w.heap.size + 1 + 1), 0, none⟩ = some (.int .i64 0) := d2.cell 0
          have fa0 := d0.frozen 0
          have fb0 := d1.frozen 0
          have fc0 := d2.frozen 0
          obtain ⟨W6, hW6⟩ : ∃ W6, W6 = ((W3.setCell ⟨w.heap.size, 0, none⟩ (.int .i64 (nn : Int))).setCell ⟨w.heap.size + 1, 0, none⟩ (.bool true)).setCell ⟨w.heap.size + 1 + 1, 0, none⟩ (.int .i64 0) := ⟨_, rfl⟩
          have HF := Lib.hid (RunT.of (h3.base) HLOW.out d0 d1 d2 h3.store hW6)
          have HW6 := Lib.hid hW6
          have HRES : Hid (R = some (s, nn, true)) := Lib.hid (by rw [← HG.out]; exact goW_done HD.out)
          clear hW6 h3 hr3 kx
          go_wp2_with fail
          rw [← HW6.out]
          refine leaves_cons (f := 153) (args := #[.pointer (some ⟨w.heap.size, 0, none⟩), .pointer (some ⟨w.heap.size + 1, 0, none⟩), .pointer (some ⟨w.heap.size + 1 + 1, 0, none⟩)]) (by simp) (by simp [go_sem]) ?_
          refine (idleT _ _ _ _).mono ?_
          rintro e u' w'' ⟨rfl, rfl, rfl⟩
          obtain ⟨hz6, hs6, e0, e1, e2⟩ := HF.out
          have q0 : w''.cell? ⟨w.heap.size, 0, none⟩ = some (.int .i64 (nn : Int)) := e0.cell 0
          have q1 : w''.cell? ⟨w.heap.size + 1, 0, none⟩ = some (.bool true) := e1.cell 0
          have q2 : w''.cell? ⟨w.heap.size + 1 + 1, 0, none⟩ = some (.int .i64 0) := e2.cell 0
          have hfin : RunT w0 SA sc R (.returned (.tuple #[.int .i64 (nn : Int), .bool true, .int .i64 0])) w'' := by
            rw [HRES.out]
            exact ⟨hz6, rfl, hs6⟩
          simp [Leaves, settle, results, Try.results71, go_sem, q0, q1, q2]
          exact hfin
    | false =>
      have HD := Lib.hid hd
      have HNX := Lib.hid (HRL.out.next hd)
      rw [hd] at HE
      clear hd
      go_wp2_with fail
      refine HE.out.mono ?_
      rintro e W3 ⟨rfl, i3, LA3, lc3, L3, h3, hr3, kx⟩
      have d0 := kx _ _ _ HB0.out (by decide) (by decide) (by decide)
      have d1 := kx _ _ _ HB1.out (by decide) (by decide) (by decide)
      have d2 := kx _ _ _ HB2.out (by decide) (by decide) (by decide)
      have a0 : W3.cell? ⟨w.heap.size, 0, none⟩ = some (.int .i64 (nn : Int)) := d0.cell 0
      have b0 : W3.cell? ⟨(w.heap.size + 1), 0, none⟩ = some (.bool false) := d1.cell 0
      have c0 : W3.cell? ⟨(w.heap.size + 1 + 1), 0, none⟩ = some (.int .i64 0) := d2.cell 0
      have fa0 := d0.frozen 0
      have fb0 := d1.frozen 0
      have fc0 := d2.frozen 0
      cases f with
      | zero =>
          obtain rfl : nn = bud := by omega
          have i1 : ((nn : Int) == (nn : Int)) = true := by simp
          obtain ⟨W6, hW6⟩ : ∃ W6, W6 = ((W3.setCell ⟨w.heap.size, 0, none⟩ (.int .i64 (nn : Int))).setCell ⟨w.heap.size + 1, 0, none⟩ (.bool false)).setCell ⟨w.heap.size + 1 + 1, 0, none⟩ (.int .i64 0) := ⟨_, rfl⟩
          have HF := Lib.hid (RunT.of (h3.base) HLOW.out d0 d1 d2 h3.store hW6)
          have HW6 := Lib.hid hW6
          have HRES : Hid (R = some (s, nn, false)) := Lib.hid (by rw [← HG.out]; exact goW_zero HD.out)
          clear hW6 h3 hr3 kx
          go_wp2_with fail
          rw [← HW6.out]
          refine leaves_cons (f := 153) (args := #[.pointer (some ⟨w.heap.size, 0, none⟩), .pointer (some ⟨w.heap.size + 1, 0, none⟩), .pointer (some ⟨w.heap.size + 1 + 1, 0, none⟩)]) (by simp) (by simp [go_sem]) ?_
          refine (idleT _ _ _ _).mono ?_
          rintro e u' w'' ⟨rfl, rfl, rfl⟩
          obtain ⟨hz6, hs6, e0, e1, e2⟩ := HF.out
          have q0 : w''.cell? ⟨w.heap.size, 0, none⟩ = some (.int .i64 (nn : Int)) := e0.cell 0
          have q1 : w''.cell? ⟨w.heap.size + 1, 0, none⟩ = some (.bool false) := e1.cell 0
          have q2 : w''.cell? ⟨w.heap.size + 1 + 1, 0, none⟩ = some (.int .i64 0) := e2.cell 0
          have hfin : RunT w0 SA sc R (.returned (.tuple #[.int .i64 (nn : Int), .bool false, .int .i64 0])) w'' := by
            rw [HRES.out]
            exact ⟨hz6, rfl, hs6⟩
          simp [Leaves, settle, results, Try.results71, go_sem, q0, q1, q2]
          exact hfin
      | succ f =>
          have i1 : ((nn : Int) == (bud : Int)) = false := by simp; omega
          have HST := Lib.hid (step_any w0 gv PA n pc ts SA sc s i3 LA3 lc3 L3 _ _ W3 h3 hr3 hn HNX.out HSN.out)
          have hb3 := h3.base
          clear h3 hr3 HE
          go_wp2_with fail
          refine HST.out.mono ?_
          intro e W4 hSR
          cases hsw : stepW (normW p S).1 (normW p S).2 s with
          | none =>
            rw [hsw] at hSR
            obtain ⟨rfl, kx4, hz4, hst4⟩ := hSR
            have HRES : Hid (R = none) := Lib.hid (by rw [← HG.out]; exact goW_none HD.out hsw)
            have e0 := kx4 _ _ _ d0 (by decide) (by decide) (by decide)
            have e1 := kx4 _ _ _ d1 (by decide) (by decide) (by decide)
            have e2 := kx4 _ _ _ d2 (by decide) (by decide) (by decide)
            refine leaves_cons (f := 153) (args := #[.pointer (some ⟨w.heap.size, 0, none⟩), .pointer (some ⟨w.heap.size + 1, 0, none⟩), .pointer (some ⟨w.heap.size + 1 + 1, 0, none⟩)]) (by simp) (by simp [go_sem]) ?_
            refine (panicT w.heap.size (w.heap.size + 1) (w.heap.size + 1 + 1) _ _ _ W4 e0 e1 e2 (by omega)).mono ?_
            rintro e u' w'' ⟨rfl, rfl, f0, f1, f2, HZ, HTY⟩
            have hst6 := hst4.typed HTY.out
            have hz6 := HZ.out _ _ hz4 HLOW.out (by have := HLOW.out; omega) (by have := HLOW.out; omega)
            have q0 : w''.cell? ⟨w.heap.size, 0, none⟩ = some (.int .i64 0) := f0.cell 0
            have q1 : w''.cell? ⟨w.heap.size + 1, 0, none⟩ = some (.bool false) := f1.cell 0
            have q2 : w''.cell? ⟨w.heap.size + 1 + 1, 0, none⟩ = some (.int .i64 5) := f2.cell 0
            have hfin : RunT w0 SA sc R (.returned (.tuple #[.int .i64 0, .bool false, .int .i64 5])) w'' := by
              rw [HRES.out]
              exact ⟨hz6, rfl, s, hst6⟩
            simp [Leaves, settle, results, Try.results71, go_sem, q0, q1, q2]
            exact hfin
          | some r =>
            obtain ⟨p', S', s'⟩ := r
            rw [hsw] at hSR
            obtain ⟨⟨u, rfl⟩, i4, LA4, lc4, L4, h4, hr4, kx4⟩ := hSR
            have HG2 : Hid (goW f (nn + 1) p' S' s' = R) := Lib.hid (by rw [← HG.out]; exact (goW_some HD.out hsw).symm)
            have HSN2 := Lib.hid (step_nodes HSN.out hsw)
            have e0 := kx4 _ _ _ d0 (by decide) (by decide) (by decide)
            have e1 := kx4 _ _ _ d1 (by decide) (by decide) (by decide)
            have e2 := kx4 _ _ _ d2 (by decide) (by decide) (by decide)
            obtain ⟨n2, hn2⟩ : ∃ n2, nn + 1 = n2 := ⟨_, rfl⟩
            have w1 : IntKind.i64.wrap ((nn : Int) + 1) = (n2 : Int) := by rw [show ((nn : Int) + 1) = (n2 : Int) by omega]; exact IntWalk.i64_in _ (by omega)
            rw [hn2] at HG2
            have hnf2 : n2 + f = bud := by omega
            have HI5 := Lib.hid (h4.setBox e0 HLOW.out (j := 0) (.int .i64 (n2 : Int)))
            have n1 : w.heap.size ≠ w.heap.size + 1 := by omega
            have n3 : w.heap.size ≠ w.heap.size + 1 + 1 := by omega
            have HB05 := Lib.hid (e0.set_ 0 (.int .i64 (n2 : Int)))
            have HB15 := Lib.hid (e1.far (p := ⟨w.heap.size, 0, none⟩) (Ne.symm n1) (.int .i64 (n2 : Int)))
            have HB25 := Lib.hid (e2.far (p := ⟨w.heap.size, 0, none⟩) (Ne.symm n3) (.int .i64 (n2 : Int)))
            have HR5 := Lib.hid hr4
            have z0 : W4.cell? ⟨w.heap.size, 0, none⟩ = some (.int .i64 (nn : Int)) := e0.cell 0
            have zf := e0.frozen 0
            have HMS : Hid (leftT bud w.heap.size wr = f + 1) := Lib.hid (by
              unfold leftT
              rw [show wr.cell? ⟨w.heap.size, 0, none⟩ = some (.int .i64 (nn : Int)) from HB0.out.cell 0]
              show ((bud : Int) - (nn : Int)).toNat = _
              omega)
            have HMS2 : Hid (leftT bud w.heap.size (W4.setCell ⟨w.heap.size, 0, none⟩ (.int .i64 (n2 : Int))) = f) := Lib.hid (by
              unfold leftT
              rw [show (W4.setCell ⟨w.heap.size, 0, none⟩ (.int .i64 (n2 : Int))).cell? ⟨w.heap.size, 0, none⟩ = some (.int .i64 (n2 : Int)) from HB05.out.cell 0]
              show ((bud : Int) - (n2 : Int)).toNat = _
              omega)
            clear h4 hr4 kx4 e0 e1 e2 n1 n3 d0 d1 d2 a0 b0 c0 fa0 fb0 fc0 hn2 hsw
            go_wp2_with fail
            go_roundw
            case rel => exact ⟨f, n2, p', S', s', i4, LA4, lc4, L4, hnf2, HI5, HR5, HB05, HB15, HB25, HSN2, HG2⟩
            case measure => rw [HMS.out, HMS2.out]; omega
end Go.Proofs.Ytfheepjfpgiaoaa
