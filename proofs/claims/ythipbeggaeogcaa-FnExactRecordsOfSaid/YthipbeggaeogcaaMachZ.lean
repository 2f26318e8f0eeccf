/-
  Contracts of impl's runner.steps and runner.run.
-/
import Derived.Test.YthipbeggaeogcaaMachY
namespace Go.Proofs.Ythipbeggaeogcaa
open Go.RowKit Go.Shelf
attribute [local go_sem] Oper.semAt_some

theorem steps_any (g : Nat) (most : Int) (w : World) :
    Calls Try.prog 206 #[.pointer (some ⟨g, 0, none⟩), .int .i64 most] w fun e w' => e = .returned (.func (.func 223) #[] #[.pointer (some ⟨w.heap.size + 1, 0, none⟩), .pointer (some ⟨w.heap.size, 0, none⟩)]) ∧
      w' = (w.alloc (.cells #[.pointer (some ⟨g, 0, none⟩)] 227)).alloc (.cells #[.int .i64 most] 2) := by
  go_enter Try.func206, Try.ntmps206
  go_wp2_with fail
  go_ret
  exact ⟨rfl, rfl⟩

theorem Own.set_far {w : World} {A : Option Addr} {n c s lo b o : Nat} {e : TypeId} {cs : List Value} (h : Own w lo e s A n c cs) (hb : blk A ≠ some b) (u : Value) : Own (w.setCell ⟨b, o, none⟩ u) lo e s A n c cs := h.far (p := ⟨b, o, none⟩) hb u
theorem RunC.set {X : Nat → Prop} {W : World} {lo g b o : Nat} {sy st : Int} {A : Option Addr} {n k : Nat} {c : Conf} (h : RunC X W lo g sy st A n k c) (hg : ¬ X g) (hb : X b) (u : Value) : RunC X (W.setCell ⟨b, o, none⟩ u) lo g sy st A n k c := by
  obtain ⟨L, cl, R, d, hr, ol, or_, hap, hXl, hXr⟩ := h
  exact ⟨L, cl, R, d, Blk.far hr (p := ⟨b, o, none⟩) (fun e => hg (by rw [e]; exact hb)) u, ol.set_far (fun e => hXl b e hb) u, or_.set_far (fun e => hXr b e hb) u, hap, hXl, hXr⟩
theorem isCells_set {W : World} {b o j : Nat} {u : Value} {ob : Obj} (h : W.heap[j]? = some ob) (hc : ob.isCells = true) : ∃ o' : Obj, (W.setCell ⟨b, o, none⟩ u).heap[j]? = some o' ∧ o'.isCells = true := by
  by_cases e : j = b
  · subst e
    cases ob with
    | cells cur t f =>
      refine ⟨.cells (cur.setIfInBounds o u) t f, ?_, rfl⟩
      simp [World.setCell, Array.getElem?_modify, h]
    | _ => cases hc
  · exact ⟨ob, (Below.heap_setCell W ⟨b, o, none⟩ u j e).trans h, hc⟩
theorem XC.set {X : Nat → Prop} {W : World} (h : XC X W) (b o : Nat) (u : Value) : XC X (W.setCell ⟨b, o, none⟩ u) := fun j hj => by
  obtain ⟨ob, h1, h2⟩ := h j hj
  exact isCells_set h1 h2
/-- A store into a block of the caller's own. -/
theorem StS.set {p : Rn} {i b o : Nat} {u : Value} {D D' : (Nat → Prop) → World → Prop} {W : World} (h : StS p i D W) (h1 : b ≠ p.mb) (h2 : b ≠ p.rb) (h3 : p.w0.heap.size ≤ b) (hb : ∀ X, D X W → X b) (hD : ∀ X, D X W → D' X (W.setCell ⟨b, o, none⟩ u)) : StS p i D' (W.setCell ⟨b, o, none⟩ u) := by
  obtain ⟨X, k1, k2, k3, k4, k5, k6, k7, k8, k9⟩ := h
  exact ⟨X, k1, k2, k3, k4.set b o u, k5.set k1 (hb X k9) u, k6.setCell (p := ⟨b, o, none⟩) h3 u, k7.far (p := ⟨b, o, none⟩) (Ne.symm h1) u, k8.far (p := ⟨b, o, none⟩) (Ne.symm h2) u, hD X k9⟩

/-- What run's own cells hold ahead of round i. -/
def runD (s : Nat) (i : Nat) (X : Nat → Prop) (W : World) : Prop :=
  X s ∧ X (s + 1) ∧ X (s + 1 + 1) ∧ X (s + 1 + 1 + 1) ∧ Blk W s 2 #[.int .i64 0] ∧ Blk W (s + 1) 4 #[.bool false] ∧ Blk W (s + 1 + 1) 2 #[.int .i64 0] ∧ Blk W (s + 1 + 1 + 1) 2 #[.int .i64 ((i - 1 : Nat) : Int)]
theorem runD_st (s i : Nat) : StD (runD s i) := by
  rintro X W W' ⟨h0, h1, h2, h3, b0, b1, b2, b3⟩ hf
  exact ⟨h0, h1, h2, h3, b0.fr hf h0, b1.fr hf h1, b2.fr hf h2, b3.fr hf h3⟩
def runJx (p : Rn) (s : Nat) (c : Code) (_x : Nat × Bool) (W : World) : Prop :=
  c = .ret ∧ (∃ j, Full p.sy p.rs p.c p.most j) ∧ Below p.w0.heap.size p.w0 W ∧ Blk W s 2 #[.int .i64 0] ∧ Blk W (s + 1) 4 #[.bool false] ∧ Blk W (s + 1 + 1) 2 #[.int .i64 5]
theorem runJx_put {p : Rn} {s b0 : Nat} {c : Code} {x : Nat × Bool} (hb : p.w0.heap.size ≤ b0) : PutOk b0 (runJx p s c x) := by
  rintro W l o o' ⟨h1, h2, h3, h4, h5, h6⟩ hl hg ho
  exact ⟨h1, h2, below_put h3 (by omega) o' hg, h4.put o' hg ho, h5.put o' hg ho, h6.put o' hg ho⟩

/-- What run leaves. -/
def RunP (w0 : World) (g : Nat) (sy st : Int) (A : Option Addr) (n k : Nat) (rs : List R3) (c : Conf) (most : Nat) (e : Ending) (w' : World) : Prop :=
  ((∃ i, Ended sy rs c most i ∧ e = .returned (.tuple #[.int .i64 (i : Int), .bool (haltC sy rs (itC sy rs c i)), .int .i64 0]) ∧ RunC (fun _ => False) w' w0.heap.size g sy st A n k (itC sy rs c i)) ∨
    (∃ i, Full sy rs c most i) ∧ e = .returned (.tuple #[.int .i64 0, .bool false, .int .i64 5])) ∧ Below w0.heap.size w0 w'

set_option maxRecDepth 100000 in
set_option maxHeartbeats 4000000 in
theorem run_any (w0 w : World) (g : Nat) (sy st : Int) (A : Option Addr) (n k : Nat) (rs : List R3) (c : Conf) (most : Nat) (hrun : RunC (fun _ => False) w w0.heap.size g sy st A n k c) (hrs : S3 w0 A n rs) (hb0 : Below w0.heap.size w0 w) (hg0 : w0.heap.size ≤ g) (hg : goodC sy st rs c) (hn : n ≤ 1048576) (hm : most ≤ 1000000) :
    Calls Try.prog 171 #[.pointer (some ⟨g, 0, none⟩), .int .i64 (most : Int)] w (RunP w0 g sy st A n k rs c most) := by
  refine (callsIn_wide (n := 3)).1 (callsIn_of_wp_marks Try.func171 rfl trivial (wpIn_wide.2 ?_) rfl)
  simp only [Try.ntmps171, List.size_toArray, List.length_cons, List.length_nil, Nat.reduceAdd, Nat.reduceSub, Array.replicate_succ, Array.replicate_zero, List.push_toArray, List.append_toArray, List.nil_append, List.cons_append]
  obtain ⟨s, hs⟩ : ∃ s, s = w.heap.size := ⟨_, rfl⟩
  obtain ⟨W4, hW4⟩ : ∃ W, W = (((w.alloc (.cells #[.int .i64 0] 2)).alloc (.cells #[.bool false] 4)).alloc (.cells #[.int .i64 0] 2)).alloc (.cells #[.int .i64 0] 2) := ⟨_, rfl⟩
  have z4 : Below w.heap.size w W4 := by rw [hW4]; exact ((((Below.refl _ _).alloc (Nat.le_refl _) _).alloc (by simp) _).alloc (by simp; omega) _).alloc (by simp; omega) _
  have e0 : Blk W4 s 2 #[.int .i64 0] := by rw [hW4, hs]; exact (((Blk.new w _ _).alloc _).alloc _).alloc _
  have e1 : Blk W4 (s + 1) 4 #[.bool false] := by rw [hW4, hs]; exact ((by simpa using Blk.new (w.alloc (.cells #[.int .i64 0] 2)) 4 #[.bool false] : Blk _ _ _ _).alloc _).alloc _
  have e2 : Blk W4 (s + 1 + 1) 2 #[.int .i64 0] := by rw [hW4, hs]; exact (by simpa using Blk.new ((w.alloc (.cells #[.int .i64 0] 2)).alloc (.cells #[.bool false] 4)) 2 #[.int .i64 0] : Blk _ _ _ _).alloc _
  have e3 : Blk W4 (s + 1 + 1 + 1) 2 #[.int .i64 0] := by rw [hW4, hs]; exact (by simpa using Blk.new (((w.alloc (.cells #[.int .i64 0] 2)).alloc (.cells #[.bool false] 4)).alloc (.cells #[.int .i64 0] 2)) 2 #[.int .i64 0] : Blk _ _ _ _)
  have z4s : W4.heap.size = s + 4 := by rw [hW4, hs]; simp
  have HW4 := Lib.hid hW4
  clear hW4
  go_wp2_with fail
  rw [← HW4.out]
  clear HW4
  have HS := Lib.hid hs
  have HZ4 := Lib.hid z4s
  clear z4s
  refine (steps_any _ _ _).mono ?_
  rintro e W6 ⟨rfl, hW6⟩
  rw [← hs]
  clear hs
  have r6 : Blk W6 W4.heap.size 227 #[.pointer (some ⟨g, 0, none⟩)] := by rw [hW6]; exact (Blk.new W4 _ _).alloc _
  have m6 : Blk W6 (W4.heap.size + 1) 2 #[.int .i64 (most : Int)] := by rw [hW6]; simpa using Blk.new (W4.alloc (.cells #[.pointer (some ⟨g, 0, none⟩)] 227)) 2 #[.int .i64 (most : Int)]
  have z6 : Below W4.heap.size W4 W6 := by rw [hW6]; exact ((Below.refl _ _).alloc (Nat.le_refl _) _).alloc (by simp) _
  clear hW6
  obtain ⟨p, hp⟩ : ∃ p : Rn, p = ⟨w0, g, W4.heap.size + 1, W4.heap.size, sy, st, A, n, k, rs, c, most⟩ := ⟨_, rfl⟩
  have hok : p.Ok := by rw [hp]; exact ⟨hg, hrs, hg0, hn, hm⟩
  have hgw : g < s := by rw [HS.out]; obtain ⟨L, cl, R, d, hr, _⟩ := hrun; exact Blk.lt hr
  have hw0s : w0.heap.size ≤ s := by rw [HS.out]; exact hb0.size
  have z06 : Below w0.heap.size w0 W6 := (hb0.trans (z4.mono hb0.size)).trans (z6.mono (hb0.trans (z4.mono hb0.size)).size)
  have s6 : W4.heap.size + 1 < W6.heap.size := m6.lt
  have hSt : StS p 0 (runD s 0) W6 := by
    rw [hp]
    obtain ⟨L, cl, R, d, hr, ol, or_, hap, _, _⟩ := hrun
    have z46 : Below w.heap.size w W6 := z4.trans (z6.mono z4.size)
    refine ⟨fun b => b = s ∨ b = s + 1 ∨ b = s + 1 + 1 ∨ b = s + 1 + 1 + 1 ∨ b = W4.heap.size ∨ b = W4.heap.size + 1, ?_, by simp, by simp, ?_, ?_, z06, m6, r6, ?_⟩
    · have := HZ4.out
      show ¬ (g = s ∨ g = s + 1 ∨ g = s + 1 + 1 ∨ g = s + 1 + 1 + 1 ∨ g = W4.heap.size ∨ g = W4.heap.size + 1)
      omega
    · intro b hb
      have f0 := e0.below' z6; have f1 := e1.below' z6; have f2 := e2.below' z6; have f3 := e3.below' z6
      rcases hb with rfl | rfl | rfl | rfl | rfl | rfl
      · exact ⟨_, f0, rfl⟩
      · exact ⟨_, f1, rfl⟩
      · exact ⟨_, f2, rfl⟩
      · exact ⟨_, f3, rfl⟩
      · exact ⟨_, r6, rfl⟩
      · exact ⟨_, m6, rfl⟩
    · have hz := HZ4.out
      have hs' := HS.out
      refine ⟨L, cl, R, d, Blk.below' hr z46, ol.below z46, or_.below z46, hap, ?_, ?_⟩
      · intro b hb hX
        have := ol.blk_lt b hb
        revert hX
        show ¬ (b = s ∨ b = s + 1 ∨ b = s + 1 + 1 ∨ b = s + 1 + 1 + 1 ∨ b = W4.heap.size ∨ b = W4.heap.size + 1)
        omega
      · intro b hb hX
        have := or_.blk_lt b hb
        revert hX
        show ¬ (b = s ∨ b = s + 1 ∨ b = s + 1 + 1 ∨ b = s + 1 + 1 + 1 ∨ b = W4.heap.size ∨ b = W4.heap.size + 1)
        omega
    · exact ⟨by simp, by simp, by simp, by simp, e0.below' z6, e1.below' z6, e2.below' z6, e3.below' z6⟩
  have HST := Lib.hid hSt
  clear hSt e0 e1 e2 e3 r6 m6 hrun z4 z6
  have hpm : p.mb = W4.heap.size + 1 := by rw [hp]
  have hpr : p.rb = W4.heap.size := by rw [hp]
  have hpw : p.w0 = w0 := by rw [hp]
  have HPM := Lib.hid hpm
  have HPR := Lib.hid hpr
  have HPW := Lib.hid hpw
  have HP := Lib.hid hp
  clear hpm hpr hpw hp
  have hseq := steps1_seq p hok (runD s) (runD_st s) (runJx p s) 2
  rw [HPM.out, HPR.out] at hseq
  have hpb : p.w0.heap.size ≤ W6.heap.size := by rw [HPW.out]; exact z06.size
  go_wp2_with fail
  refine (wpIn_wide (n := 3)).1 (wpIn_rangeFunc_st rfl (by decide) (gf := 223) (lb := #[.pointer (some ⟨W4.heap.size + 1, 0, none⟩), .pointer (some ⟨W4.heap.size, 0, none⟩)]) rfl trivial (enters_of Try.func223 (by kernel_rfl) rfl) hseq (fun _ => rfl)
    (stJ_put (runD_st s) hpb) (stJ'_put (runD_st s) hpb) (fun c x => runJx_put hpb) (stFin_put (runD_st s) hpb) (fun c W l o o' ⟨x, hx⟩ h1 h2 h3 => ⟨x, runJx_put hpb W l o o' hx h1 h2 h3⟩)
    (fun r => (HST.out.fr (runD_st s 0) ((Below.refl _ _).alloc (Nat.le_refl _) _)).fr (runD_st s 0) ((Below.refl _ _).alloc (Nat.le_refl _) _))
    (fun x => { tmps := #[.pointer (some ⟨g, 0, none⟩), .int .i64 (most : Int), undef, undef, .pointer (some ⟨s, 0, none⟩), .pointer (some ⟨s + 1, 0, none⟩), .pointer (some ⟨s + 1 + 1, 0, none⟩), .pointer (some ⟨s + 1 + 1 + 1, 0, none⟩), .int .i64 (x.1 : Int), .bool x.2, .pointer (some ⟨g, 0, none⟩), .int .i64 (most : Int), .func (.func 223) #[] #[.pointer (some ⟨W4.heap.size + 1, 0, none⟩), .pointer (some ⟨W4.heap.size, 0, none⟩)], .int .i64 (x.1 : Int), .bool x.2, undef, undef, undef, undef, undef, undef], defers := [] }) ?assign ?body ?done ?stop)
  case assign =>
    intro l x W K hK
    gi_wp2
    exact hK
  case body =>
    rintro l ⟨i, b⟩ W hl hJ
    cases b
    · obtain ⟨⟨j, rfl, hfull⟩, hz, X, hXC, hX0, hX1, hX2, hX3, b0, b1, b2, b3⟩ := hJ
      have HF := Lib.hid hfull
      clear hfull
      have c0 : W.cell? ⟨s, 0, none⟩ = some (.int .i64 0) := b0.cell 0
      have c1 : W.cell? ⟨s + 1, 0, none⟩ = some (.bool false) := b1.cell 0
      have c2 : W.cell? ⟨s + 1 + 1, 0, none⟩ = some (.int .i64 0) := b2.cell 0
      have f0 := b0.frozen 0
      have f1 := b1.frozen 0
      have f2 := b2.frozen 0
      gi_wp2
      refine ⟨((KeepsOthers.setCell _ _ _).trans (KeepsOthers.setCell _ _ _)).trans (KeepsOthers.setCell _ _ _), rfl, ⟨j, HF.out⟩, ?_, ?_, ?_, ?_⟩
      · rw [HPW.out] at hz ⊢
        exact ((hz.setCell (p := ⟨s, 0, none⟩) hw0s _).setCell (p := ⟨s + 1, 0, none⟩) (show w0.heap.size ≤ s + 1 by omega) _).setCell (p := ⟨s + 1 + 1, 0, none⟩) (show w0.heap.size ≤ s + 1 + 1 by omega) _
      · exact ((b0.set_ 0 _).far (p := ⟨s + 1, 0, none⟩) (show s ≠ s + 1 by omega) _).far (p := ⟨s + 1 + 1, 0, none⟩) (show s ≠ s + 1 + 1 by omega) _
      · exact ((b1.far (p := ⟨s, 0, none⟩) (show s + 1 ≠ s by omega) _).set_ 0 _).far (p := ⟨s + 1 + 1, 0, none⟩) (show s + 1 ≠ s + 1 + 1 by omega) _
      · exact ((b2.far (p := ⟨s, 0, none⟩) (show s + 1 + 1 ≠ s by omega) _).far (p := ⟨s + 1, 0, none⟩) (show s + 1 + 1 ≠ s + 1 by omega) _).set_ 0 _
    · obtain ⟨hi, hal, hst⟩ := hJ
      have HAL := Lib.hid hal
      clear hal
      have hst' := hst
      obtain ⟨X, _, _, _, _, _, _, _, _, _, _, _, _, _, _, _, b3⟩ := hst'
      have c3 : W.cell? ⟨s + 1 + 1 + 1, 0, none⟩ = some (.int .i64 ((i - 1 : Nat) : Int)) := b3.cell 0
      have f3 := b3.frozen 0
      gi_wp2
      refine ⟨KeepsOthers.setCell _ _ _, hi, HAL.out, hst.set ?_ ?_ ?_ (fun X h => h.2.2.2.1) ?_⟩
      · rw [HPM.out, HZ4.out]; omega
      · rw [HPR.out, HZ4.out]; omega
      · rw [HPW.out]; omega
      · rintro X ⟨x0, x1, x2, x3, d0, d1, d2, d3⟩
        exact ⟨x0, x1, x2, x3, d0.far (p := ⟨s + 1 + 1 + 1, 0, none⟩) (show s ≠ s + 1 + 1 + 1 by omega) _, d1.far (p := ⟨s + 1 + 1 + 1, 0, none⟩) (show s + 1 ≠ s + 1 + 1 + 1 by omega) _, d2.far (p := ⟨s + 1 + 1 + 1, 0, none⟩) (show s + 1 + 1 ≠ s + 1 + 1 + 1 by omega) _, d3.set_ 0 _⟩
  case done =>
    rintro D W hD ⟨i, hend, hst⟩ hK
    rw [HP.out] at hend hst
    have hend' : Ended sy rs c most i := hend
    have HEND := Lib.hid hend'
    clear hend hend'
    obtain ⟨X, hXg, _, _, hXC, hrunW', hzW', _, _, hX0, hX1, hX2, hX3, b0, b1, b2, b3⟩ := hst
    have hrunW : RunC X W w0.heap.size g sy st A n k (itC sy rs c i) := hrunW'
    have hzW : Below w0.heap.size w0 W := hzW'
    clear hrunW' hzW'
    have HXG : Hid (¬ X g) := hXg
    have HXC := Lib.hid hXC
    clear hXg hXC
    have c0 : W.cell? ⟨s, 0, none⟩ = some (.int .i64 0) := b0.cell 0
    have c1 : W.cell? ⟨s + 1, 0, none⟩ = some (.bool false) := b1.cell 0
    have c2 : W.cell? ⟨s + 1 + 1, 0, none⟩ = some (.int .i64 0) := b2.cell 0
    have c3 : W.cell? ⟨s + 1 + 1 + 1, 0, none⟩ = some (.int .i64 (i : Int)) := b3.cell 0
    have hgoodi : goodC sy st rs (itC sy rs c i) := HEND.out.2.1.good hg
    have hhalt := halts_c (w := W.drewN 1) hrunW ((hrs.below hzW).drewN 1) hgoodi hn
    have HHALT := Lib.hid hhalt
    clear hhalt
    have n0 : ¬ s + 1 + 1 + 1 = s := by omega
    have n1 : ¬ s + 1 + 1 + 1 = s + 1 := by omega
    have n2 : ¬ s + 1 + 1 + 1 = s + 1 + 1 := by omega
    go_wp2_with fail
    go_region_held3 (fun w' => w'.cell? ⟨s + 1 + 1 + 1, 0, none⟩ = some (.int .i64 (i : Int)))
      (first | (go_keep; done) | (exact (b3.below' z7).cell 0) | (exact far_set n0 ((b3.below' z7).cell 0)) | (exact far_set n1 (far_set n0 ((b3.below' z7).cell 0))) | (exact far_set n2 (far_set n1 (far_set n0 ((b3.below' z7).cell 0)))))
      ((go_at_call 207; refine HHALT.out.mono ?_; rintro e W7 ⟨rfl, z7'⟩; have z7 : Below W.heap.size W W7 := below_undrew z7'; have c0 : W7.cell? ⟨s, 0, none⟩ = some (.int .i64 0) := (b0.below' z7).cell 0; have c1 : W7.cell? ⟨s + 1, 0, none⟩ = some (.bool false) := (b1.below' z7).cell 0; have c2 : W7.cell? ⟨s + 1 + 1, 0, none⟩ = some (.int .i64 0) := (b2.below' z7).cell 0; have f0 := (b0.below' z7).frozen 0; have f1 := (b1.below' z7).frozen 0; have f2 := (b2.below' z7).frozen 0))
    go_wp2_with fail
    have d0 := (((b0.below' z7).set_ 0 (.int .i64 (i : Int))).far (p := ⟨s + 1, 0, none⟩) (show s ≠ s + 1 by omega) (.bool (haltC sy rs (itC sy rs c i)))).far (p := ⟨s + 1 + 1, 0, none⟩) (show s ≠ s + 1 + 1 by omega) (.int .i64 0)
    have d1 := (((b1.below' z7).far (p := ⟨s, 0, none⟩) (show s + 1 ≠ s by omega) (.int .i64 (i : Int))).set_ 0 (.bool (haltC sy rs (itC sy rs c i)))).far (p := ⟨s + 1 + 1, 0, none⟩) (show s + 1 ≠ s + 1 + 1 by omega) (.int .i64 0)
    have d2 := (((b2.below' z7).far (p := ⟨s, 0, none⟩) (show s + 1 + 1 ≠ s by omega) (.int .i64 (i : Int))).far (p := ⟨s + 1, 0, none⟩) (show s + 1 + 1 ≠ s + 1 by omega) (.bool (haltC sy rs (itC sy rs c i)))).set_ 0 (.int .i64 0)
    have dr := (((hrunW.below z7).set HXG.out hX0 (.int .i64 (i : Int)) (o := 0)).set HXG.out hX1 (.bool (haltC sy rs (itC sy rs c i))) (o := 0)).set HXG.out hX2 (.int .i64 0) (o := 0)
    have hz7 : Below w0.heap.size w0 W7 := hzW.trans (z7.mono hzW.size)
    have dz := ((hz7.setCell (p := ⟨s, 0, none⟩) hw0s (.int .i64 (i : Int))).setCell (p := ⟨s + 1, 0, none⟩) (show w0.heap.size ≤ s + 1 by omega) (.bool (haltC sy rs (itC sy rs c i)))).setCell (p := ⟨s + 1 + 1, 0, none⟩) (show w0.heap.size ≤ s + 1 + 1 by omega) (.int .i64 0)
    have hK7 := (((KeepsOthers.setCell W7 ⟨s, 0, none⟩ (.int .i64 (i : Int))).trans (KeepsOthers.setCell _ ⟨s + 1, 0, none⟩ (.bool (haltC sy rs (itC sy rs c i))))).trans (KeepsOthers.setCell _ ⟨s + 1 + 1, 0, none⟩ (.int .i64 0))).same D _ ((keeps_below z7).same D _ hK rfl) rfl
    generalize ((W7.setCell ⟨s, 0, none⟩ (.int .i64 (i : Int))).setCell ⟨s + 1, 0, none⟩ (.bool (haltC sy rs (itC sy rs c i)))).setCell ⟨s + 1 + 1, 0, none⟩ (.int .i64 0) = Wf at *
    have k0 : (Wf.putObj D (.deferred none)).cell? ⟨s, 0, none⟩ = some (.int .i64 (i : Int)) := (d0.put (.deferred none) hK7 rfl).cell 0
    have k1 : (Wf.putObj D (.deferred none)).cell? ⟨s + 1, 0, none⟩ = some (.bool (haltC sy rs (itC sy rs c i))) := (d1.put (.deferred none) hK7 rfl).cell 0
    have k2 : (Wf.putObj D (.deferred none)).cell? ⟨s + 1 + 1, 0, none⟩ = some (.int .i64 0) := (d2.put (.deferred none) hK7 rfl).cell 0
    refine ⟨by simp, .inl ⟨_, _, rfl, run_takeDeferred hK7, ?_⟩⟩
    refine ⟨.tuple #[.int .i64 (i : Int), .bool (haltC sy rs (itC sy rs c i)), .int .i64 0], by simp [results, Try.results171, go_sem, k0, k1, k2], .inl ⟨i, HEND.out, rfl, ?_⟩, ?_⟩
    · obtain ⟨L, cl, R, d, hr, ol, or_, hap, hXl, hXr⟩ := dr.put (.deferred none) hK7 rfl
      exact ⟨L, cl, R, d, hr, ol, or_, hap, fun _ _ h => h, fun _ _ h => h⟩
    · have hsz := z06.size
      exact below_put dz (by omega) _ hK7
  case stop =>
    rintro D c' W hD ⟨x, rfl, hfull, hz, b0, b1, b2⟩ hK
    have HF := Lib.hid hfull
    clear hfull
    refine wpIn_wide.2 ?_
    go_wp2_with fail
    have k0 : (W.putObj D (.deferred none)).cell? ⟨s, 0, none⟩ = some (.int .i64 0) := (b0.put (.deferred none) hK rfl).cell 0
    have k1 : (W.putObj D (.deferred none)).cell? ⟨s + 1, 0, none⟩ = some (.bool false) := (b1.put (.deferred none) hK rfl).cell 0
    have k2 : (W.putObj D (.deferred none)).cell? ⟨s + 1 + 1, 0, none⟩ = some (.int .i64 5) := (b2.put (.deferred none) hK rfl).cell 0
    refine ⟨by simp, .inl ⟨_, _, rfl, run_takeDeferred hK, ?_⟩⟩
    refine ⟨.tuple #[.int .i64 0, .bool false, .int .i64 5], by simp [results, Try.results171, go_sem, k0, k1, k2], .inr ⟨?_, rfl⟩, ?_⟩
    · obtain ⟨j, hj⟩ := HF.out
      rw [HP.out] at hj
      exact ⟨j, hj⟩
    · rw [HPW.out] at hz hpb
      exact below_put hz (by omega) _ hK
end Go.Proofs.Ythipbeggaeogcaa
