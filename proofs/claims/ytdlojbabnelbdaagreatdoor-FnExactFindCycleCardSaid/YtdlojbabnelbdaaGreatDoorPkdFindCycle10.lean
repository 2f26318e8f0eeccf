/-
  Contract of impl.FindCycle.
-/
import Derived.Test.YtdlojbabnelbdaaGreatDoorPkdFindCycle7
import Derived.Test.YtdlojbabnelbdaaGreatDoorPkdFindCycle9
import Derived.RegionIn
namespace Go.Proofs.YtdlojbabnelbdaaGreatDoor
open Go.RowKit Go.Shelf
attribute [local go_sem] Oper.semAt_some

theorem StrMap.obj {W : World} {b n : Nat} {f : ByteArray → Option Int} (h : StrMap W b n f) : ∃ o : Obj, W.heap[b]? = some o ∧ isBook o = false := by
  obtain ⟨D, ⟨es, clock, hb, _⟩, _⟩ := h
  exact ⟨_, hb, rfl⟩
theorem nDig_le (u : Nat) : Lib.nDigits u ≤ u + 1 := by
  induction u using Nat.strongRecOn with
  | ind u ih =>
    by_cases h : u < 10
    · rw [Lib.nDigits_small h]; omega
    · rw [Lib.nDigits_big h]
      have := ih (u / 10) (by omega)
      omega
theorem confT_size {c : Conf} (hx : c.xs.length ≤ 200) (hy : c.ys.length ≤ 200) (hq : c.q.toNat ≤ 1000) : (confT c).size ≤ maxLen := by
  have h1 : (confT c).size = (confL c).length := by simp [confT, ByteArray.size]
  have h2 := nDig_le c.q.toNat
  rw [h1]
  unfold confL digL
  simp only [List.length_append, List.length_map, List.length_reverse, List.length_cons, List.length_nil, Lib.decDigits_length]
  unfold maxLen
  omega
/-- What FindCycle's own cells hold ahead of round i. -/
def fcD (g : Nat) (f : Nat → Conf) (s1 s2 s3 s4 gm i : Nat) (X : Nat → Prop) (W : World) : Prop :=
  X s1 ∧ X s2 ∧ X s3 ∧ X s4 ∧ X gm ∧ Blk W s1 29 #[.int .i64 0, .slice none 0 0, .slice none 0 0] ∧ Blk W s2 2 #[.int .i64 0] ∧ Blk W s3 47 #[.pointer (some ⟨g, 0, none⟩)] ∧ Blk W s4 49 #[.map (some gm)] ∧
    StrMap W gm i (mapK f i) ∧ firstTo f i = none
theorem fcD_st (g : Nat) (f : Nat → Conf) (s1 s2 s3 s4 gm i : Nat) : StD (fcD g f s1 s2 s3 s4 gm i) := by
  rintro X W W' ⟨x1, x2, x3, x4, x5, b1, b2, b3, b4, hm, hf1⟩ hf
  exact ⟨x1, x2, x3, x4, x5, b1.fr hf x1, b2.fr hf x2, b3.fr hf x3, b4.fr hf x4, hm.keep (hf.same gm x5 hm.lt), hf1⟩
/-- What the results' boxes hold. -/
def FcOut (lo s1 s2 : Nat) (r : (Int × List Int) × Int) (W : World) : Prop :=
  ∃ L c R d, Blk W s1 29 #[.int .i64 r.1.1, .slice L r.1.2.length c, .slice R 0 d] ∧ Blk W s2 2 #[.int .i64 r.2] ∧ Own W lo 2 1 L r.1.2.length c (ints r.1.2)
def fcJx (p : Rn) (s1 s2 : Nat) (r : (Int × List Int) × Int) (c : Code) (_x : Nat × Bool) (W : World) : Prop :=
  c = .ret ∧ Below p.w0.heap.size p.w0 W ∧ FcOut p.w0.heap.size s1 s2 r W
theorem fcJx_put {p : Rn} {s1 s2 b0 : Nat} {r : (Int × List Int) × Int} {c : Code} {x : Nat × Bool} (hb : p.w0.heap.size ≤ b0) : PutOk b0 (fcJx p s1 s2 r c x) := by
  rintro W l o o' ⟨h1, h2, L, k, R, d, h3, h4, h5⟩ hl hg ho
  exact ⟨h1, below_put h2 (by omega) o' hg, L, k, R, d, h3.put o' hg ho, h4.put o' hg ho, h5.put o' hg ho⟩
theorem fc_round {p : Rn} {i s1 s2 s3 s4 gm g : Nat} {f : Nat → Conf} {X : Nat → Prop} {W w9 : World} (hO : StO p i X W) (hD : fcD g f s1 s2 s3 s4 gm i X W) (hm : StrMap w9 gm (i + 1) (mapK f (i + 1))) (hg : W.grownBy w9 (some gm)) (hn : firstTo f (i + 1) = none)
    (n1 : s1 ≠ gm) (n2 : s2 ≠ gm) (n3 : s3 ≠ gm) (n4 : s4 ≠ gm) (n5 : gm ≠ p.mb) (n6 : gm ≠ p.rb) (n7 : p.w0.heap.size ≤ gm) :
    KeepsBook W w9 ∧ StS p i (fcD g f s1 s2 s3 s4 gm (i + 1)) w9 := by
  obtain ⟨x1, x2, x3, x4, x5, b1, b2, b3, b4, _, _⟩ := hD
  have k : Keep (fun b => b = gm) W w9 := (Keep.refl _ W).grown hg (fun b hb => by injection hb with hb; exact hb.symm)
  obtain ⟨hO', hK⟩ := hO.turn k (fun b hb => by subst hb; exact ⟨x5, n5, n6, n7⟩) (fun b hb => by subst hb; exact hm.obj)
  exact ⟨hK, hO'.st ⟨.inl x1, .inl x2, .inl x3, .inl x4, .inl x5, (k.block _ b1.lt n1).trans b1, (k.block _ b2.lt n2).trans b2, (k.block _ b3.lt n3).trans b3, (k.block _ b4.lt n4).trans b4, hm, hn⟩⟩
theorem blk_conf_far {w : World} {b g : Nat} {t : TypeId} {cs : Array Value} (h : Blk w b t cs) (hg : b ≠ g) (x y z : Value) : Blk (((w.setCell ⟨g, 0, none⟩ x).setCell ⟨g, 1, none⟩ y).setCell ⟨g, 2, none⟩ z) b t cs :=
  ((h.far (p := ⟨g, 0, none⟩) hg x).far (p := ⟨g, 1, none⟩) hg y).far (p := ⟨g, 2, none⟩) hg z
set_option maxRecDepth 100000 in
set_option maxHeartbeats 8000000 in
theorem findCycleI_any (sy st : Int) (A : Option Addr) (n k : Nat) (rs : List R3) (b : Int) (w : World) (hr : S3 w A n rs) (hn : n ≤ 1048576) (ht : Tab w) :
    Calls Tryz.prog 7 #[.agg #[.int .i64 sy, .int .i64 st, .slice A n k], .int .i64 b] w (NewPrf2 w (findCycF sy st rs b)) := by
  refine (callsIn_wide (n := 3)).1 (callsIn_of_wp_marks Tryz.func7 rfl trivial (wpIn_wide.2 ?_) rfl)
  simp only [Tryz.ntmps7, List.size_toArray, List.length_cons, List.length_nil, Nat.reduceAdd, Nat.reduceSub, Array.replicate_succ, Array.replicate_zero, List.push_toArray, List.append_toArray, List.nil_append, List.cons_append]
  have hmm := @run_makeMap Tryz.prog
  obtain ⟨W, hW_⟩ : ∃ W, W = ((w.alloc (.cells #[.int .i64 sy, .int .i64 st, .slice A n k] 34)).alloc (.cells #[.int .i64 0, .slice none 0 0, .slice none 0 0] 29)).alloc (.cells #[.int .i64 0] 2) := ⟨_, rfl⟩
  have s_1 : (w.alloc (.cells #[.int .i64 sy, .int .i64 st, .slice A n k] 34)).heap.size = w.heap.size + 1 := by simp
  have s_2 : ((w.alloc (.cells #[.int .i64 sy, .int .i64 st, .slice A n k] 34)).alloc (.cells #[.int .i64 0, .slice none 0 0, .slice none 0 0] 29)).heap.size = w.heap.size + 1 + 1 := by simp
  have b0 : Blk W w.heap.size 34 #[.int .i64 sy, .int .i64 st, .slice A n k] := by rw [hW_]; exact ((Blk.new w _ _).alloc _).alloc _
  have b1 : Blk W (w.heap.size + 1) 29 #[.int .i64 0, .slice none 0 0, .slice none 0 0] := by rw [hW_, ← s_1]; exact (Blk.new _ _ _).alloc _
  have b2 : Blk W (w.heap.size + 1 + 1) 2 #[.int .i64 0] := by rw [hW_, ← s_2]; exact Blk.new _ _ _
  have y0 : Below w.heap.size w W := by rw [hW_]; exact (((Below.refl _ _).alloc (Nat.le_refl _) _).alloc (by simp) _).alloc (by simp; omega) _
  have HW := Lib.hid hW_
  clear hW_ s_1 s_2
  have q0 : W.cell? ⟨w.heap.size, 0, none⟩ = some (.int .i64 sy) := b0.cell 0
  have q1 : W.cell? ⟨w.heap.size, 1, none⟩ = some (.int .i64 st) := b0.cell 1
  have q2 : W.cell? ⟨w.heap.size, 2, none⟩ = some (.slice A n k) := b0.cell 2
  have HT := Lib.hid ht
  clear ht
  go_wp2_with fail
  rw [← HW.out]
  refine (budgeted_any _ _ _ _ _ rs _ _ (hr.below y0) hn).mono ?_
  rintro e W1 ⟨rfl, z1⟩
  have y1 := y0.trans (z1.mono y0.size)
  have c0 := b0.below' z1
  have c1 := b1.below' z1
  have c2 := b2.below' z1
  clear q0 q1 q2
  have q0 : W1.cell? ⟨w.heap.size, 0, none⟩ = some (.int .i64 sy) := c0.cell 0
  have q1 : W1.cell? ⟨w.heap.size, 1, none⟩ = some (.int .i64 st) := c0.cell 1
  have q2 : W1.cell? ⟨w.heap.size, 2, none⟩ = some (.slice A n k) := c0.cell 2
  by_cases hc : codeF sy st rs blankC b = 0
  rotate_left
  · have HF := Lib.hid (findCycF_code hc)
    have u0 : W1.cell? ⟨(w.heap.size + 1), 0, none⟩ = some (.int .i64 0) := c1.cell 0
    have u1 : W1.cell? ⟨(w.heap.size + 1), 1, none⟩ = some (.slice none 0 0) := c1.cell 1
    have u2 : W1.cell? ⟨(w.heap.size + 1), 2, none⟩ = some (.slice none 0 0) := c1.cell 2
    have f0 := c1.frozen 0
    have f1 := c1.frozen 1
    have f2 := c1.frozen 2
    have v0 : W1.cell? ⟨w.heap.size + 1 + 1, 0, none⟩ = some (.int .i64 0) := c2.cell 0
    have g0 := c2.frozen 0
    go_wp2_with fail
    have d1 := (conf_set c1 (.int .i64 0) (.slice none 0 0) (.slice none 0 0)).far (p := ⟨w.heap.size + 1 + 1, 0, none⟩) (show w.heap.size + 1 ≠ w.heap.size + 1 + 1 by omega) (.int .i64 (codeF sy st rs blankC b))
    have d2 := (blk_conf_far c2 (g := w.heap.size + 1) (by omega) (.int .i64 0) (.slice none 0 0) (.slice none 0 0)).set_ 0 (.int .i64 (codeF sy st rs blankC b))
    have dz := (conf_below y1 (show w.heap.size ≤ w.heap.size + 1 by omega) (.int .i64 0) (.slice none 0 0) (.slice none 0 0)).setCell (p := ⟨w.heap.size + 1 + 1, 0, none⟩) (show w.heap.size ≤ w.heap.size + 1 + 1 by omega) (.int .i64 (codeF sy st rs blankC b))
    exact ⟨.tuple #[.agg #[.int .i64 0, .slice none 0 0, .slice none 0 0], .int .i64 (codeF sy st rs blankC b)], by simp [results, Tryz.results7, go_sem, d1.cell 0, d1.cell 1, d1.cell 2, d2.cell 0], newPrf2_zero HF.out dz⟩
  obtain ⟨hg, hb1, hb2⟩ := codeF_zero hc
  obtain ⟨N, rfl⟩ : ∃ N : Nat, b = (N : Int) := ⟨b.toNat, by omega⟩
  have HC := Lib.hid hc
  rw [hc]
  clear hc
  go_upto_region 4 with fail
  go_wp2_with fail
  refine (blankRun_any _ _ _ _ _ _).mono ?_
  rintro e W2 ⟨g, L, cl, R, cr, rfl, hgW, hrun, ol, or_, hap, z2⟩
  have hrc : RunC (fun _ => False) W2 W1.heap.size g sy st A n k blankC := NewRunner.runC hrun ol or_ hap
  have hgw2 : g < W2.heap.size := hrun.lt
  clear hap hrun ol or_ q0 q1 q2
  obtain ⟨Wm, hWm⟩ : ∃ Wm, Wm = W2.alloc (.map #[] 0) := ⟨_, rfl⟩
  have hme : Wm.heap.size = W2.heap.size + 1 := by rw [hWm]; simp
  have ym : Below W2.heap.size W2 Wm := by rw [hWm]; exact (Below.refl _ _).alloc (Nat.le_refl _) _
  have sm : StrMap Wm W2.heap.size 0 (mapK (itC sy rs blankC) 0) := by rw [hWm]; exact StrMap.new W2
  have HWm := Lib.hid hWm
  clear hWm
  obtain ⟨W4, hW_⟩ : ∃ W, W = (Wm.alloc (.cells #[.pointer (some ⟨g, 0, none⟩)] 47)).alloc (.cells #[.map (some W2.heap.size)] 49) := ⟨_, rfl⟩
  have s_1 : (Wm.alloc (.cells #[.pointer (some ⟨g, 0, none⟩)] 47)).heap.size = Wm.heap.size + 1 := by simp
  have s7 : Blk W4 Wm.heap.size 47 #[.pointer (some ⟨g, 0, none⟩)] := by rw [hW_]; exact (Blk.new Wm _ _).alloc _
  have s8 : Blk W4 (Wm.heap.size + 1) 49 #[.map (some W2.heap.size)] := by rw [hW_, ← s_1]; exact Blk.new _ _ _
  have y4 : Below Wm.heap.size Wm W4 := by rw [hW_]; exact ((Below.refl _ _).alloc (Nat.le_refl _) _).alloc (by simp) _
  have HW4 := Lib.hid hW_
  clear hW_ s_1
  have sm4 := sm.keep (y4.block W2.heap.size sm.lt)
  rw [hme] at s7 s8
  have HME := Lib.hid hme
  have y24 := ym.trans (y4.mono ym.size)
  clear sm ym y4 hme
  go_upto_region 5 with fail
  rw [← HWm.out]
  try rw [HME.out]
  rw [← HW4.out]
  have z4s : W4.heap.size = W2.heap.size + 3 := by rw [HW4.out, HWm.out]; simp
  have k7 : W4.cell? ⟨W2.heap.size + 1, 0, none⟩ = some (.pointer (some ⟨g, 0, none⟩)) := s7.cell 0
  clear HW4 HWm HME
  go_wp2_with fail
  refine (steps_any _ _ _).mono ?_
  rintro e W6 ⟨rfl, hW6⟩
  have r6 : Blk W6 W4.heap.size 47 #[.pointer (some ⟨g, 0, none⟩)] := by rw [hW6]; exact (Blk.new W4 _ _).alloc _
  have m6 : Blk W6 (W4.heap.size + 1) 2 #[.int .i64 (N : Int)] := by rw [hW6]; simpa using Blk.new (W4.alloc (.cells #[.pointer (some ⟨g, 0, none⟩)] 47)) 2 #[.int .i64 (N : Int)]
  have z6 : Below W4.heap.size W4 W6 := by rw [hW6]; exact ((Below.refl _ _).alloc (Nat.le_refl _) _).alloc (by simp) _
  clear hW6 k7
  have z26 : Below W2.heap.size W2 W6 := y24.trans (z6.mono y24.size)
  have z16 : Below W1.heap.size W1 W6 := z2.trans (z26.mono z2.size)
  have z06 : Below w.heap.size w W6 := y1.trans (z16.mono y1.size)
  have hwW : w.heap.size + 1 + 1 < W1.heap.size := c2.lt
  have hW12 := z2.size
  have t1 := c1.below' z16
  have t2 := c2.below' z16
  have t7 := s7.below' z6
  have t8 := s8.below' z6
  have sm6 := sm4.keep (z6.block W2.heap.size sm4.lt)
  obtain ⟨p, hp⟩ : ∃ p : Rn, p = ⟨w, g, W4.heap.size + 1, W4.heap.size, sy, st, A, n, k, rs, blankC, N⟩ := ⟨_, rfl⟩
  have hw1 := y1.size
  have hok : p.Ok := by rw [hp]; exact ⟨hg, hr, by show w.heap.size ≤ g; omega, hn, by show N ≤ 1000000; omega⟩
  have hit : p.it = itC sy rs blankC := by rw [hp]
  have hSt : StS p 0 (fcD g p.it (w.heap.size + 1) (w.heap.size + 1 + 1) (W2.heap.size + 1) (W2.heap.size + 1 + 1) W2.heap.size 0) W6 := by
    rw [hit, hp]
    exact StO.st (StO.start (p := ⟨w, g, W4.heap.size + 1, W4.heap.size, sy, st, A, n, k, rs, blankC, N⟩) hrc y1.size hgW z06 z26 m6 r6 (by show W2.heap.size ≤ W4.heap.size + 1; omega) (by show W2.heap.size ≤ W4.heap.size; omega))
      ⟨XNew.of_blk t1 (.inl (by omega)), XNew.of_blk t2 (.inl (by omega)), XNew.of_blk t7 (.inr (by omega)), XNew.of_blk t8 (.inr (by omega)), ⟨.inr (Nat.le_refl _), sm6.obj⟩, t1, t2, t7, t8, sm6, rfl⟩
  have HST := Lib.hid hSt
  clear hSt t1 t2 t7 t8 sm6 sm4 s7 s8 r6 m6 hrc z6 z16 z26 y24 b0 b1 b2 c0 c1 c2
  have HP := Lib.hid hp
  have HPS : Hid (p.sy = sy ∧ p.rs = rs ∧ p.c = blankC ∧ p.most = N ∧ p.g = g ∧ p.w0 = w ∧ p.mb = W4.heap.size + 1 ∧ p.rb = W4.heap.size) := Lib.hid (by rw [hp]; exact ⟨rfl, rfl, rfl, rfl, rfl, rfl, rfl, rfl⟩)
  have HIT := Lib.hid hit
  have HZ4 := Lib.hid z4s
  have HZ06 := Lib.hid z06
  have HCP : Hid (codeF p.sy p.st p.rs blankC (p.most : Int) = 0) := Lib.hid (by rw [hp]; exact HC.out)
  have HRES : Hid (findCycF sy st rs (N : Int) = findCycF p.sy p.st p.rs (p.most : Int)) := Lib.hid (by rw [hp])
  clear hp hit z4s
  have hseq := steps1_seq p hok (fcD g p.it (w.heap.size + 1) (w.heap.size + 1 + 1) (W2.heap.size + 1) (W2.heap.size + 1 + 1) W2.heap.size) (fcD_st _ _ _ _ _ _ _) (fcJx p (w.heap.size + 1) (w.heap.size + 1 + 1) (findCycF sy st rs (N : Int))) 2
  rw [show p.mb = W4.heap.size + 1 from HPS.out.2.2.2.2.2.2.1, show p.rb = W4.heap.size from HPS.out.2.2.2.2.2.2.2] at hseq
  have hpw : p.w0 = w := HPS.out.2.2.2.2.2.1
  have hpb : p.w0.heap.size ≤ W6.heap.size := by rw [hpw]; exact z06.size
  have HPW := Lib.hid hpw
  clear hpw z06
  go_wp2_with fail
  refine (wpIn_wide (n := 3)).1 (wpIn_rangeFunc_st rfl (by decide) (gf := 44) (lb := #[.pointer (some ⟨W4.heap.size + 1, 0, none⟩), .pointer (some ⟨W4.heap.size, 0, none⟩)]) rfl trivial (enters_of Tryz.func44 (by kernel_rfl) rfl) hseq (fun _ => rfl)
    (stJ_put (fcD_st _ _ _ _ _ _ _) hpb) (stJ'_put (fcD_st _ _ _ _ _ _ _) hpb) (fun c x => fcJx_put hpb) (stFin_put (fcD_st _ _ _ _ _ _ _) hpb) (fun c W l o o' ⟨x, hx⟩ h1 h2 h3 => ⟨x, fcJx_put hpb W l o o' hx h1 h2 h3⟩)
    (fun r => (HST.out.fr (fcD_st _ _ _ _ _ _ _ _) ((Below.refl _ _).alloc (Nat.le_refl _) _)).fr (fcD_st _ _ _ _ _ _ _ _) ((Below.refl _ _).alloc (Nat.le_refl _) _))
    ?a1 ?assign ?body ?done ?stop)
  case assign =>
    intro l x W K hK
    gi_wp2
    exact hK
  case body =>
    rintro l ⟨i, bv⟩ W hl hJ
    cases bv
    · obtain ⟨⟨j, rfl, hfull⟩, hz, X, hXC, x1, x2, _, _, _, b1, b2, _⟩ := hJ
      rw [HPS.out.2.2.1] at hfull
      have HF := Lib.hid (HRES.out.trans (findCycF_full HCP.out hfull))
      clear hfull
      have u0 : W.cell? ⟨(w.heap.size + 1), 0, none⟩ = some (.int .i64 0) := b1.cell 0
      have u1 : W.cell? ⟨(w.heap.size + 1), 1, none⟩ = some (.slice none 0 0) := b1.cell 1
      have u2 : W.cell? ⟨(w.heap.size + 1), 2, none⟩ = some (.slice none 0 0) := b1.cell 2
      have f0 := b1.frozen 0
      have f1 := b1.frozen 1
      have f2 := b1.frozen 2
      have v0 : W.cell? ⟨w.heap.size + 1 + 1, 0, none⟩ = some (.int .i64 0) := b2.cell 0
      have g0 := b2.frozen 0
      gi_wp2
      refine ⟨((((KeepsBook.setCell _ _ _).trans (KeepsBook.setCell _ _ _)).trans (KeepsBook.setCell _ _ _)).trans (KeepsBook.setCell _ _ _)), rfl, ?_, ?_⟩
      · rw [HPW.out] at hz ⊢
        exact (conf_below hz (show w.heap.size ≤ w.heap.size + 1 by omega) (.int .i64 0) (.slice none 0 0) (.slice none 0 0)).setCell (p := ⟨w.heap.size + 1 + 1, 0, none⟩) (show w.heap.size ≤ w.heap.size + 1 + 1 by omega) _
      · rw [HF.out]
        exact ⟨none, 0, none, 0, (conf_set b1 (.int .i64 0) (.slice none 0 0) (.slice none 0 0)).far (p := ⟨w.heap.size + 1 + 1, 0, none⟩) (show w.heap.size + 1 ≠ w.heap.size + 1 + 1 by omega) _, (blk_conf_far b2 (g := w.heap.size + 1) (by omega) (.int .i64 0) (.slice none 0 0) (.slice none 0 0)).set_ 0 _, Own.nil⟩
    · obtain ⟨hi, hal, hst⟩ := hJ
      have HS0 := Lib.hid hst
      obtain ⟨X, hO, x1, x2, x3, x4, x5, b1, b2, b3, b4, hm, hf1⟩ := hst.op
      have HAL := Lib.hid hal
      have hgi : goodC p.sy p.st p.rs (p.it i) := HAL.out.good hok.good
      obtain ⟨g1, g2, g3, g4, g5, g6⟩ := good_digits hgi
      have hkey : mapK p.it i (confT (p.it i)) = (prevT p.it i).map fun j : Nat => (j : Int) := mapK_own (keys_apart HAL.out hok.good)
      have hconf : Calls Tryz.prog 22 #[.pointer (some ⟨p.g, 0, none⟩)] W.drew (NewConf W.drew (p.it i).q (p.it i).xs (p.it i).ys) := by
        have := config_any p.g p.sy p.st p.A p.n p.k (p.it i).q p.w0.heap.size (p.it i).xs.reverse (p.it i).ys.reverse W.drew (hO.run.below (below_drewN (Below.refl _ _) 1)).sides (by simp; omega) (by simp; omega)
        rwa [List.reverse_reverse, List.reverse_reverse] at this
      rw [HPS.out.2.2.2.2.1] at hconf
      have HCONF := Lib.hid hconf
      have HO := Lib.hid hO
      have HM := Lib.hid hm
      have HF1 := Lib.hid hf1
      have HKEY := Lib.hid hkey
      have HTW : Hid (Tab W) := Lib.hid (HT.out.below (by have := hO.low; rwa [HPW.out] at this))
      obtain ⟨qn, hqn⟩ : ∃ qn : Nat, (p.it i).q = (qn : Int) := ⟨(p.it i).q.toNat, by omega⟩
      have HG1 := Lib.hid g1
      have HG2 := Lib.hid g2
      have HQN := Lib.hid hqn
      have hqn2 : qn ≤ 1000 := by omega
      have him : i ≤ 20000 := by have : p.most = N := HPS.out.2.2.2.1
                                 omega
      have c3 : W.cell? ⟨W2.heap.size + 1, 0, none⟩ = some (.pointer (some ⟨g, 0, none⟩)) := b3.cell 0
      have c4 : W.cell? ⟨W2.heap.size + 1 + 1, 0, none⟩ = some (.map (some W2.heap.size)) := b4.cell 0
      clear hal hconf hO hm hf1 hkey hst hgi g1 g2 hqn g3 g4
      have hz0W : Below p.w0.heap.size p.w0 W := HO.out.low
      have hgl4 : W2.heap.size + 1 + 1 < W.heap.size := b4.lt
      have hs1l : w.heap.size + 1 < W.heap.size := b1.lt
      have HB1 := Lib.hid b1
      have HB2 := Lib.hid b2
      have HB3 := Lib.hid b3
      have HB4 := Lib.hid b4
      have HX1 := Lib.hid (And.intro x1 (And.intro x2 (And.intro x3 (And.intro x4 x5))))
      have HZ0 := Lib.hid hz0W
      have hzc : Below W.heap.size W W.drew := below_drewN (Below.refl _ _) 1
      clear x1 x2 x3 x4 x5 b1 b2 b3 b4 hz0W
      have HEQ : Hid ((⟨(qn : Int), (p.it i).xs, (p.it i).ys⟩ : Conf) = p.it i) := Lib.hid (by rw [← HQN.out])
      have HKL : Hid ((confT (p.it i)).size ≤ maxLen) := Lib.hid (confT_size g5 g6 (by rw [HQN.out]; omega))
      cases hpv : prevT p.it i with
      | some j =>
        have HPV := Lib.hid hpv
        have hjl := (prevT_some hpv).1
        rw [hpv] at HKEY
        have HKS : Hid (mapK p.it i (confT (p.it i)) = some (j : Int)) := HKEY
        have HRS : Hid (findCycF p.sy p.st p.rs (p.most : Int) = ((2, [(j : Int), ((i - j : Nat) : Int)]), 0)) := Lib.hid (by
          have h1 := HAL.out
          have h2 := HPV.out
          have h3 := HF1.out
          rw [show p.it = itC p.sy p.rs blankC by rw [← HPS.out.2.2.1]] at h2 h3
          rw [HPS.out.2.2.1] at h1
          exact findCycF_again HCP.out hi h1 h2 h3)
        have HDY : Hid (∀ W8 : World, Below W.heap.size W W8 → KeepsBook W ((((((W8.alloc (.cells #[.int .i64 (j : Int), .int .i64 ((i - j : Nat) : Int)] 2)).setCell ⟨w.heap.size + 1, 0, none⟩ (.int .i64 2)).setCell ⟨w.heap.size + 1, 1, none⟩ (.slice (some ⟨W8.heap.size, 0, none⟩) 2 2)).setCell ⟨w.heap.size + 1, 2, none⟩ (.slice none 0 0)).setCell ⟨w.heap.size + 1 + 1, 0, none⟩ (.int .i64 0))) ∧
            fcJx p (w.heap.size + 1) (w.heap.size + 1 + 1) (findCycF sy st rs (N : Int)) .ret (i, true) ((((((W8.alloc (.cells #[.int .i64 (j : Int), .int .i64 ((i - j : Nat) : Int)] 2)).setCell ⟨w.heap.size + 1, 0, none⟩ (.int .i64 2)).setCell ⟨w.heap.size + 1, 1, none⟩ (.slice (some ⟨W8.heap.size, 0, none⟩) 2 2)).setCell ⟨w.heap.size + 1, 2, none⟩ (.slice none 0 0)).setCell ⟨w.heap.size + 1 + 1, 0, none⟩ (.int .i64 0)))) := Lib.hid (fun W8 z8 => by
          obtain ⟨V9, hV9⟩ : ∃ V9, V9 = W8.alloc (.cells #[.int .i64 (j : Int), .int .i64 ((i - j : Nat) : Int)] 2) := ⟨_, rfl⟩
          have z9 : Below W.heap.size W V9 := by rw [hV9]; exact z8.alloc z8.size _
          have hO9 : Own V9 W8.heap.size 2 1 (some ⟨W8.heap.size, 0, none⟩) 2 2 (ints [(j : Int), ((i - j : Nat) : Int)]) := by rw [hV9]; exact Own.lit W8 _ 2 2 1 W8.heap.size rfl (by unfold maxLen; omega) (Nat.le_refl _)
          rw [← hV9]
          have b19 := HB1.out.below' z9
          have b29 := HB2.out.below' z9
          have hzz : Below p.w0.heap.size p.w0 V9 := HZ0.out.trans (z9.mono HZ0.out.size)
          have n12 : w.heap.size + 1 ≠ w.heap.size + 1 + 1 := by omega
          have hfar : ∀ k, k < W.heap.size → blk (some ⟨W8.heap.size, 0, none⟩) ≠ some k := fun k hk e => by have := z8.size; simp [blk] at e; omega
          refine ⟨(((((keeps_below z9).trans (KeepsBook.setCell _ _ _)).trans (KeepsBook.setCell _ _ _)).trans (KeepsBook.setCell _ _ _)).trans (KeepsBook.setCell _ _ _)), rfl, ?_, ?_⟩
          · rw [HPW.out] at hzz ⊢
            exact (conf_below hzz (show w.heap.size ≤ w.heap.size + 1 by omega) (.int .i64 2) (.slice (some ⟨W8.heap.size, 0, none⟩) 2 2) (.slice none 0 0)).setCell (p := ⟨w.heap.size + 1 + 1, 0, none⟩) (show w.heap.size ≤ w.heap.size + 1 + 1 by omega) _
          · rw [HRES.out, HRS.out]
            refine ⟨some ⟨W8.heap.size, 0, none⟩, 2, none, 0, (conf_set b19 (.int .i64 2) (.slice (some ⟨W8.heap.size, 0, none⟩) 2 2) (.slice none 0 0)).far (p := ⟨w.heap.size + 1 + 1, 0, none⟩) n12 _, (blk_conf_far b29 (g := w.heap.size + 1) (by omega) (.int .i64 2) (.slice (some ⟨W8.heap.size, 0, none⟩) 2 2) (.slice none 0 0)).set_ 0 _, ?_⟩
            have ho := (((hO9.far (p := ⟨w.heap.size + 1, 0, none⟩) (hfar _ hs1l) (.int .i64 2)).far (p := ⟨w.heap.size + 1, 1, none⟩) (hfar _ hs1l) (.slice (some ⟨W8.heap.size, 0, none⟩) 2 2)).far (p := ⟨w.heap.size + 1, 2, none⟩) (hfar _ hs1l) (.slice none 0 0)).far (p := ⟨w.heap.size + 1 + 1, 0, none⟩) (hfar _ (by have := HB2.out.lt; exact this)) (.int .i64 0)
            exact ho.mono (by have := HZ0.out.size; have := z8.size; omega))
        clear hpv
        gi_wp2
        refine wpIn_region_any (by kernel_rfl) ?_
        try (change wpAnyIn _ _ _ _ _ _ _ _ _ (World.drew _))
        refine wpAnyIn_takeR (i := 4) (v := ?_) (by kernel_rfl) rfl (by kernel_rfl) (by kernel_rfl) (by kernel_rfl) (fun _ _ _ h => h) ⟨Or.inl ⟨by rfl, ?_⟩, fun _ => by rfl⟩ ?_
        rotate_left
        · intro w
          go_simp
          try with_reducible rfl
        try simp only [Act.put, List.setIfInBounds_toArray]
        refine wpAnyIn_ready (rs := [0, 1]) (by kernel_rfl) (by simp) ?_
        refine AllReadyIn.cons rfl (fun K hK => ?_) ?_
        · go_simp
          refine hK _ _ ?_
          clear hK K
          try simp only [Act.put, List.setIfInBounds_toArray, List.set_cons_zero, List.set_cons_succ]
          refine wpAnyIn_ready (rs := [1]) (by kernel_rfl) (by simp) ?_
          refine AllReadyIn.cons rfl (fun K hK => ?_) ?_
          · go_simp
            refine hK _ _ ?_
            clear hK K
            try simp only [Act.put, List.setIfInBounds_toArray, List.set_cons_zero, List.set_cons_succ]
            refine wpAnyIn_ready (rs := [2]) (by kernel_rfl) (by simp) ?_
            refine AllReadyIn.cons rfl (fun K hK => ?_) ?_
            · go_simp
              refine ⟨trivial, (CallsIn.inRound l (callsIn_wide.2 HCONF.out)).mono ?_⟩
              rintro e W7 ⟨L7, a7, R7, d7, rfl, oL7, oR7, hap7, z7'⟩
              have z7 : Below W.heap.size W W7 := below_undrew (n := 1) z7'
              have HCT := Lib.hid (configText_any qn L7 (p.it i).xs.length a7 (p.it i).xs R7 (p.it i).ys.length d7 (p.it i).ys W7 oL7.rd oR7.rd (by omega) (by omega) (by omega) HG1.out HG2.out (HTW.out.below z7))
              have b47 := HB4.out.below' z7
              have c47 : W7.cell? ⟨W2.heap.size + 1 + 1, 0, none⟩ = some (.map (some W2.heap.size)) := b47.cell 0
              rw [HQN.out]
              clear hap7 z7' oL7 oR7 b47
              refine hK _ _ ?_
              clear hK K
              try simp only [Act.put, List.setIfInBounds_toArray, List.set_cons_zero, List.set_cons_succ]
              refine wpAnyIn_ready (rs := [3]) (by kernel_rfl) (by simp) ?_
              refine AllReadyIn.cons rfl (fun K hK => ?_) ?_
              · go_simp
                refine ⟨trivial, (CallsIn.inRound l (callsIn_wide.2 HCT.out)).mono ?_⟩
                rintro e W8 ⟨rfl, z8'⟩
                have z8 : Below W.heap.size W W8 := z7.trans (z8'.mono z7.size)
                have b48 := HB4.out.below' z8
                have c48 : W8.cell? ⟨W2.heap.size + 1 + 1, 0, none⟩ = some (.map (some W2.heap.size)) := b48.cell 0
                have hsm8 := HM.out.keep (z8.block W2.heap.size HM.out.lt)
                have HFA := Lib.hid (by have h := firstAgain_yes W2.heap.size i (mapK p.it i) (confT (p.it i)) (i : Int) (j : Int) W8 hsm8 HKL.out HKS.out (by omega) (by omega) (by omega); rw [show (i : Int) - (j : Int) = ((i - j : Nat) : Int) by omega] at h; exact h : Calls Tryz.prog 20 #[.map (some W2.heap.size), .string (confT (p.it i)), .int .i64 (i : Int)] W8 fun e w' => e = .returned (.tuple #[.int .i64 (j : Int), .int .i64 ((i - j : Nat) : Int), .bool true]) ∧ W8 = w')
                rw [HEQ.out]
                clear z8' HCT b48 hsm8
                refine hK _ _ ?_
                clear hK K
                try simp only [Act.put, List.setIfInBounds_toArray, List.set_cons_zero, List.set_cons_succ]
                refine wpAnyIn_ready (rs := [5]) (by kernel_rfl) (by simp) ?_
                refine AllReadyIn.cons rfl (fun K hK => ?_) ?_
                · go_simp
                  refine ⟨trivial, (CallsIn.inRound l (callsIn_wide.2 HFA.out)).mono ?_⟩
                  rintro e W9 ⟨rfl, rfl⟩
                  refine hK _ _ ?_
                  clear hK K
                  try simp only [Act.put, List.setIfInBounds_toArray, List.set_cons_zero, List.set_cons_succ]
                  refine wpAnyIn_takeR (i := 6) (v := ?_) (by kernel_rfl) rfl (by kernel_rfl) (by kernel_rfl) (by kernel_rfl) (fun _ _ _ h => h) ⟨Or.inl ⟨by rfl, ?_⟩, fun _ => by rfl⟩ ?_
                  rotate_left
                  · intro w
                    go_simp
                    try with_reducible rfl
                  try simp only [Act.put, List.setIfInBounds_toArray]
                  refine wpAnyIn_takeR (i := 7) (v := ?_) (by kernel_rfl) rfl (by kernel_rfl) (by kernel_rfl) (by kernel_rfl) (fun _ _ _ h => h) ⟨Or.inl ⟨by rfl, ?_⟩, fun _ => by rfl⟩ ?_
                  rotate_left
                  · intro w
                    go_simp
                    try with_reducible rfl
                  try simp only [Act.put]
                  refine wpAnyIn_takeR (i := 8) (v := ?_) (by kernel_rfl) rfl (by kernel_rfl) (by kernel_rfl) (by kernel_rfl) (fun _ _ _ h => h) ⟨Or.inl ⟨by rfl, ?_⟩, fun _ => by rfl⟩ ?_
                  rotate_left
                  · intro w
                    go_simp
                    try with_reducible rfl
                  try simp only [Act.put]
                  refine wpAnyIn_takeR (i := 9) (v := ?_) (by kernel_rfl) rfl (by kernel_rfl) (by kernel_rfl) (by kernel_rfl) (fun _ _ _ h => h) ⟨Or.inl ⟨by rfl, ?_⟩, fun _ => by rfl⟩ ?_
                  rotate_left
                  · intro w
                    go_simp
                    try with_reducible rfl
                  try simp only [Act.put]
                  refine wpAnyIn_takeR (i := 10) (v := ?_) (by kernel_rfl) rfl (by kernel_rfl) (by kernel_rfl) (by kernel_rfl) (fun _ _ _ h => h) ⟨Or.inl ⟨by rfl, ?_⟩, fun _ => by rfl⟩ ?_
                  rotate_left
                  · intro w
                    go_simp
                    try with_reducible rfl
                  try simp only [Act.put]
                  refine wpAnyIn_takeR (i := 11) (v := ?_) (by kernel_rfl) rfl (by kernel_rfl) (by kernel_rfl) (by kernel_rfl) (fun _ _ _ h => h) ⟨Or.inl ⟨by rfl, ?_⟩, fun _ => by rfl⟩ ?_
                  rotate_left
                  · intro w
                    go_simp
                    try with_reducible rfl
                  try simp only [Act.put]
                  refine wpAnyIn_ready (rs := [12]) (by kernel_rfl) (by simp) ?_
                  refine AllReadyIn.cons rfl (fun K hK => ?_) ?_
                  · go_simp
                    refine hK _ _ ?_
                    clear hK K
                    try simp only [Act.put, List.setIfInBounds_toArray, List.set_cons_zero, List.set_cons_succ]
                    refine wpAnyIn_done (by kernel_rfl) ?_ _
                    have b18 := (HB1.out.below' z8).alloc (.cells #[.int .i64 (j : Int), .int .i64 ((i - j : Nat) : Int)] 2)
                    have b28 := (HB2.out.below' z8).alloc (.cells #[.int .i64 (j : Int), .int .i64 ((i - j : Nat) : Int)] 2)
                    have u0 := b18.cell 0
                    have u1 := b18.cell 1
                    have u2 := b18.cell 2
                    have f0 := b18.frozen 0
                    have f1 := b18.frozen 1
                    have f2 := b18.frozen 2
                    have v0 := b28.cell 0
                    have g0 := b28.frozen 0
                    clear HFA
                    gi_wp2
                    exact HDY.out W8 z8
                  exact AllReadyIn.nil
                exact AllReadyIn.nil
              exact AllReadyIn.nil
            exact AllReadyIn.nil
          exact AllReadyIn.nil
        refine AllReadyIn.cons rfl (fun K hK => ?_) ?_
        · go_simp
          refine hK _ _ ?_
          clear hK K
          try simp only [Act.put, List.setIfInBounds_toArray, List.set_cons_zero, List.set_cons_succ]
          refine wpAnyIn_ready (rs := [0, 2]) (by kernel_rfl) (by simp) ?_
          refine AllReadyIn.cons rfl (fun K hK => ?_) ?_
          · go_simp
            refine hK _ _ ?_
            clear hK K
            try simp only [Act.put, List.setIfInBounds_toArray, List.set_cons_zero, List.set_cons_succ]
            refine wpAnyIn_ready (rs := [2]) (by kernel_rfl) (by simp) ?_
            refine AllReadyIn.cons rfl (fun K hK => ?_) ?_
            · go_simp
              refine ⟨trivial, (CallsIn.inRound l (callsIn_wide.2 HCONF.out)).mono ?_⟩
              rintro e W7 ⟨L7, a7, R7, d7, rfl, oL7, oR7, hap7, z7'⟩
              have z7 : Below W.heap.size W W7 := below_undrew (n := 1) z7'
              have HCT := Lib.hid (configText_any qn L7 (p.it i).xs.length a7 (p.it i).xs R7 (p.it i).ys.length d7 (p.it i).ys W7 oL7.rd oR7.rd (by omega) (by omega) (by omega) HG1.out HG2.out (HTW.out.below z7))
              have b47 := HB4.out.below' z7
              have c47 : W7.cell? ⟨W2.heap.size + 1 + 1, 0, none⟩ = some (.map (some W2.heap.size)) := b47.cell 0
              rw [HQN.out]
              clear hap7 z7' oL7 oR7 b47
              refine hK _ _ ?_
              clear hK K
              try simp only [Act.put, List.setIfInBounds_toArray, List.set_cons_zero, List.set_cons_succ]
              refine wpAnyIn_ready (rs := [3]) (by kernel_rfl) (by simp) ?_
              refine AllReadyIn.cons rfl (fun K hK => ?_) ?_
              · go_simp
                refine ⟨trivial, (CallsIn.inRound l (callsIn_wide.2 HCT.out)).mono ?_⟩
                rintro e W8 ⟨rfl, z8'⟩
                have z8 : Below W.heap.size W W8 := z7.trans (z8'.mono z7.size)
                have b48 := HB4.out.below' z8
                have c48 : W8.cell? ⟨W2.heap.size + 1 + 1, 0, none⟩ = some (.map (some W2.heap.size)) := b48.cell 0
                have hsm8 := HM.out.keep (z8.block W2.heap.size HM.out.lt)
                have HFA := Lib.hid (by have h := firstAgain_yes W2.heap.size i (mapK p.it i) (confT (p.it i)) (i : Int) (j : Int) W8 hsm8 HKL.out HKS.out (by omega) (by omega) (by omega); rw [show (i : Int) - (j : Int) = ((i - j : Nat) : Int) by omega] at h; exact h : Calls Tryz.prog 20 #[.map (some W2.heap.size), .string (confT (p.it i)), .int .i64 (i : Int)] W8 fun e w' => e = .returned (.tuple #[.int .i64 (j : Int), .int .i64 ((i - j : Nat) : Int), .bool true]) ∧ W8 = w')
                rw [HEQ.out]
                clear z8' HCT b48 hsm8
                refine hK _ _ ?_
                clear hK K
                try simp only [Act.put, List.setIfInBounds_toArray, List.set_cons_zero, List.set_cons_succ]
                refine wpAnyIn_ready (rs := [5]) (by kernel_rfl) (by simp) ?_
                refine AllReadyIn.cons rfl (fun K hK => ?_) ?_
                · go_simp
                  refine ⟨trivial, (CallsIn.inRound l (callsIn_wide.2 HFA.out)).mono ?_⟩
                  rintro e W9 ⟨rfl, rfl⟩
                  refine hK _ _ ?_
                  clear hK K
                  try simp only [Act.put, List.setIfInBounds_toArray, List.set_cons_zero, List.set_cons_succ]
                  refine wpAnyIn_takeR (i := 6) (v := ?_) (by kernel_rfl) rfl (by kernel_rfl) (by kernel_rfl) (by kernel_rfl) (fun _ _ _ h => h) ⟨Or.inl ⟨by rfl, ?_⟩, fun _ => by rfl⟩ ?_
                  rotate_left
                  · intro w
                    go_simp
                    try with_reducible rfl
                  try simp only [Act.put, List.setIfInBounds_toArray]
                  refine wpAnyIn_takeR (i := 7) (v := ?_) (by kernel_rfl) rfl (by kernel_rfl) (by kernel_rfl) (by kernel_rfl) (fun _ _ _ h => h) ⟨Or.inl ⟨by rfl, ?_⟩, fun _ => by rfl⟩ ?_
                  rotate_left
                  · intro w
                    go_simp
                    try with_reducible rfl
                  try simp only [Act.put]
                  refine wpAnyIn_takeR (i := 8) (v := ?_) (by kernel_rfl) rfl (by kernel_rfl) (by kernel_rfl) (by kernel_rfl) (fun _ _ _ h => h) ⟨Or.inl ⟨by rfl, ?_⟩, fun _ => by rfl⟩ ?_
                  rotate_left
                  · intro w
                    go_simp
                    try with_reducible rfl
                  try simp only [Act.put]
                  refine wpAnyIn_takeR (i := 9) (v := ?_) (by kernel_rfl) rfl (by kernel_rfl) (by kernel_rfl) (by kernel_rfl) (fun _ _ _ h => h) ⟨Or.inl ⟨by rfl, ?_⟩, fun _ => by rfl⟩ ?_
                  rotate_left
                  · intro w
                    go_simp
                    try with_reducible rfl
                  try simp only [Act.put]
                  refine wpAnyIn_takeR (i := 10) (v := ?_) (by kernel_rfl) rfl (by kernel_rfl) (by kernel_rfl) (by kernel_rfl) (fun _ _ _ h => h) ⟨Or.inl ⟨by rfl, ?_⟩, fun _ => by rfl⟩ ?_
                  rotate_left
                  · intro w
                    go_simp
                    try with_reducible rfl
                  try simp only [Act.put]
                  refine wpAnyIn_takeR (i := 11) (v := ?_) (by kernel_rfl) rfl (by kernel_rfl) (by kernel_rfl) (by kernel_rfl) (fun _ _ _ h => h) ⟨Or.inl ⟨by rfl, ?_⟩, fun _ => by rfl⟩ ?_
                  rotate_left
                  · intro w
                    go_simp
                    try with_reducible rfl
                  try simp only [Act.put]
                  refine wpAnyIn_ready (rs := [12]) (by kernel_rfl) (by simp) ?_
                  refine AllReadyIn.cons rfl (fun K hK => ?_) ?_
                  · go_simp
                    refine hK _ _ ?_
                    clear hK K
                    try simp only [Act.put, List.setIfInBounds_toArray, List.set_cons_zero, List.set_cons_succ]
                    refine wpAnyIn_done (by kernel_rfl) ?_ _
                    have b18 := (HB1.out.below' z8).alloc (.cells #[.int .i64 (j : Int), .int .i64 ((i - j : Nat) : Int)] 2)
                    have b28 := (HB2.out.below' z8).alloc (.cells #[.int .i64 (j : Int), .int .i64 ((i - j : Nat) : Int)] 2)
                    have u0 := b18.cell 0
                    have u1 := b18.cell 1
                    have u2 := b18.cell 2
                    have f0 := b18.frozen 0
                    have f1 := b18.frozen 1
                    have f2 := b18.frozen 2
                    have v0 := b28.cell 0
                    have g0 := b28.frozen 0
                    clear HFA
                    gi_wp2
                    exact HDY.out W8 z8
                  exact AllReadyIn.nil
                exact AllReadyIn.nil
              exact AllReadyIn.nil
            exact AllReadyIn.nil
          refine AllReadyIn.cons rfl (fun K hK => ?_) ?_
          · go_simp
            refine ⟨trivial, (CallsIn.inRound l (callsIn_wide.2 HCONF.out)).mono ?_⟩
            rintro e W7 ⟨L7, a7, R7, d7, rfl, oL7, oR7, hap7, z7'⟩
            have z7 : Below W.heap.size W W7 := below_undrew (n := 1) z7'
            have HCT := Lib.hid (configText_any qn L7 (p.it i).xs.length a7 (p.it i).xs R7 (p.it i).ys.length d7 (p.it i).ys W7 oL7.rd oR7.rd (by omega) (by omega) (by omega) HG1.out HG2.out (HTW.out.below z7))
            have b47 := HB4.out.below' z7
            have c47 : W7.cell? ⟨W2.heap.size + 1 + 1, 0, none⟩ = some (.map (some W2.heap.size)) := b47.cell 0
            rw [HQN.out]
            clear hap7 z7' oL7 oR7 b47
            refine hK _ _ ?_
            clear hK K
            try simp only [Act.put, List.setIfInBounds_toArray, List.set_cons_zero, List.set_cons_succ]
            refine wpAnyIn_ready (rs := [0, 3]) (by kernel_rfl) (by simp) ?_
            refine AllReadyIn.cons rfl (fun K hK => ?_) ?_
            · go_simp
              refine hK _ _ ?_
              clear hK K
              try simp only [Act.put, List.setIfInBounds_toArray, List.set_cons_zero, List.set_cons_succ]
              refine wpAnyIn_ready (rs := [3]) (by kernel_rfl) (by simp) ?_
              refine AllReadyIn.cons rfl (fun K hK => ?_) ?_
              · go_simp
                refine ⟨trivial, (CallsIn.inRound l (callsIn_wide.2 HCT.out)).mono ?_⟩
                rintro e W8 ⟨rfl, z8'⟩
                have z8 : Below W.heap.size W W8 := z7.trans (z8'.mono z7.size)
                have b48 := HB4.out.below' z8
                have c48 : W8.cell? ⟨W2.heap.size + 1 + 1, 0, none⟩ = some (.map (some W2.heap.size)) := b48.cell 0
                have hsm8 := HM.out.keep (z8.block W2.heap.size HM.out.lt)
                have HFA := Lib.hid (by have h := firstAgain_yes W2.heap.size i (mapK p.it i) (confT (p.it i)) (i : Int) (j : Int) W8 hsm8 HKL.out HKS.out (by omega) (by omega) (by omega); rw [show (i : Int) - (j : Int) = ((i - j : Nat) : Int) by omega] at h; exact h : Calls Tryz.prog 20 #[.map (some W2.heap.size), .string (confT (p.it i)), .int .i64 (i : Int)] W8 fun e w' => e = .returned (.tuple #[.int .i64 (j : Int), .int .i64 ((i - j : Nat) : Int), .bool true]) ∧ W8 = w')
                rw [HEQ.out]
                clear z8' HCT b48 hsm8
                refine hK _ _ ?_
                clear hK K
                try simp only [Act.put, List.setIfInBounds_toArray, List.set_cons_zero, List.set_cons_succ]
                refine wpAnyIn_ready (rs := [5]) (by kernel_rfl) (by simp) ?_
                refine AllReadyIn.cons rfl (fun K hK => ?_) ?_
                · go_simp
                  refine ⟨trivial, (CallsIn.inRound l (callsIn_wide.2 HFA.out)).mono ?_⟩
                  rintro e W9 ⟨rfl, rfl⟩
                  refine hK _ _ ?_
                  clear hK K
                  try simp only [Act.put, List.setIfInBounds_toArray, List.set_cons_zero, List.set_cons_succ]
                  refine wpAnyIn_takeR (i := 6) (v := ?_) (by kernel_rfl) rfl (by kernel_rfl) (by kernel_rfl) (by kernel_rfl) (fun _ _ _ h => h) ⟨Or.inl ⟨by rfl, ?_⟩, fun _ => by rfl⟩ ?_
                  rotate_left
                  · intro w
                    go_simp
                    try with_reducible rfl
                  try simp only [Act.put, List.setIfInBounds_toArray]
                  refine wpAnyIn_takeR (i := 7) (v := ?_) (by kernel_rfl) rfl (by kernel_rfl) (by kernel_rfl) (by kernel_rfl) (fun _ _ _ h => h) ⟨Or.inl ⟨by rfl, ?_⟩, fun _ => by rfl⟩ ?_
                  rotate_left
                  · intro w
                    go_simp
                    try with_reducible rfl
                  try simp only [Act.put]
                  refine wpAnyIn_takeR (i := 8) (v := ?_) (by kernel_rfl) rfl (by kernel_rfl) (by kernel_rfl) (by kernel_rfl) (fun _ _ _ h => h) ⟨Or.inl ⟨by rfl, ?_⟩, fun _ => by rfl⟩ ?_
                  rotate_left
                  · intro w
                    go_simp
                    try with_reducible rfl
                  try simp only [Act.put]
                  refine wpAnyIn_takeR (i := 9) (v := ?_) (by kernel_rfl) rfl (by kernel_rfl) (by kernel_rfl) (by kernel_rfl) (fun _ _ _ h => h) ⟨Or.inl ⟨by rfl, ?_⟩, fun _ => by rfl⟩ ?_
                  rotate_left
                  · intro w
                    go_simp
                    try with_reducible rfl
                  try simp only [Act.put]
                  refine wpAnyIn_takeR (i := 10) (v := ?_) (by kernel_rfl) rfl (by kernel_rfl) (by kernel_rfl) (by kernel_rfl) (fun _ _ _ h => h) ⟨Or.inl ⟨by rfl, ?_⟩, fun _ => by rfl⟩ ?_
                  rotate_left
                  · intro w
                    go_simp
                    try with_reducible rfl
                  try simp only [Act.put]
                  refine wpAnyIn_takeR (i := 11) (v := ?_) (by kernel_rfl) rfl (by kernel_rfl) (by kernel_rfl) (by kernel_rfl) (fun _ _ _ h => h) ⟨Or.inl ⟨by rfl, ?_⟩, fun _ => by rfl⟩ ?_
                  rotate_left
                  · intro w
                    go_simp
                    try with_reducible rfl
                  try simp only [Act.put]
                  refine wpAnyIn_ready (rs := [12]) (by kernel_rfl) (by simp) ?_
                  refine AllReadyIn.cons rfl (fun K hK => ?_) ?_
                  · go_simp
                    refine hK _ _ ?_
                    clear hK K
                    try simp only [Act.put, List.setIfInBounds_toArray, List.set_cons_zero, List.set_cons_succ]
                    refine wpAnyIn_done (by kernel_rfl) ?_ _
                    have b18 := (HB1.out.below' z8).alloc (.cells #[.int .i64 (j : Int), .int .i64 ((i - j : Nat) : Int)] 2)
                    have b28 := (HB2.out.below' z8).alloc (.cells #[.int .i64 (j : Int), .int .i64 ((i - j : Nat) : Int)] 2)
                    have u0 := b18.cell 0
                    have u1 := b18.cell 1
                    have u2 := b18.cell 2
                    have f0 := b18.frozen 0
                    have f1 := b18.frozen 1
                    have f2 := b18.frozen 2
                    have v0 := b28.cell 0
                    have g0 := b28.frozen 0
                    clear HFA
                    gi_wp2
                    exact HDY.out W8 z8
                  exact AllReadyIn.nil
                exact AllReadyIn.nil
              exact AllReadyIn.nil
            refine AllReadyIn.cons rfl (fun K hK => ?_) ?_
            · go_simp
              refine ⟨trivial, (CallsIn.inRound l (callsIn_wide.2 HCT.out)).mono ?_⟩
              rintro e W8 ⟨rfl, z8'⟩
              have z8 : Below W.heap.size W W8 := z7.trans (z8'.mono z7.size)
              have b48 := HB4.out.below' z8
              have c48 : W8.cell? ⟨W2.heap.size + 1 + 1, 0, none⟩ = some (.map (some W2.heap.size)) := b48.cell 0
              have hsm8 := HM.out.keep (z8.block W2.heap.size HM.out.lt)
              have HFA := Lib.hid (by have h := firstAgain_yes W2.heap.size i (mapK p.it i) (confT (p.it i)) (i : Int) (j : Int) W8 hsm8 HKL.out HKS.out (by omega) (by omega) (by omega); rw [show (i : Int) - (j : Int) = ((i - j : Nat) : Int) by omega] at h; exact h : Calls Tryz.prog 20 #[.map (some W2.heap.size), .string (confT (p.it i)), .int .i64 (i : Int)] W8 fun e w' => e = .returned (.tuple #[.int .i64 (j : Int), .int .i64 ((i - j : Nat) : Int), .bool true]) ∧ W8 = w')
              rw [HEQ.out]
              clear z8' HCT b48 hsm8
              refine hK _ _ ?_
              clear hK K
              try simp only [Act.put, List.setIfInBounds_toArray, List.set_cons_zero, List.set_cons_succ]
              refine wpAnyIn_ready (rs := [0]) (by kernel_rfl) (by simp) ?_
              refine AllReadyIn.cons rfl (fun K hK => ?_) ?_
              · go_simp
                refine hK _ _ ?_
                clear hK K
                try simp only [Act.put, List.setIfInBounds_toArray, List.set_cons_zero, List.set_cons_succ]
                refine wpAnyIn_ready (rs := [5]) (by kernel_rfl) (by simp) ?_
                refine AllReadyIn.cons rfl (fun K hK => ?_) ?_
                · go_simp
                  refine ⟨trivial, (CallsIn.inRound l (callsIn_wide.2 HFA.out)).mono ?_⟩
                  rintro e W9 ⟨rfl, rfl⟩
                  refine hK _ _ ?_
                  clear hK K
                  try simp only [Act.put, List.setIfInBounds_toArray, List.set_cons_zero, List.set_cons_succ]
                  refine wpAnyIn_takeR (i := 6) (v := ?_) (by kernel_rfl) rfl (by kernel_rfl) (by kernel_rfl) (by kernel_rfl) (fun _ _ _ h => h) ⟨Or.inl ⟨by rfl, ?_⟩, fun _ => by rfl⟩ ?_
                  rotate_left
                  · intro w
                    go_simp
                    try with_reducible rfl
                  try simp only [Act.put, List.setIfInBounds_toArray]
                  refine wpAnyIn_takeR (i := 7) (v := ?_) (by kernel_rfl) rfl (by kernel_rfl) (by kernel_rfl) (by kernel_rfl) (fun _ _ _ h => h) ⟨Or.inl ⟨by rfl, ?_⟩, fun _ => by rfl⟩ ?_
                  rotate_left
                  · intro w
                    go_simp
                    try with_reducible rfl
                  try simp only [Act.put]
                  refine wpAnyIn_takeR (i := 8) (v := ?_) (by kernel_rfl) rfl (by kernel_rfl) (by kernel_rfl) (by kernel_rfl) (fun _ _ _ h => h) ⟨Or.inl ⟨by rfl, ?_⟩, fun _ => by rfl⟩ ?_
                  rotate_left
                  · intro w
                    go_simp
                    try with_reducible rfl
                  try simp only [Act.put]
                  refine wpAnyIn_takeR (i := 9) (v := ?_) (by kernel_rfl) rfl (by kernel_rfl) (by kernel_rfl) (by kernel_rfl) (fun _ _ _ h => h) ⟨Or.inl ⟨by rfl, ?_⟩, fun _ => by rfl⟩ ?_
                  rotate_left
                  · intro w
                    go_simp
                    try with_reducible rfl
                  try simp only [Act.put]
                  refine wpAnyIn_takeR (i := 10) (v := ?_) (by kernel_rfl) rfl (by kernel_rfl) (by kernel_rfl) (by kernel_rfl) (fun _ _ _ h => h) ⟨Or.inl ⟨by rfl, ?_⟩, fun _ => by rfl⟩ ?_
                  rotate_left
                  · intro w
                    go_simp
                    try with_reducible rfl
                  try simp only [Act.put]
                  refine wpAnyIn_takeR (i := 11) (v := ?_) (by kernel_rfl) rfl (by kernel_rfl) (by kernel_rfl) (by kernel_rfl) (fun _ _ _ h => h) ⟨Or.inl ⟨by rfl, ?_⟩, fun _ => by rfl⟩ ?_
                  rotate_left
                  · intro w
                    go_simp
                    try with_reducible rfl
                  try simp only [Act.put]
                  refine wpAnyIn_ready (rs := [12]) (by kernel_rfl) (by simp) ?_
                  refine AllReadyIn.cons rfl (fun K hK => ?_) ?_
                  · go_simp
                    refine hK _ _ ?_
                    clear hK K
                    try simp only [Act.put, List.setIfInBounds_toArray, List.set_cons_zero, List.set_cons_succ]
                    refine wpAnyIn_done (by kernel_rfl) ?_ _
                    have b18 := (HB1.out.below' z8).alloc (.cells #[.int .i64 (j : Int), .int .i64 ((i - j : Nat) : Int)] 2)
                    have b28 := (HB2.out.below' z8).alloc (.cells #[.int .i64 (j : Int), .int .i64 ((i - j : Nat) : Int)] 2)
                    have u0 := b18.cell 0
                    have u1 := b18.cell 1
                    have u2 := b18.cell 2
                    have f0 := b18.frozen 0
                    have f1 := b18.frozen 1
                    have f2 := b18.frozen 2
                    have v0 := b28.cell 0
                    have g0 := b28.frozen 0
                    clear HFA
                    gi_wp2
                    exact HDY.out W8 z8
                  exact AllReadyIn.nil
                exact AllReadyIn.nil
              exact AllReadyIn.nil
            exact AllReadyIn.nil
          exact AllReadyIn.nil
        exact AllReadyIn.nil
      | none =>
        rw [hpv] at HKEY
        have HKN : Hid (mapK p.it i (confT (p.it i)) = none) := HKEY
        have HFN : Hid (firstTo p.it (i + 1) = none) := Lib.hid (firstTo_skip HF1.out hpv)
        have HDN : Hid (∀ W8 W9 : World, Below W.heap.size W W8 → StrMap W9 W2.heap.size (i + 1) (fun t => if t = confT (p.it i) then some (i : Int) else mapK p.it i t) → W8.grownBy W9 (some W2.heap.size) → KeepsBook W W9 ∧ i ≤ p.most ∧ Alive p.sy p.rs p.c i ∧ StS p i (fcD g p.it (w.heap.size + 1) (w.heap.size + 1 + 1) (W2.heap.size + 1) (W2.heap.size + 1 + 1) W2.heap.size (i + 1)) W9) := Lib.hid (fun W8 W9 z8 hm9 hg9 => by
          have hgW : W.grownBy W9 (some W2.heap.size) := ⟨hg9.os.trans z8.os, hg9.tape.trans z8.tape, hg9.output.trans z8.output, Nat.le_trans z8.size hg9.size, fun k hk hne => (hg9.block k (Nat.lt_of_lt_of_le hk z8.size) hne).trans (z8.block k hk)⟩
          have hz4 := HZ4.out
          obtain ⟨j1, j2⟩ := fc_round HO.out ⟨HX1.out.1, HX1.out.2.1, HX1.out.2.2.1, HX1.out.2.2.2.1, HX1.out.2.2.2.2, HB1.out, HB2.out, HB3.out, HB4.out, HM.out, HF1.out⟩ (hm9.congr (mapK_new HKN.out)) hgW HFN.out (by omega) (by omega) (by omega) (by omega)
            (by rw [HPS.out.2.2.2.2.2.2.1]; omega) (by rw [HPS.out.2.2.2.2.2.2.2]; omega) (by rw [HPW.out]; omega)
          exact ⟨j1, hi, HAL.out, j2⟩)
        clear hpv
        gi_wp2
        refine wpIn_region_any (by kernel_rfl) ?_
        try (change wpAnyIn _ _ _ _ _ _ _ _ _ (World.drew _))
        refine wpAnyIn_takeR (i := 4) (v := ?_) (by kernel_rfl) rfl (by kernel_rfl) (by kernel_rfl) (by kernel_rfl) (fun _ _ _ h => h) ⟨Or.inl ⟨by rfl, ?_⟩, fun _ => by rfl⟩ ?_
        rotate_left
        · intro w
          go_simp
          try with_reducible rfl
        try simp only [Act.put, List.setIfInBounds_toArray]
        refine wpAnyIn_ready (rs := [0, 1]) (by kernel_rfl) (by simp) ?_
        refine AllReadyIn.cons rfl (fun K hK => ?_) ?_
        · go_simp
          refine hK _ _ ?_
          clear hK K
          try simp only [Act.put, List.setIfInBounds_toArray, List.set_cons_zero, List.set_cons_succ]
          refine wpAnyIn_ready (rs := [1]) (by kernel_rfl) (by simp) ?_
          refine AllReadyIn.cons rfl (fun K hK => ?_) ?_
          · go_simp
            refine hK _ _ ?_
            clear hK K
            try simp only [Act.put, List.setIfInBounds_toArray, List.set_cons_zero, List.set_cons_succ]
            refine wpAnyIn_ready (rs := [2]) (by kernel_rfl) (by simp) ?_
            refine AllReadyIn.cons rfl (fun K hK => ?_) ?_
            · go_simp
              refine ⟨trivial, (CallsIn.inRound l (callsIn_wide.2 HCONF.out)).mono ?_⟩
              rintro e W7 ⟨L7, a7, R7, d7, rfl, oL7, oR7, hap7, z7'⟩
              have z7 : Below W.heap.size W W7 := below_undrew (n := 1) z7'
              have HCT := Lib.hid (configText_any qn L7 (p.it i).xs.length a7 (p.it i).xs R7 (p.it i).ys.length d7 (p.it i).ys W7 oL7.rd oR7.rd (by omega) (by omega) (by omega) HG1.out HG2.out (HTW.out.below z7))
              have b47 := HB4.out.below' z7
              have c47 : W7.cell? ⟨W2.heap.size + 1 + 1, 0, none⟩ = some (.map (some W2.heap.size)) := b47.cell 0
              rw [HQN.out]
              clear hap7 z7' oL7 oR7 b47
              refine hK _ _ ?_
              clear hK K
              try simp only [Act.put, List.setIfInBounds_toArray, List.set_cons_zero, List.set_cons_succ]
              refine wpAnyIn_ready (rs := [3]) (by kernel_rfl) (by simp) ?_
              refine AllReadyIn.cons rfl (fun K hK => ?_) ?_
              · go_simp
                refine ⟨trivial, (CallsIn.inRound l (callsIn_wide.2 HCT.out)).mono ?_⟩
                rintro e W8 ⟨rfl, z8'⟩
                have z8 : Below W.heap.size W W8 := z7.trans (z8'.mono z7.size)
                have b48 := HB4.out.below' z8
                have c48 : W8.cell? ⟨W2.heap.size + 1 + 1, 0, none⟩ = some (.map (some W2.heap.size)) := b48.cell 0
                have hsm8 := HM.out.keep (z8.block W2.heap.size HM.out.lt)
                have HFA := Lib.hid (firstAgain_no W2.heap.size i (mapK p.it i) (confT (p.it i)) (i : Int) W8 hsm8 (by unfold maxLen; omega) HKL.out HKN.out (by omega) (by omega))
                rw [HEQ.out]
                clear z8' HCT b48 hsm8
                refine hK _ _ ?_
                clear hK K
                try simp only [Act.put, List.setIfInBounds_toArray, List.set_cons_zero, List.set_cons_succ]
                refine wpAnyIn_ready (rs := [5]) (by kernel_rfl) (by simp) ?_
                refine AllReadyIn.cons rfl (fun K hK => ?_) ?_
                · go_simp
                  refine ⟨trivial, (CallsIn.inRound l (callsIn_wide.2 HFA.out)).mono ?_⟩
                  rintro e W9 ⟨rfl, hm9, hg9⟩
                  refine hK _ _ ?_
                  clear hK K
                  try simp only [Act.put, List.setIfInBounds_toArray, List.set_cons_zero, List.set_cons_succ]
                  refine wpAnyIn_takeR (i := 6) (v := ?_) (by kernel_rfl) rfl (by kernel_rfl) (by kernel_rfl) (by kernel_rfl) (fun _ _ _ h => h) ⟨Or.inl ⟨by rfl, ?_⟩, fun _ => by rfl⟩ ?_
                  rotate_left
                  · intro w
                    go_simp
                    try with_reducible rfl
                  try simp only [Act.put, List.setIfInBounds_toArray]
                  refine wpAnyIn_takeR (i := 7) (v := ?_) (by kernel_rfl) rfl (by kernel_rfl) (by kernel_rfl) (by kernel_rfl) (fun _ _ _ h => h) ⟨Or.inl ⟨by rfl, ?_⟩, fun _ => by rfl⟩ ?_
                  rotate_left
                  · intro w
                    go_simp
                    try with_reducible rfl
                  try simp only [Act.put]
                  refine wpAnyIn_takeR (i := 8) (v := ?_) (by kernel_rfl) rfl (by kernel_rfl) (by kernel_rfl) (by kernel_rfl) (fun _ _ _ h => h) ⟨Or.inl ⟨by rfl, ?_⟩, fun _ => by rfl⟩ ?_
                  rotate_left
                  · intro w
                    go_simp
                    try with_reducible rfl
                  try simp only [Act.put]
                  refine wpAnyIn_takeR (i := 9) (v := ?_) (by kernel_rfl) rfl (by kernel_rfl) (by kernel_rfl) (by kernel_rfl) (fun _ _ _ h => h) ⟨Or.inl ⟨by rfl, ?_⟩, fun _ => by rfl⟩ ?_
                  rotate_left
                  · intro w
                    go_simp
                    try with_reducible rfl
                  try simp only [Act.put]
                  refine wpAnyIn_takeR (i := 10) (v := ?_) (by kernel_rfl) rfl (by kernel_rfl) (by kernel_rfl) (by kernel_rfl) (fun _ _ _ h => h) ⟨Or.inl ⟨by rfl, ?_⟩, fun _ => by rfl⟩ ?_
                  rotate_left
                  · intro w
                    go_simp
                    try with_reducible rfl
                  try simp only [Act.put]
                  refine wpAnyIn_takeR (i := 11) (v := ?_) (by kernel_rfl) rfl (by kernel_rfl) (by kernel_rfl) (by kernel_rfl) (fun _ _ _ h => h) ⟨Or.inl ⟨by rfl, ?_⟩, fun _ => by rfl⟩ ?_
                  rotate_left
                  · intro w
                    go_simp
                    try with_reducible rfl
                  try simp only [Act.put]
                  refine wpAnyIn_ready (rs := [12]) (by kernel_rfl) (by simp) ?_
                  refine AllReadyIn.cons rfl (fun K hK => ?_) ?_
                  · go_simp
                    refine hK _ _ ?_
                    clear hK K
                    try simp only [Act.put, List.setIfInBounds_toArray, List.set_cons_zero, List.set_cons_succ]
                    refine wpAnyIn_done (by kernel_rfl) ?_ _
                    gi_wp2
                    exact HDN.out W8 W9 z8 hm9 hg9
                  exact AllReadyIn.nil
                exact AllReadyIn.nil
              exact AllReadyIn.nil
            exact AllReadyIn.nil
          exact AllReadyIn.nil
        refine AllReadyIn.cons rfl (fun K hK => ?_) ?_
        · go_simp
          refine hK _ _ ?_
          clear hK K
          try simp only [Act.put, List.setIfInBounds_toArray, List.set_cons_zero, List.set_cons_succ]
          refine wpAnyIn_ready (rs := [0, 2]) (by kernel_rfl) (by simp) ?_
          refine AllReadyIn.cons rfl (fun K hK => ?_) ?_
          · go_simp
            refine hK _ _ ?_
            clear hK K
            try simp only [Act.put, List.setIfInBounds_toArray, List.set_cons_zero, List.set_cons_succ]
            refine wpAnyIn_ready (rs := [2]) (by kernel_rfl) (by simp) ?_
            refine AllReadyIn.cons rfl (fun K hK => ?_) ?_
            · go_simp
              refine ⟨trivial, (CallsIn.inRound l (callsIn_wide.2 HCONF.out)).mono ?_⟩
              rintro e W7 ⟨L7, a7, R7, d7, rfl, oL7, oR7, hap7, z7'⟩
              have z7 : Below W.heap.size W W7 := below_undrew (n := 1) z7'
              have HCT := Lib.hid (configText_any qn L7 (p.it i).xs.length a7 (p.it i).xs R7 (p.it i).ys.length d7 (p.it i).ys W7 oL7.rd oR7.rd (by omega) (by omega) (by omega) HG1.out HG2.out (HTW.out.below z7))
              have b47 := HB4.out.below' z7
              have c47 : W7.cell? ⟨W2.heap.size + 1 + 1, 0, none⟩ = some (.map (some W2.heap.size)) := b47.cell 0
              rw [HQN.out]
              clear hap7 z7' oL7 oR7 b47
              refine hK _ _ ?_
              clear hK K
              try simp only [Act.put, List.setIfInBounds_toArray, List.set_cons_zero, List.set_cons_succ]
              refine wpAnyIn_ready (rs := [3]) (by kernel_rfl) (by simp) ?_
              refine AllReadyIn.cons rfl (fun K hK => ?_) ?_
              · go_simp
                refine ⟨trivial, (CallsIn.inRound l (callsIn_wide.2 HCT.out)).mono ?_⟩
                rintro e W8 ⟨rfl, z8'⟩
                have z8 : Below W.heap.size W W8 := z7.trans (z8'.mono z7.size)
                have b48 := HB4.out.below' z8
                have c48 : W8.cell? ⟨W2.heap.size + 1 + 1, 0, none⟩ = some (.map (some W2.heap.size)) := b48.cell 0
                have hsm8 := HM.out.keep (z8.block W2.heap.size HM.out.lt)
                have HFA := Lib.hid (firstAgain_no W2.heap.size i (mapK p.it i) (confT (p.it i)) (i : Int) W8 hsm8 (by unfold maxLen; omega) HKL.out HKN.out (by omega) (by omega))
                rw [HEQ.out]
                clear z8' HCT b48 hsm8
                refine hK _ _ ?_
                clear hK K
                try simp only [Act.put, List.setIfInBounds_toArray, List.set_cons_zero, List.set_cons_succ]
                refine wpAnyIn_ready (rs := [5]) (by kernel_rfl) (by simp) ?_
                refine AllReadyIn.cons rfl (fun K hK => ?_) ?_
                · go_simp
                  refine ⟨trivial, (CallsIn.inRound l (callsIn_wide.2 HFA.out)).mono ?_⟩
                  rintro e W9 ⟨rfl, hm9, hg9⟩
                  refine hK _ _ ?_
                  clear hK K
                  try simp only [Act.put, List.setIfInBounds_toArray, List.set_cons_zero, List.set_cons_succ]
                  refine wpAnyIn_takeR (i := 6) (v := ?_) (by kernel_rfl) rfl (by kernel_rfl) (by kernel_rfl) (by kernel_rfl) (fun _ _ _ h => h) ⟨Or.inl ⟨by rfl, ?_⟩, fun _ => by rfl⟩ ?_
                  rotate_left
                  · intro w
                    go_simp
                    try with_reducible rfl
                  try simp only [Act.put, List.setIfInBounds_toArray]
                  refine wpAnyIn_takeR (i := 7) (v := ?_) (by kernel_rfl) rfl (by kernel_rfl) (by kernel_rfl) (by kernel_rfl) (fun _ _ _ h => h) ⟨Or.inl ⟨by rfl, ?_⟩, fun _ => by rfl⟩ ?_
                  rotate_left
                  · intro w
                    go_simp
                    try with_reducible rfl
                  try simp only [Act.put]
                  refine wpAnyIn_takeR (i := 8) (v := ?_) (by kernel_rfl) rfl (by kernel_rfl) (by kernel_rfl) (by kernel_rfl) (fun _ _ _ h => h) ⟨Or.inl ⟨by rfl, ?_⟩, fun _ => by rfl⟩ ?_
                  rotate_left
                  · intro w
                    go_simp
                    try with_reducible rfl
                  try simp only [Act.put]
                  refine wpAnyIn_takeR (i := 9) (v := ?_) (by kernel_rfl) rfl (by kernel_rfl) (by kernel_rfl) (by kernel_rfl) (fun _ _ _ h => h) ⟨Or.inl ⟨by rfl, ?_⟩, fun _ => by rfl⟩ ?_
                  rotate_left
                  · intro w
                    go_simp
                    try with_reducible rfl
                  try simp only [Act.put]
                  refine wpAnyIn_takeR (i := 10) (v := ?_) (by kernel_rfl) rfl (by kernel_rfl) (by kernel_rfl) (by kernel_rfl) (fun _ _ _ h => h) ⟨Or.inl ⟨by rfl, ?_⟩, fun _ => by rfl⟩ ?_
                  rotate_left
                  · intro w
                    go_simp
                    try with_reducible rfl
                  try simp only [Act.put]
                  refine wpAnyIn_takeR (i := 11) (v := ?_) (by kernel_rfl) rfl (by kernel_rfl) (by kernel_rfl) (by kernel_rfl) (fun _ _ _ h => h) ⟨Or.inl ⟨by rfl, ?_⟩, fun _ => by rfl⟩ ?_
                  rotate_left
                  · intro w
                    go_simp
                    try with_reducible rfl
                  try simp only [Act.put]
                  refine wpAnyIn_ready (rs := [12]) (by kernel_rfl) (by simp) ?_
                  refine AllReadyIn.cons rfl (fun K hK => ?_) ?_
                  · go_simp
                    refine hK _ _ ?_
                    clear hK K
                    try simp only [Act.put, List.setIfInBounds_toArray, List.set_cons_zero, List.set_cons_succ]
                    refine wpAnyIn_done (by kernel_rfl) ?_ _
                    gi_wp2
                    exact HDN.out W8 W9 z8 hm9 hg9
                  exact AllReadyIn.nil
                exact AllReadyIn.nil
              exact AllReadyIn.nil
            exact AllReadyIn.nil
          refine AllReadyIn.cons rfl (fun K hK => ?_) ?_
          · go_simp
            refine ⟨trivial, (CallsIn.inRound l (callsIn_wide.2 HCONF.out)).mono ?_⟩
            rintro e W7 ⟨L7, a7, R7, d7, rfl, oL7, oR7, hap7, z7'⟩
            have z7 : Below W.heap.size W W7 := below_undrew (n := 1) z7'
            have HCT := Lib.hid (configText_any qn L7 (p.it i).xs.length a7 (p.it i).xs R7 (p.it i).ys.length d7 (p.it i).ys W7 oL7.rd oR7.rd (by omega) (by omega) (by omega) HG1.out HG2.out (HTW.out.below z7))
            have b47 := HB4.out.below' z7
            have c47 : W7.cell? ⟨W2.heap.size + 1 + 1, 0, none⟩ = some (.map (some W2.heap.size)) := b47.cell 0
            rw [HQN.out]
            clear hap7 z7' oL7 oR7 b47
            refine hK _ _ ?_
            clear hK K
            try simp only [Act.put, List.setIfInBounds_toArray, List.set_cons_zero, List.set_cons_succ]
            refine wpAnyIn_ready (rs := [0, 3]) (by kernel_rfl) (by simp) ?_
            refine AllReadyIn.cons rfl (fun K hK => ?_) ?_
            · go_simp
              refine hK _ _ ?_
              clear hK K
              try simp only [Act.put, List.setIfInBounds_toArray, List.set_cons_zero, List.set_cons_succ]
              refine wpAnyIn_ready (rs := [3]) (by kernel_rfl) (by simp) ?_
              refine AllReadyIn.cons rfl (fun K hK => ?_) ?_
              · go_simp
                refine ⟨trivial, (CallsIn.inRound l (callsIn_wide.2 HCT.out)).mono ?_⟩
                rintro e W8 ⟨rfl, z8'⟩
                have z8 : Below W.heap.size W W8 := z7.trans (z8'.mono z7.size)
                have b48 := HB4.out.below' z8
                have c48 : W8.cell? ⟨W2.heap.size + 1 + 1, 0, none⟩ = some (.map (some W2.heap.size)) := b48.cell 0
                have hsm8 := HM.out.keep (z8.block W2.heap.size HM.out.lt)
                have HFA := Lib.hid (firstAgain_no W2.heap.size i (mapK p.it i) (confT (p.it i)) (i : Int) W8 hsm8 (by unfold maxLen; omega) HKL.out HKN.out (by omega) (by omega))
                rw [HEQ.out]
                clear z8' HCT b48 hsm8
                refine hK _ _ ?_
                clear hK K
                try simp only [Act.put, List.setIfInBounds_toArray, List.set_cons_zero, List.set_cons_succ]
                refine wpAnyIn_ready (rs := [5]) (by kernel_rfl) (by simp) ?_
                refine AllReadyIn.cons rfl (fun K hK => ?_) ?_
                · go_simp
                  refine ⟨trivial, (CallsIn.inRound l (callsIn_wide.2 HFA.out)).mono ?_⟩
                  rintro e W9 ⟨rfl, hm9, hg9⟩
                  refine hK _ _ ?_
                  clear hK K
                  try simp only [Act.put, List.setIfInBounds_toArray, List.set_cons_zero, List.set_cons_succ]
                  refine wpAnyIn_takeR (i := 6) (v := ?_) (by kernel_rfl) rfl (by kernel_rfl) (by kernel_rfl) (by kernel_rfl) (fun _ _ _ h => h) ⟨Or.inl ⟨by rfl, ?_⟩, fun _ => by rfl⟩ ?_
                  rotate_left
                  · intro w
                    go_simp
                    try with_reducible rfl
                  try simp only [Act.put, List.setIfInBounds_toArray]
                  refine wpAnyIn_takeR (i := 7) (v := ?_) (by kernel_rfl) rfl (by kernel_rfl) (by kernel_rfl) (by kernel_rfl) (fun _ _ _ h => h) ⟨Or.inl ⟨by rfl, ?_⟩, fun _ => by rfl⟩ ?_
                  rotate_left
                  · intro w
                    go_simp
                    try with_reducible rfl
                  try simp only [Act.put]
                  refine wpAnyIn_takeR (i := 8) (v := ?_) (by kernel_rfl) rfl (by kernel_rfl) (by kernel_rfl) (by kernel_rfl) (fun _ _ _ h => h) ⟨Or.inl ⟨by rfl, ?_⟩, fun _ => by rfl⟩ ?_
                  rotate_left
                  · intro w
                    go_simp
                    try with_reducible rfl
                  try simp only [Act.put]
                  refine wpAnyIn_takeR (i := 9) (v := ?_) (by kernel_rfl) rfl (by kernel_rfl) (by kernel_rfl) (by kernel_rfl) (fun _ _ _ h => h) ⟨Or.inl ⟨by rfl, ?_⟩, fun _ => by rfl⟩ ?_
                  rotate_left
                  · intro w
                    go_simp
                    try with_reducible rfl
                  try simp only [Act.put]
                  refine wpAnyIn_takeR (i := 10) (v := ?_) (by kernel_rfl) rfl (by kernel_rfl) (by kernel_rfl) (by kernel_rfl) (fun _ _ _ h => h) ⟨Or.inl ⟨by rfl, ?_⟩, fun _ => by rfl⟩ ?_
                  rotate_left
                  · intro w
                    go_simp
                    try with_reducible rfl
                  try simp only [Act.put]
                  refine wpAnyIn_takeR (i := 11) (v := ?_) (by kernel_rfl) rfl (by kernel_rfl) (by kernel_rfl) (by kernel_rfl) (fun _ _ _ h => h) ⟨Or.inl ⟨by rfl, ?_⟩, fun _ => by rfl⟩ ?_
                  rotate_left
                  · intro w
                    go_simp
                    try with_reducible rfl
                  try simp only [Act.put]
                  refine wpAnyIn_ready (rs := [12]) (by kernel_rfl) (by simp) ?_
                  refine AllReadyIn.cons rfl (fun K hK => ?_) ?_
                  · go_simp
                    refine hK _ _ ?_
                    clear hK K
                    try simp only [Act.put, List.setIfInBounds_toArray, List.set_cons_zero, List.set_cons_succ]
                    refine wpAnyIn_done (by kernel_rfl) ?_ _
                    gi_wp2
                    exact HDN.out W8 W9 z8 hm9 hg9
                  exact AllReadyIn.nil
                exact AllReadyIn.nil
              exact AllReadyIn.nil
            refine AllReadyIn.cons rfl (fun K hK => ?_) ?_
            · go_simp
              refine ⟨trivial, (CallsIn.inRound l (callsIn_wide.2 HCT.out)).mono ?_⟩
              rintro e W8 ⟨rfl, z8'⟩
              have z8 : Below W.heap.size W W8 := z7.trans (z8'.mono z7.size)
              have b48 := HB4.out.below' z8
              have c48 : W8.cell? ⟨W2.heap.size + 1 + 1, 0, none⟩ = some (.map (some W2.heap.size)) := b48.cell 0
              have hsm8 := HM.out.keep (z8.block W2.heap.size HM.out.lt)
              have HFA := Lib.hid (firstAgain_no W2.heap.size i (mapK p.it i) (confT (p.it i)) (i : Int) W8 hsm8 (by unfold maxLen; omega) HKL.out HKN.out (by omega) (by omega))
              rw [HEQ.out]
              clear z8' HCT b48 hsm8
              refine hK _ _ ?_
              clear hK K
              try simp only [Act.put, List.setIfInBounds_toArray, List.set_cons_zero, List.set_cons_succ]
              refine wpAnyIn_ready (rs := [0]) (by kernel_rfl) (by simp) ?_
              refine AllReadyIn.cons rfl (fun K hK => ?_) ?_
              · go_simp
                refine hK _ _ ?_
                clear hK K
                try simp only [Act.put, List.setIfInBounds_toArray, List.set_cons_zero, List.set_cons_succ]
                refine wpAnyIn_ready (rs := [5]) (by kernel_rfl) (by simp) ?_
                refine AllReadyIn.cons rfl (fun K hK => ?_) ?_
                · go_simp
                  refine ⟨trivial, (CallsIn.inRound l (callsIn_wide.2 HFA.out)).mono ?_⟩
                  rintro e W9 ⟨rfl, hm9, hg9⟩
                  refine hK _ _ ?_
                  clear hK K
                  try simp only [Act.put, List.setIfInBounds_toArray, List.set_cons_zero, List.set_cons_succ]
                  refine wpAnyIn_takeR (i := 6) (v := ?_) (by kernel_rfl) rfl (by kernel_rfl) (by kernel_rfl) (by kernel_rfl) (fun _ _ _ h => h) ⟨Or.inl ⟨by rfl, ?_⟩, fun _ => by rfl⟩ ?_
                  rotate_left
                  · intro w
                    go_simp
                    try with_reducible rfl
                  try simp only [Act.put, List.setIfInBounds_toArray]
                  refine wpAnyIn_takeR (i := 7) (v := ?_) (by kernel_rfl) rfl (by kernel_rfl) (by kernel_rfl) (by kernel_rfl) (fun _ _ _ h => h) ⟨Or.inl ⟨by rfl, ?_⟩, fun _ => by rfl⟩ ?_
                  rotate_left
                  · intro w
                    go_simp
                    try with_reducible rfl
                  try simp only [Act.put]
                  refine wpAnyIn_takeR (i := 8) (v := ?_) (by kernel_rfl) rfl (by kernel_rfl) (by kernel_rfl) (by kernel_rfl) (fun _ _ _ h => h) ⟨Or.inl ⟨by rfl, ?_⟩, fun _ => by rfl⟩ ?_
                  rotate_left
                  · intro w
                    go_simp
                    try with_reducible rfl
                  try simp only [Act.put]
                  refine wpAnyIn_takeR (i := 9) (v := ?_) (by kernel_rfl) rfl (by kernel_rfl) (by kernel_rfl) (by kernel_rfl) (fun _ _ _ h => h) ⟨Or.inl ⟨by rfl, ?_⟩, fun _ => by rfl⟩ ?_
                  rotate_left
                  · intro w
                    go_simp
                    try with_reducible rfl
                  try simp only [Act.put]
                  refine wpAnyIn_takeR (i := 10) (v := ?_) (by kernel_rfl) rfl (by kernel_rfl) (by kernel_rfl) (by kernel_rfl) (fun _ _ _ h => h) ⟨Or.inl ⟨by rfl, ?_⟩, fun _ => by rfl⟩ ?_
                  rotate_left
                  · intro w
                    go_simp
                    try with_reducible rfl
                  try simp only [Act.put]
                  refine wpAnyIn_takeR (i := 11) (v := ?_) (by kernel_rfl) rfl (by kernel_rfl) (by kernel_rfl) (by kernel_rfl) (fun _ _ _ h => h) ⟨Or.inl ⟨by rfl, ?_⟩, fun _ => by rfl⟩ ?_
                  rotate_left
                  · intro w
                    go_simp
                    try with_reducible rfl
                  try simp only [Act.put]
                  refine wpAnyIn_ready (rs := [12]) (by kernel_rfl) (by simp) ?_
                  refine AllReadyIn.cons rfl (fun K hK => ?_) ?_
                  · go_simp
                    refine hK _ _ ?_
                    clear hK K
                    try simp only [Act.put, List.setIfInBounds_toArray, List.set_cons_zero, List.set_cons_succ]
                    refine wpAnyIn_done (by kernel_rfl) ?_ _
                    gi_wp2
                    exact HDN.out W8 W9 z8 hm9 hg9
                  exact AllReadyIn.nil
                exact AllReadyIn.nil
              exact AllReadyIn.nil
            exact AllReadyIn.nil
          exact AllReadyIn.nil
        exact AllReadyIn.nil
  case done =>
    rintro D W hD ⟨i, hend, hst⟩ hK
    obtain ⟨X, hO, x1, x2, x3, x4, x5, b1, b2, b3, b4, hm, hf1⟩ := hst.op
    have hend' : Ended p.sy p.rs blankC p.most i := by have := hend; rwa [HPS.out.2.2.1] at this
    have HEN := Lib.hid hend'
    have hf1' : firstTo (itC p.sy p.rs blankC) (i + 1) = none := by have := hf1; rwa [show p.it = itC p.sy p.rs blankC by rw [← HPS.out.2.2.1]] at this
    have HF1 := Lib.hid hf1'
    have hhalt := halts_c hO.run (hok.rules.below hO.low) (hend.2.1.good hok.good) hok.hn
    rw [show p.g = g from HPS.out.2.2.2.2.1, show p.it i = itC p.sy p.rs blankC i by rw [← HPS.out.2.2.1]] at hhalt
    have HHALT := Lib.hid hhalt
    have c3 : W.cell? ⟨W2.heap.size + 1, 0, none⟩ = some (.pointer (some ⟨g, 0, none⟩)) := b3.cell 0
    have hz : Below w.heap.size w W := by have := hO.low; rwa [HPW.out] at this
    clear hend hend' hst hf1 hf1' hhalt hO hm b4 b3 x1 x2 x3 x4 x5
    go_wp2_with fail
    refine HHALT.out.mono ?_
    rintro e W7 ⟨rfl, z7⟩
    have b17 := b1.below' z7
    have b27 := b2.below' z7
    have hz7 := hz.trans (z7.mono hz.size)
    have u0 : W7.cell? ⟨(w.heap.size + 1), 0, none⟩ = some (.int .i64 0) := b17.cell 0
    have u1 : W7.cell? ⟨(w.heap.size + 1), 1, none⟩ = some (.slice none 0 0) := b17.cell 1
    have u2 : W7.cell? ⟨(w.heap.size + 1), 2, none⟩ = some (.slice none 0 0) := b17.cell 2
    have f0 := b17.frozen 0
    have f1 := b17.frozen 1
    have f2 := b17.frozen 2
    have v0 : W7.cell? ⟨w.heap.size + 1 + 1, 0, none⟩ = some (.int .i64 0) := b27.cell 0
    have g0 := b27.frozen 0
    clear c3 HHALT
    cases hh : haltC p.sy p.rs (itC p.sy p.rs blankC i) with
    | true =>
        have HF := Lib.hid (findCycF_halt HCP.out HEN.out hh)
        clear hh HEN HF1
        go_wp2_with fail
        have d1 := (conf_set b17 (.int .i64 0) (.slice none 0 0) (.slice none 0 0)).far (p := ⟨w.heap.size + 1 + 1, 0, none⟩) (show w.heap.size + 1 ≠ w.heap.size + 1 + 1 by omega) (.int .i64 3)
        have d2 := (blk_conf_far b27 (g := w.heap.size + 1) (by omega) (.int .i64 0) (.slice none 0 0) (.slice none 0 0)).set_ 0 (.int .i64 3)
        have dz := (conf_below hz7 (show w.heap.size ≤ w.heap.size + 1 by omega) (.int .i64 0) (.slice none 0 0) (.slice none 0 0)).setCell (p := ⟨w.heap.size + 1 + 1, 0, none⟩) (show w.heap.size ≤ w.heap.size + 1 + 1 by omega) (.int .i64 3)
        have hK7 := ((((((keeps_below z7).trans (KeepsBook.setCell W7 ⟨w.heap.size + 1, 0, none⟩ (.int .i64 0))).trans (KeepsBook.setCell _ ⟨w.heap.size + 1, 1, none⟩ (.slice none 0 0))).trans (KeepsBook.setCell _ ⟨w.heap.size + 1, 2, none⟩ (.slice none 0 0))).trans (KeepsBook.setCell _ ⟨w.heap.size + 1 + 1, 0, none⟩ (.int .i64 3)))).same D _ hK rfl
        generalize (((W7.setCell ⟨w.heap.size + 1, 0, none⟩ (.int .i64 0)).setCell ⟨w.heap.size + 1, 1, none⟩ (.slice none 0 0)).setCell ⟨w.heap.size + 1, 2, none⟩ (.slice none 0 0)).setCell ⟨w.heap.size + 1 + 1, 0, none⟩ (.int .i64 3) = Wf at *
        have k1 := d1.put (.deferred none) hK7 rfl
        have k2 := d2.put (.deferred none) hK7 rfl
        refine ⟨by simp, .inl ⟨_, _, rfl, run_takeDeferred hK7, ?_⟩⟩
        exact ⟨.tuple #[.agg #[.int .i64 0, .slice none 0 0, .slice none 0 0], .int .i64 3], by simp [results, Tryz.results7, go_sem, k1.cell 0, k1.cell 1, k1.cell 2, k2.cell 0], newPrf2_zero (HRES.out.trans HF.out) (below_put dz (by have := HZ06.out.size; omega) _ hK7)⟩
    | false =>
        have hiN : i = p.most := by
          rcases HEN.out.2.2 with h | h
          · exact h
          · rw [hh] at h; cases h
        have HF := Lib.hid (findCycF_none HCP.out HEN.out hh (by rw [← hiN]; exact HF1.out))
        clear hh HEN HF1
        go_wp2_with fail
        have d1 := (conf_set b17 (.int .i64 0) (.slice none 0 0) (.slice none 0 0)).far (p := ⟨w.heap.size + 1 + 1, 0, none⟩) (show w.heap.size + 1 ≠ w.heap.size + 1 + 1 by omega) (.int .i64 6)
        have d2 := (blk_conf_far b27 (g := w.heap.size + 1) (by omega) (.int .i64 0) (.slice none 0 0) (.slice none 0 0)).set_ 0 (.int .i64 6)
        have dz := (conf_below hz7 (show w.heap.size ≤ w.heap.size + 1 by omega) (.int .i64 0) (.slice none 0 0) (.slice none 0 0)).setCell (p := ⟨w.heap.size + 1 + 1, 0, none⟩) (show w.heap.size ≤ w.heap.size + 1 + 1 by omega) (.int .i64 6)
        have hK7 := ((((((keeps_below z7).trans (KeepsBook.setCell W7 ⟨w.heap.size + 1, 0, none⟩ (.int .i64 0))).trans (KeepsBook.setCell _ ⟨w.heap.size + 1, 1, none⟩ (.slice none 0 0))).trans (KeepsBook.setCell _ ⟨w.heap.size + 1, 2, none⟩ (.slice none 0 0))).trans (KeepsBook.setCell _ ⟨w.heap.size + 1 + 1, 0, none⟩ (.int .i64 6)))).same D _ hK rfl
        generalize (((W7.setCell ⟨w.heap.size + 1, 0, none⟩ (.int .i64 0)).setCell ⟨w.heap.size + 1, 1, none⟩ (.slice none 0 0)).setCell ⟨w.heap.size + 1, 2, none⟩ (.slice none 0 0)).setCell ⟨w.heap.size + 1 + 1, 0, none⟩ (.int .i64 6) = Wf at *
        have k1 := d1.put (.deferred none) hK7 rfl
        have k2 := d2.put (.deferred none) hK7 rfl
        refine ⟨by simp, .inl ⟨_, _, rfl, run_takeDeferred hK7, ?_⟩⟩
        exact ⟨.tuple #[.agg #[.int .i64 0, .slice none 0 0, .slice none 0 0], .int .i64 6], by simp [results, Tryz.results7, go_sem, k1.cell 0, k1.cell 1, k1.cell 2, k2.cell 0], newPrf2_zero (HRES.out.trans HF.out) (below_put dz (by have := HZ06.out.size; omega) _ hK7)⟩
  case stop =>
    rintro D c' W hD ⟨x, rfl, hz, L, cc, R, d, b1, b2, ho⟩ hK
    generalize findCycF sy st rs (N : Int) = res at *
    refine wpIn_wide.2 ?_
    go_wp2_with fail
    have d1 := b1.put (.deferred none) hK rfl
    have d2 := b2.put (.deferred none) hK rfl
    have do_ := ho.put (.deferred none) hK rfl
    rw [HPW.out] at hz do_
    have dz := below_put hz (by have := HZ06.out.size; omega) (.deferred none) hK
    refine ⟨by simp, .inl ⟨_, _, rfl, run_takeDeferred hK, ?_⟩⟩
    exact ⟨.tuple #[.agg #[.int .i64 res.1.1, .slice L res.1.2.length cc, .slice R 0 d], .int .i64 res.2], by simp [results, Tryz.results7, go_sem, d1.cell 0, d1.cell 1, d1.cell 2, d2.cell 0], L, cc, R, d, rfl, do_, dz⟩
end Go.Proofs.YtdlojbabnelbdaaGreatDoor
