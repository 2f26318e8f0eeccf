/-
  Contracts of impl's traceOf and TraceMachine.
-/
import Derived.Test.YtbedghebckflmaaTraceP
import Derived.Test.YtbedghebckflmaaStepsT
import Derived.RegionIn
namespace Go.Proofs.Ytbedghebckflmaa
open Go.RowKit Go.Shelf
attribute [local go_sem] Oper.semAt_some

/-- What traceOf's own cells hold ahead of round i. -/
def trcD (lo : Nat) (g : Nat) (sy : Int) (rs : List R3) (c : Conf) (s1 s2 s3 s4 i : Nat) (X : Nat → Prop) (W : World) : Prop :=
  X s1 ∧ X s2 ∧ X s3 ∧ X s4 ∧ Blk W s1 65 #[.slice none 0 0] ∧ Blk W s2 2 #[.int .i64 0] ∧ Blk W s3 98 #[.pointer (some ⟨g, 0, none⟩)] ∧
    ∃ A a ts, Blk W s4 65 #[.slice A i a] ∧ OCs W lo A i a ts ∧ confs ts = traceTo sy rs c i ∧ (∀ b, RecsB A (ts.flatMap Cf.rows) b → X b)
theorem trcD_st (lo g : Nat) (sy : Int) (rs : List R3) (c : Conf) (s1 s2 s3 s4 i : Nat) : StD (trcD lo g sy rs c s1 s2 s3 s4 i) := by
  rintro X W W' ⟨x1, x2, x3, x4, b1, b2, b3, A, a, ts, b4, ho, hc, hX⟩ hf
  exact ⟨x1, x2, x3, x4, b1.fr hf x1, b2.fr hf x2, b3.fr hf x3, A, a, ts, b4.fr hf x4, Recs.keptB ho (fun b hb => hf.same b (hX b hb) (ho.blk_ge b hb).2), hc, hX⟩
def trcJx (p : Rn) (s1 s2 : Nat) (c : Code) (_x : Nat × Bool) (W : World) : Prop :=
  c = .ret ∧ (∃ j, Full p.sy p.rs p.c p.most j) ∧ Below p.w0.heap.size p.w0 W ∧ Blk W s1 65 #[.slice none 0 0] ∧ Blk W s2 2 #[.int .i64 5]
theorem trcJx_put {p : Rn} {s1 s2 b0 : Nat} {c : Code} {x : Nat × Bool} (hb : p.w0.heap.size ≤ b0) : PutOk b0 (trcJx p s1 s2 c x) := by
  rintro W l o o' ⟨h1, h2, h3, h4, h5⟩ hl hg ho
  exact ⟨h1, h2, below_put h3 (by omega) o' hg, h4.put o' hg ho, h5.put o' hg ho⟩

theorem trc_round {p : Rn} {i lo s1 s2 s3 lb g a' a8 : Nat} {X : Nat → Prop} {W W7 w8 : World} {A' A8 : Option Addr} {ts : List Cf} {t : Cf} {o : Obj} (hO : StO p i X W) (x1 : X s1) (x2 : X s2) (x3 : X s3) (x4 : X lb)
    (b1 : Blk W s1 65 #[.slice none 0 0]) (b2 : Blk W s2 2 #[.int .i64 0]) (b3 : Blk W s3 98 #[.pointer (some ⟨g, 0, none⟩)]) (b4 : Blk W lb 65 #[.slice A' i a'])
    (ho : OCs W lo A' i a' ts) (hc : confs ts = traceTo p.sy p.rs p.c i) (hX : ∀ b, RecsB A' (ts.flatMap Cf.rows) b → X b) (z7 : Below W.heap.size W W7)
    (oL : Own W7 W.heap.size 2 1 t.L t.xs.length t.a (ints t.xs)) (oR : Own W7 W.heap.size 2 1 t.R t.ys.length t.d (ints t.ys)) (hap : ∀ b, blk t.L = some b → blk t.R ≠ some b) (ht : t.conf = p.it i)
    (ho8 : Own w8 lo 38 3 A8 (i + 1) a8 (ts.flatMap Cf.cells ++ t.cells)) (hg8 : (W7.alloc o).grownBy w8 (blk A')) (hw8 : (blk A8 = blk A' ∨ blk A8 = some (W7.alloc o).heap.size) ∧ Own w8 lo 38 3 A' i a' (ts.flatMap Cf.cells))
    (hmb : lb ≠ p.mb) (hrb : lb ≠ p.rb) (hlb : p.w0.heap.size ≤ lb) (hlo : p.w0.heap.size ≤ lo) (n1 : s1 ≠ lb) (n2 : s2 ≠ lb) (n3 : s3 ≠ lb) (hlW : lo ≤ W.heap.size) :
    KeepsOthers W (w8.setCell ⟨lb, 0, none⟩ (.slice A8 (i + 1) a8)) ∧ StS p i (trcD lo g p.sy p.rs p.c s1 s2 s3 lb (i + 1)) (w8.setCell ⟨lb, 0, none⟩ (.slice A8 (i + 1) a8)) := by
  have b48 : Blk w8 lb 65 #[.slice A' i a'] := ((b4.below' z7).alloc o).grown ((ho.below z7).alloc o).spine hg8 (by decide)
  have k : Keep (fun b => b = lb ∨ blk A' = some b) W (w8.setCell ⟨lb, 0, none⟩ (.slice A8 (i + 1) a8)) := ((((Keep.refl _ W).below z7).alloc o).grown hg8 (fun b hb => .inr hb)).set (.inl rfl) _
  have ny : ∀ {b : Nat} {t : TypeId} {cs : Array Value}, Blk W b t cs → t ≠ 38 → b ≠ lb → ¬ (b = lb ∨ blk A' = some b) := by
    rintro b t cs hb hne hn (h | h)
    · exact hn h
    · exact hb.apt ho.spine hne h
  obtain ⟨hO', hK⟩ := hO.turn k (fun b hb => by
    rcases hb with rfl | hb
    · exact ⟨x4, hmb, hrb, hlb⟩
    · exact ⟨hX b (.inl hb), fun e => hO.bm.apt ho.spine (by decide) (e ▸ hb), fun e => hO.br.apt ho.spine (by decide) (e ▸ hb), by have := ho.spine.blk_ge b hb; omega⟩) (fun b hb => by
    rcases hb with rfl | hb
    · exact ⟨_, b48.set_ 0 _, rfl⟩
    · exact (hw8.2.far (p := ⟨lb, 0, none⟩) (b48.apt hw8.2 (by decide)) _).cells_at hb)
  refine ⟨hK, hO'.st ?_⟩
  have hs : OCs w8 lo A8 (i + 1) a8 (ts ++ [t]) := OCs.snoc (wa := W) ho (Nat.le_refl _) ((ho.below z7).alloc o) ho8 hg8 (oL.alloc o) (oR.alloc o) hap hlW
  have hs' := hs.set_blk b48 (by decide) (by decide) (.slice A8 (i + 1) a8) (i := 0)
  refine ⟨.inl x1, .inl x2, .inl x3, .inl x4, (k.block _ b1.lt (ny b1 (by decide) n1)).trans b1, (k.block _ b2.lt (ny b2 (by decide) n2)).trans b2, (k.block _ b3.lt (ny b3 (by decide) n3)).trans b3, A8, a8, ts ++ [t], b48.set_ 0 _, hs', ?_, ?_⟩
  · rw [traceTo_next, ← hc, show itC p.sy p.rs p.c i = t.conf from ht.symm]; simp [confs]
  · have hz7 := z7.size
    rintro b (hb | ⟨r, hr, hb⟩)
    · refine XMore.of_own hs'.spine hb ?_
      rcases hw8.1 with h | h
      · exact .inl (hX b (.inl (h ▸ hb)))
      · rw [hb] at h; simp at h; exact .inr (by omega)
    · have hb2 := hs'.each r hr
      refine XMore.of_own hb2 hb ?_
      rw [show (ts ++ [t]).flatMap Cf.rows = ts.flatMap Cf.rows ++ t.rows by simp] at hr
      rcases List.mem_append.1 hr with h | h
      · exact .inl (hX b (.inr ⟨r, h, hb⟩))
      · right
        simp only [Cf.rows, List.mem_cons, List.not_mem_nil, or_false] at h
        rcases h with rfl | rfl
        · exact oL.blk_ge b hb
        · exact oR.blk_ge b hb

set_option maxRecDepth 100000 in
set_option maxHeartbeats 8000000 in
theorem traceOf_any (sy st : Int) (A : Option Addr) (n k : Nat) (rs : List R3) (q : Int) (B : Option Addr) (m a : Nat) (xs : List Int) (C : Option Addr) (l d : Nat) (ys : List Int) (N : Nat) (w : World) (hr : S3 w A n rs) (hx : SI w B m xs) (hy : SI w C l ys) (hn : n ≤ 1048576) (hm : m ≤ 1048576) (hl : l ≤ 1048576)
    (hg : goodC sy st rs ⟨q, xs, ys⟩) (hN : N ≤ 100000) :
    Calls Try.prog 105 #[.agg #[.int .i64 sy, .int .i64 st, .slice A n k], .agg #[.int .i64 q, .slice B m a, .slice C l d], .int .i64 (N : Int)] w (NewCs w (traceF sy rs ⟨q, xs, ys⟩ N)) := by
  refine (callsIn_wide (n := 3)).1 (callsIn_of_wp_marks Try.func105 rfl trivial (wpIn_wide.2 ?_) rfl)
  simp only [Try.ntmps105, List.size_toArray, List.length_cons, List.length_nil, Nat.reduceAdd, Nat.reduceSub, Array.replicate_succ, Array.replicate_zero, List.push_toArray, List.append_toArray, List.nil_append, List.cons_append]
  obtain ⟨V, hW_⟩ : ∃ W, W = (((w.alloc (.cells #[.int .i64 sy, .int .i64 st, .slice A n k] 30)).alloc (.cells #[.int .i64 q, .slice B m a, .slice C l d] 38)).alloc (.cells #[.slice none 0 0] 65)).alloc (.cells #[.int .i64 0] 2) := ⟨_, rfl⟩
  have s_1 : (w.alloc (.cells #[.int .i64 sy, .int .i64 st, .slice A n k] 30)).heap.size = w.heap.size + 1 := by simp
  have s_2 : ((w.alloc (.cells #[.int .i64 sy, .int .i64 st, .slice A n k] 30)).alloc (.cells #[.int .i64 q, .slice B m a, .slice C l d] 38)).heap.size = w.heap.size + 1 + 1 := by simp
  have s_3 : (((w.alloc (.cells #[.int .i64 sy, .int .i64 st, .slice A n k] 30)).alloc (.cells #[.int .i64 q, .slice B m a, .slice C l d] 38)).alloc (.cells #[.slice none 0 0] 65)).heap.size = w.heap.size + 1 + 1 + 1 := by simp
  have b0 : Blk V w.heap.size 30 #[.int .i64 sy, .int .i64 st, .slice A n k] := by rw [hW_]; exact (((Blk.new w _ _).alloc _).alloc _).alloc _
  have b1 : Blk V (w.heap.size + 1) 38 #[.int .i64 q, .slice B m a, .slice C l d] := by rw [hW_, ← s_1]; exact ((Blk.new _ _ _).alloc _).alloc _
  have b2 : Blk V (w.heap.size + 1 + 1) 65 #[.slice none 0 0] := by rw [hW_, ← s_2]; exact (Blk.new _ _ _).alloc _
  have b3 : Blk V (w.heap.size + 1 + 1 + 1) 2 #[.int .i64 0] := by rw [hW_, ← s_3]; exact Blk.new _ _ _
  have y0 : Below w.heap.size w V := by rw [hW_]; exact ((((Below.refl _ _).alloc (Nat.le_refl _) _).alloc (by simp) _).alloc (by simp; omega) _).alloc (by simp; omega) _
  have HV := Lib.hid hW_
  clear hW_ s_1 s_2 s_3
  have q0 : V.cell? ⟨w.heap.size, 0, none⟩ = some (.int .i64 sy) := b0.cell 0
  have q1 : V.cell? ⟨w.heap.size, 1, none⟩ = some (.int .i64 st) := b0.cell 1
  have q2 : V.cell? ⟨w.heap.size, 2, none⟩ = some (.slice A n k) := b0.cell 2
  have r0 : V.cell? ⟨(w.heap.size + 1), 0, none⟩ = some (.int .i64 q) := b1.cell 0
  have r1 : V.cell? ⟨(w.heap.size + 1), 1, none⟩ = some (.slice B m a) := b1.cell 1
  have r2 : V.cell? ⟨(w.heap.size + 1), 2, none⟩ = some (.slice C l d) := b1.cell 2
  go_wp2_with fail
  rw [← HV.out]
  refine (runnerOf_any _ _ _ _ _ _ _ _ _ xs _ _ _ ys _ (hx.below y0) (hy.below y0) hm hl).mono ?_
  rintro e W1 ⟨g, L, cl, R, cr, rfl, hgW, hrun, ol, or_, hap, z1⟩
  have hrc : RunC (fun _ => False) W1 V.heap.size g sy st A n k ⟨q, xs, ys⟩ := NewRunner.runC hrun ol or_ hap
  have hgw1 : g < W1.heap.size := hrun.lt
  clear hap hrun ol or_ q0 q1 q2 r0 r1 r2
  have y1 : Below w.heap.size w W1 := y0.trans (z1.mono y0.size)
  obtain ⟨W4, hW_⟩ : ∃ W, W = ((W1.alloc (.cells #[] 38)).alloc (.cells #[.pointer (some ⟨g, 0, none⟩)] 98)).alloc (.cells #[.slice (some ⟨W1.heap.size, 0, none⟩) 0 0] 65) := ⟨_, rfl⟩
  have s_1 : (W1.alloc (.cells #[] 38)).heap.size = W1.heap.size + 1 := by simp
  have s_2 : ((W1.alloc (.cells #[] 38)).alloc (.cells #[.pointer (some ⟨g, 0, none⟩)] 98)).heap.size = W1.heap.size + 1 + 1 := by simp
  have e0 : Blk W4 W1.heap.size 38 #[] := by rw [hW_]; exact ((Blk.new W1 _ _).alloc _).alloc _
  have e1 : Blk W4 (W1.heap.size + 1) 98 #[.pointer (some ⟨g, 0, none⟩)] := by rw [hW_, ← s_1]; exact (Blk.new _ _ _).alloc _
  have e2 : Blk W4 (W1.heap.size + 1 + 1) 65 #[.slice (some ⟨W1.heap.size, 0, none⟩) 0 0] := by rw [hW_, ← s_2]; exact Blk.new _ _ _
  have y4 : Below W1.heap.size W1 W4 := by rw [hW_]; exact (((Below.refl _ _).alloc (Nat.le_refl _) _).alloc (by simp) _).alloc (by simp; omega) _
  have HW4 := Lib.hid hW_
  clear hW_ s_1 s_2
  go_wp2_with fail
  rw [← HW4.out]
  have z4s : W4.heap.size = W1.heap.size + 3 := by rw [HW4.out]; simp
  clear HW4
  refine (steps_any _ _ _).mono ?_
  rintro e W6 ⟨rfl, hW6⟩
  have r6 : Blk W6 W4.heap.size 98 #[.pointer (some ⟨g, 0, none⟩)] := by rw [hW6]; exact (Blk.new W4 _ _).alloc _
  have m6 : Blk W6 (W4.heap.size + 1) 2 #[.int .i64 (N : Int)] := by rw [hW6]; simpa using Blk.new (W4.alloc (.cells #[.pointer (some ⟨g, 0, none⟩)] 98)) 2 #[.int .i64 (N : Int)]
  have z6 : Below W4.heap.size W4 W6 := by rw [hW6]; exact ((Below.refl _ _).alloc (Nat.le_refl _) _).alloc (by simp) _
  clear hW6
  have z16 : Below W1.heap.size W1 W6 := y4.trans (z6.mono y4.size)
  have z06 : Below w.heap.size w W6 := y1.trans (z16.mono y1.size)
  have zV6 : Below V.heap.size V W6 := z1.trans (z16.mono z1.size)
  have hwW : w.heap.size + 1 + 1 + 1 < V.heap.size := b3.lt
  have hWW1 := z1.size
  have s2 := (b2.below' zV6)
  have s3 := (b3.below' zV6)
  have e1' := e1.below' z6
  have e2' := e2.below' z6
  obtain ⟨p, hp⟩ : ∃ p : Rn, p = ⟨w, g, W4.heap.size + 1, W4.heap.size, sy, st, A, n, k, rs, ⟨q, xs, ys⟩, N⟩ := ⟨_, rfl⟩
  have hok : p.Ok := by rw [hp]; exact ⟨hg, hr, by have := y0.size; show w.heap.size ≤ g; omega, hn, by show N ≤ 1000000; omega⟩
  have hSt : StS p 0 (trcD V.heap.size g p.sy p.rs p.c (w.heap.size + 1 + 1) (w.heap.size + 1 + 1 + 1) (W1.heap.size + 1) (W1.heap.size + 1 + 1) 0) W6 := by
    rw [hp]
    refine StO.st (StO.start (p := ⟨w, g, W4.heap.size + 1, W4.heap.size, sy, st, A, n, k, rs, ⟨q, xs, ys⟩, N⟩) hrc y0.size hgW z06 z16 m6 r6 (by show W1.heap.size ≤ W4.heap.size + 1; omega) (by show W1.heap.size ≤ W4.heap.size; omega)) ?_
    have ho : Own W6 V.heap.size 38 3 (some ⟨W1.heap.size, 0, none⟩) 0 0 [] := by
      have h1 : Own W6 W1.heap.size 38 3 (some ⟨W1.heap.size, 0, none⟩) 0 0 [] := ⟨rfl, .inr ⟨W1.heap.size, 0, #[], rfl, Nat.le_refl _, e0.below' z6, Nat.le_refl _, by simp [maxLen], by simp, fun k hk => by simp at hk⟩⟩
      exact h1.mono z1.size
    refine ⟨XNew.of_blk s2 (.inl (by omega)), XNew.of_blk s3 (.inl (by omega)), XNew.of_blk e1' (.inr (by omega)), XNew.of_blk e2' (.inr (by omega)), s2, s3, e1', _, 0, [], e2', OCs.nil ho, rfl, ?_⟩
    rintro b (hb | ⟨r, hr, _⟩)
    · simp [blk] at hb; subst hb; exact XNew.of_blk (e0.below' z6) (.inr (Nat.le_refl _))
    · simp at hr
  have HST := Lib.hid hSt
  clear hSt e0 e1 e2 r6 m6 hrc z6 z16 zV6 s2 s3 e1' e2' b0 b1 b2 b3
  have hpm : p.mb = W4.heap.size + 1 := by rw [hp]
  have hpr : p.rb = W4.heap.size := by rw [hp]
  have hpw : p.w0 = w := by rw [hp]
  have HPM := Lib.hid hpm
  have HPR := Lib.hid hpr
  have HPW := Lib.hid hpw
  have HP := Lib.hid hp
  have HZ4 := Lib.hid z4s
  clear hpm hpr hpw hp z4s
  have hseq := steps1_seq p hok (trcD V.heap.size g p.sy p.rs p.c (w.heap.size + 1 + 1) (w.heap.size + 1 + 1 + 1) (W1.heap.size + 1) (W1.heap.size + 1 + 1)) (trcD_st _ _ _ _ _ _ _ _ _) (trcJx p (w.heap.size + 1 + 1) (w.heap.size + 1 + 1 + 1)) 2
  rw [HPM.out, HPR.out] at hseq
  have hpb : p.w0.heap.size ≤ W6.heap.size := by rw [HPW.out]; exact z06.size
  go_wp2_with fail
  refine (wpIn_wide (n := 3)).1 (wpIn_rangeFunc_st rfl (by decide) (gf := 171) (lb := #[.pointer (some ⟨W4.heap.size + 1, 0, none⟩), .pointer (some ⟨W4.heap.size, 0, none⟩)]) rfl trivial (enters_of Try.func171 (by kernel_rfl) rfl) hseq (fun _ => rfl)
    (stJ_put (trcD_st _ _ _ _ _ _ _ _ _) hpb) (stJ'_put (trcD_st _ _ _ _ _ _ _ _ _) hpb) (fun c x => trcJx_put hpb) (stFin_put (trcD_st _ _ _ _ _ _ _ _ _) hpb) (fun c W l o o' ⟨x, hx⟩ h1 h2 h3 => ⟨x, trcJx_put hpb W l o o' hx h1 h2 h3⟩)
    (fun r => (HST.out.fr (trcD_st _ _ _ _ _ _ _ _ _ _) ((Below.refl _ _).alloc (Nat.le_refl _) _)).fr (trcD_st _ _ _ _ _ _ _ _ _ _) ((Below.refl _ _).alloc (Nat.le_refl _) _))
    ?a1 ?assign ?body ?done ?stop)
  case assign =>
    intro l x W K hK
    gi_wp2
    exact hK
  case body =>
    rintro l ⟨i, b⟩ W hl hJ
    cases b
    · obtain ⟨⟨j, rfl, hfull⟩, hz, X, hXC, hX1, hX2, _, _, b1, b2, _⟩ := hJ
      have HF := Lib.hid hfull
      clear hfull
      have c1 : W.cell? ⟨w.heap.size + 1 + 1, 0, none⟩ = some (.slice none 0 0) := b1.cell 0
      have c2 : W.cell? ⟨w.heap.size + 1 + 1 + 1, 0, none⟩ = some (.int .i64 0) := b2.cell 0
      have f1 := b1.frozen 0
      have f2 := b2.frozen 0
      gi_wp2
      refine ⟨(KeepsOthers.setCell _ _ _).trans (KeepsOthers.setCell _ _ _), rfl, ⟨j, HF.out⟩, ?_, ?_, ?_⟩
      · rw [HPW.out] at hz ⊢
        exact (hz.setCell (p := ⟨w.heap.size + 1 + 1, 0, none⟩) (show w.heap.size ≤ w.heap.size + 1 + 1 by omega) _).setCell (p := ⟨w.heap.size + 1 + 1 + 1, 0, none⟩) (show w.heap.size ≤ w.heap.size + 1 + 1 + 1 by omega) _
      · exact (b1.set_ 0 _).far (p := ⟨w.heap.size + 1 + 1 + 1, 0, none⟩) (show w.heap.size + 1 + 1 ≠ w.heap.size + 1 + 1 + 1 by omega) _
      · exact (b2.far (p := ⟨w.heap.size + 1 + 1, 0, none⟩) (show w.heap.size + 1 + 1 + 1 ≠ w.heap.size + 1 + 1 by omega) _).set_ 0 _
    · obtain ⟨hi, hal, hst⟩ := hJ
      obtain ⟨X, hO, hx1, hx2, hx3, hx4, b1, b2, b3, A', a', ts, b4, ho, hc, hX⟩ := hst.op
      have HAL := Lib.hid hal
      have HC := Lib.hid hc
      have HX := Lib.hid hX
      have HO := Lib.hid hO
      have hgi := HAL.out.good hok.good
      have hcp := conf_parts hgi
      have hq1 : (p.it i).xs.length ≤ 200 := by have := hcp.2.2.2.2.2.2.2.1; omega
      have hq2 : (p.it i).ys.length ≤ 200 := by have := hcp.2.2.2.2.2.2.2.2.1; omega
      have hconf : Calls Try.prog 83 #[.pointer (some ⟨p.g, 0, none⟩)] W.drew (NewConf W.drew (p.it i).q (p.it i).xs (p.it i).ys) := by
        have := config_any p.g p.sy p.st p.A p.n p.k (p.it i).q p.w0.heap.size (p.it i).xs.reverse (p.it i).ys.reverse W.drew (hO.run.below (below_drewN (Below.refl _ _) 1)).sides (by simp; omega) (by simp; omega)
        rwa [List.reverse_reverse, List.reverse_reverse] at this
      rw [show p.g = g by rw [HP.out]] at hconf
      have HCONF := Lib.hid hconf
      clear hal hc hX hO hgi hcp hconf hst
      have c3 : W.cell? ⟨W1.heap.size + 1, 0, none⟩ = some (.pointer (some ⟨g, 0, none⟩)) := b3.cell 0
      have c4 : W.cell? ⟨W1.heap.size + 1 + 1, 0, none⟩ = some (.slice A' i a') := b4.cell 0
      have f4 := b4.frozen 0
      have hVW : V.heap.size ≤ W.heap.size := by have := b3.lt; omega
      have him : i ≤ 100000 := by have : p.most = N := by rw [HP.out]
                                  omega
      gi_wp2
      refine wpIn_region_any (by kernel_rfl) ?_
      try (change wpAnyIn _ _ _ _ _ _ _ _ _ (World.drew _))
      refine wpAnyIn_ready (rs := [0, 1]) (by kernel_rfl) (by simp) ?_
      refine AllReadyIn.cons rfl (fun K hK => ?_) ?_
      · go_simp
        refine hK _ _ ?_
        clear hK K
        try simp only [Act.put, List.setIfInBounds_toArray, List.set_cons_zero, List.set_cons_succ]
        refine wpAnyIn_ready (rs := [1]) (by kernel_rfl) (by simp) ?_
        refine AllReadyIn.cons rfl (fun K hK => ?_) ?_
        · go_simp
          refine hK _ _ ?_
          clear hK K
          try simp only [Act.put, List.setIfInBounds_toArray, List.set_cons_zero, List.set_cons_succ]
          refine wpAnyIn_ready (rs := [2]) (by kernel_rfl) (by simp) ?_
          refine AllReadyIn.cons rfl (fun K hK => ?_) ?_
          · go_simp
            refine ⟨trivial, (CallsIn.inRound l (callsIn_wide.2 HCONF.out)).mono ?_⟩
            rintro e W7 ⟨L7, a7, R7, d7, rfl, oL7, oR7, hap7, z7'⟩
            have z7 : Below W.heap.size W W7 := below_undrew (n := 1) z7'
            have HAP7 := Lib.hid hap7
            have b47 := b4.below' z7
            have c47 : W7.cell? ⟨W1.heap.size + 1 + 1, 0, none⟩ = some (.slice A' i a') := b47.cell 0
            have l47 : W1.heap.size + 1 + 1 < W7.heap.size := b47.lt
            have ho7 := ho.below z7
            clear hap7 z7'
            refine hK _ _ ?_
            clear hK K
            try simp only [Act.put, List.setIfInBounds_toArray, List.set_cons_zero, List.set_cons_succ]
            refine wpAnyIn_ready (rs := [3]) (by kernel_rfl) (by simp) ?_
            refine AllReadyIn.cons rfl (fun K hK => ?_) ?_
            · go_simp
              refine hK _ _ ?_
              clear hK K
              try simp only [Act.put, List.setIfInBounds_toArray, List.set_cons_zero, List.set_cons_succ]
              refine wpAnyIn_ready (rs := [4]) (by kernel_rfl) (by simp) ?_
              refine AllReadyIn.cons rfl (fun K hK => ?_) ?_
              · rw [if_pos (by rfl)]
                refine wpIn_append_Own (.tmp 23) (.tmp 26) rfl elCfg (lo := V.heap.size) rfl (ho7.alloc _).spine rfl (Cf.new W7 ⟨(p.it i).q, L7, a7, (p.it i).xs, R7, d7, (p.it i).ys⟩) (by have := Cf.one [⟨(p.it i).q, L7, a7, (p.it i).xs, R7, d7, (p.it i).ys⟩]; simpa using this) (by omega) (by simp only [maxLen]; omega) (by have := z7.size; simp; omega) ?_
                intro A8 c8 w8 ho8 hg8 hw8
                have b48 : Blk w8 (W1.heap.size + 1 + 1) 65 #[.slice A' i a'] := (b47.alloc _).grown (ho7.alloc _).spine hg8 (by decide)
                have c48 : w8.cell? ⟨W1.heap.size + 1 + 1, 0, none⟩ = some (.slice A' i a') := b48.cell 0
                have f48 : w8.frozen? ⟨W1.heap.size + 1 + 1, 0, none⟩ = false := b48.frozen 0
                refine hK _ _ ?_
                clear hK K
                try simp only [Act.put, List.setIfInBounds_toArray, List.set_cons_zero, List.set_cons_succ]
                refine wpAnyIn_ready (rs := [5]) (by kernel_rfl) (by simp) ?_
                refine AllReadyIn.cons rfl (fun K hK => ?_) ?_
                · go_simp
                  refine hK _ _ ?_
                  clear hK K
                  try simp only [Act.put, List.setIfInBounds_toArray]
                  refine wpAnyIn_done (by kernel_rfl) ?_ _
                  gi_wp2
                  obtain ⟨h1, h2⟩ := trc_round HO.out hx1 hx2 hx3 hx4 b1 b2 b3 b4 ho HC.out HX.out z7 oL7 oR7 HAP7.out (t := ⟨(p.it i).q, L7, a7, (p.it i).xs, R7, d7, (p.it i).ys⟩) rfl ho8 hg8 hw8 (by rw [HPM.out, HZ4.out]; omega) (by rw [HPR.out, HZ4.out]; omega) (by rw [HPW.out]; omega) (by rw [HPW.out]; omega) (by omega) (by omega) (by omega) hVW
                  exact ⟨h1, hi, HAL.out, h2⟩
                exact AllReadyIn.nil
              exact AllReadyIn.nil
            exact AllReadyIn.nil
          exact AllReadyIn.nil
        exact AllReadyIn.nil
      refine AllReadyIn.cons rfl (fun K hK => ?_) ?_
      · go_simp
        refine hK _ _ ?_
        clear hK K
        try simp only [Act.put, List.setIfInBounds_toArray, List.set_cons_zero, List.set_cons_succ]
        refine wpAnyIn_ready (rs := [0, 2]) (by kernel_rfl) (by simp) ?_
        refine AllReadyIn.cons rfl (fun K hK => ?_) ?_
        · go_simp
          refine hK _ _ ?_
          clear hK K
          try simp only [Act.put, List.setIfInBounds_toArray, List.set_cons_zero, List.set_cons_succ]
          refine wpAnyIn_ready (rs := [2]) (by kernel_rfl) (by simp) ?_
          refine AllReadyIn.cons rfl (fun K hK => ?_) ?_
          · go_simp
            refine ⟨trivial, (CallsIn.inRound l (callsIn_wide.2 HCONF.out)).mono ?_⟩
            rintro e W7 ⟨L7, a7, R7, d7, rfl, oL7, oR7, hap7, z7'⟩
            have z7 : Below W.heap.size W W7 := below_undrew (n := 1) z7'
            have HAP7 := Lib.hid hap7
            have b47 := b4.below' z7
            have c47 : W7.cell? ⟨W1.heap.size + 1 + 1, 0, none⟩ = some (.slice A' i a') := b47.cell 0
            have l47 : W1.heap.size + 1 + 1 < W7.heap.size := b47.lt
            have ho7 := ho.below z7
            clear hap7 z7'
            refine hK _ _ ?_
            clear hK K
            try simp only [Act.put, List.setIfInBounds_toArray, List.set_cons_zero, List.set_cons_succ]
            refine wpAnyIn_ready (rs := [3]) (by kernel_rfl) (by simp) ?_
            refine AllReadyIn.cons rfl (fun K hK => ?_) ?_
            · go_simp
              refine hK _ _ ?_
              clear hK K
              try simp only [Act.put, List.setIfInBounds_toArray, List.set_cons_zero, List.set_cons_succ]
              refine wpAnyIn_ready (rs := [4]) (by kernel_rfl) (by simp) ?_
              refine AllReadyIn.cons rfl (fun K hK => ?_) ?_
              · rw [if_pos (by rfl)]
                refine wpIn_append_Own (.tmp 23) (.tmp 26) rfl elCfg (lo := V.heap.size) rfl (ho7.alloc _).spine rfl (Cf.new W7 ⟨(p.it i).q, L7, a7, (p.it i).xs, R7, d7, (p.it i).ys⟩) (by have := Cf.one [⟨(p.it i).q, L7, a7, (p.it i).xs, R7, d7, (p.it i).ys⟩]; simpa using this) (by omega) (by simp only [maxLen]; omega) (by have := z7.size; simp; omega) ?_
                intro A8 c8 w8 ho8 hg8 hw8
                have b48 : Blk w8 (W1.heap.size + 1 + 1) 65 #[.slice A' i a'] := (b47.alloc _).grown (ho7.alloc _).spine hg8 (by decide)
                have c48 : w8.cell? ⟨W1.heap.size + 1 + 1, 0, none⟩ = some (.slice A' i a') := b48.cell 0
                have f48 : w8.frozen? ⟨W1.heap.size + 1 + 1, 0, none⟩ = false := b48.frozen 0
                refine hK _ _ ?_
                clear hK K
                try simp only [Act.put, List.setIfInBounds_toArray, List.set_cons_zero, List.set_cons_succ]
                refine wpAnyIn_ready (rs := [5]) (by kernel_rfl) (by simp) ?_
                refine AllReadyIn.cons rfl (fun K hK => ?_) ?_
                · go_simp
                  refine hK _ _ ?_
                  clear hK K
                  try simp only [Act.put, List.setIfInBounds_toArray]
                  refine wpAnyIn_done (by kernel_rfl) ?_ _
                  gi_wp2
                  obtain ⟨h1, h2⟩ := trc_round HO.out hx1 hx2 hx3 hx4 b1 b2 b3 b4 ho HC.out HX.out z7 oL7 oR7 HAP7.out (t := ⟨(p.it i).q, L7, a7, (p.it i).xs, R7, d7, (p.it i).ys⟩) rfl ho8 hg8 hw8 (by rw [HPM.out, HZ4.out]; omega) (by rw [HPR.out, HZ4.out]; omega) (by rw [HPW.out]; omega) (by rw [HPW.out]; omega) (by omega) (by omega) (by omega) hVW
                  exact ⟨h1, hi, HAL.out, h2⟩
                exact AllReadyIn.nil
              exact AllReadyIn.nil
            exact AllReadyIn.nil
          exact AllReadyIn.nil
        refine AllReadyIn.cons rfl (fun K hK => ?_) ?_
        · go_simp
          refine ⟨trivial, (CallsIn.inRound l (callsIn_wide.2 HCONF.out)).mono ?_⟩
          rintro e W7 ⟨L7, a7, R7, d7, rfl, oL7, oR7, hap7, z7'⟩
          have z7 : Below W.heap.size W W7 := below_undrew (n := 1) z7'
          have HAP7 := Lib.hid hap7
          have b47 := b4.below' z7
          have c47 : W7.cell? ⟨W1.heap.size + 1 + 1, 0, none⟩ = some (.slice A' i a') := b47.cell 0
          have l47 : W1.heap.size + 1 + 1 < W7.heap.size := b47.lt
          have ho7 := ho.below z7
          clear hap7 z7'
          refine hK _ _ ?_
          clear hK K
          try simp only [Act.put, List.setIfInBounds_toArray, List.set_cons_zero, List.set_cons_succ]
          refine wpAnyIn_ready (rs := [0, 3]) (by kernel_rfl) (by simp) ?_
          refine AllReadyIn.cons rfl (fun K hK => ?_) ?_
          · go_simp
            refine hK _ _ ?_
            clear hK K
            try simp only [Act.put, List.setIfInBounds_toArray, List.set_cons_zero, List.set_cons_succ]
            refine wpAnyIn_ready (rs := [3]) (by kernel_rfl) (by simp) ?_
            refine AllReadyIn.cons rfl (fun K hK => ?_) ?_
            · go_simp
              refine hK _ _ ?_
              clear hK K
              try simp only [Act.put, List.setIfInBounds_toArray, List.set_cons_zero, List.set_cons_succ]
              refine wpAnyIn_ready (rs := [4]) (by kernel_rfl) (by simp) ?_
              refine AllReadyIn.cons rfl (fun K hK => ?_) ?_
              · rw [if_pos (by rfl)]
                refine wpIn_append_Own (.tmp 23) (.tmp 26) rfl elCfg (lo := V.heap.size) rfl (ho7.alloc _).spine rfl (Cf.new W7 ⟨(p.it i).q, L7, a7, (p.it i).xs, R7, d7, (p.it i).ys⟩) (by have := Cf.one [⟨(p.it i).q, L7, a7, (p.it i).xs, R7, d7, (p.it i).ys⟩]; simpa using this) (by omega) (by simp only [maxLen]; omega) (by have := z7.size; simp; omega) ?_
                intro A8 c8 w8 ho8 hg8 hw8
                have b48 : Blk w8 (W1.heap.size + 1 + 1) 65 #[.slice A' i a'] := (b47.alloc _).grown (ho7.alloc _).spine hg8 (by decide)
                have c48 : w8.cell? ⟨W1.heap.size + 1 + 1, 0, none⟩ = some (.slice A' i a') := b48.cell 0
                have f48 : w8.frozen? ⟨W1.heap.size + 1 + 1, 0, none⟩ = false := b48.frozen 0
                refine hK _ _ ?_
                clear hK K
                try simp only [Act.put, List.setIfInBounds_toArray, List.set_cons_zero, List.set_cons_succ]
                refine wpAnyIn_ready (rs := [5]) (by kernel_rfl) (by simp) ?_
                refine AllReadyIn.cons rfl (fun K hK => ?_) ?_
                · go_simp
                  refine hK _ _ ?_
                  clear hK K
                  try simp only [Act.put, List.setIfInBounds_toArray]
                  refine wpAnyIn_done (by kernel_rfl) ?_ _
                  gi_wp2
                  obtain ⟨h1, h2⟩ := trc_round HO.out hx1 hx2 hx3 hx4 b1 b2 b3 b4 ho HC.out HX.out z7 oL7 oR7 HAP7.out (t := ⟨(p.it i).q, L7, a7, (p.it i).xs, R7, d7, (p.it i).ys⟩) rfl ho8 hg8 hw8 (by rw [HPM.out, HZ4.out]; omega) (by rw [HPR.out, HZ4.out]; omega) (by rw [HPW.out]; omega) (by rw [HPW.out]; omega) (by omega) (by omega) (by omega) hVW
                  exact ⟨h1, hi, HAL.out, h2⟩
                exact AllReadyIn.nil
              exact AllReadyIn.nil
            exact AllReadyIn.nil
          refine AllReadyIn.cons rfl (fun K hK => ?_) ?_
          · go_simp
            refine hK _ _ ?_
            clear hK K
            try simp only [Act.put, List.setIfInBounds_toArray, List.set_cons_zero, List.set_cons_succ]
            refine wpAnyIn_ready (rs := [0]) (by kernel_rfl) (by simp) ?_
            refine AllReadyIn.cons rfl (fun K hK => ?_) ?_
            · go_simp
              refine hK _ _ ?_
              clear hK K
              try simp only [Act.put, List.setIfInBounds_toArray, List.set_cons_zero, List.set_cons_succ]
              refine wpAnyIn_ready (rs := [4]) (by kernel_rfl) (by simp) ?_
              refine AllReadyIn.cons rfl (fun K hK => ?_) ?_
              · rw [if_pos (by rfl)]
                refine wpIn_append_Own (.tmp 23) (.tmp 26) rfl elCfg (lo := V.heap.size) rfl (ho7.alloc _).spine rfl (Cf.new W7 ⟨(p.it i).q, L7, a7, (p.it i).xs, R7, d7, (p.it i).ys⟩) (by have := Cf.one [⟨(p.it i).q, L7, a7, (p.it i).xs, R7, d7, (p.it i).ys⟩]; simpa using this) (by omega) (by simp only [maxLen]; omega) (by have := z7.size; simp; omega) ?_
                intro A8 c8 w8 ho8 hg8 hw8
                have b48 : Blk w8 (W1.heap.size + 1 + 1) 65 #[.slice A' i a'] := (b47.alloc _).grown (ho7.alloc _).spine hg8 (by decide)
                have c48 : w8.cell? ⟨W1.heap.size + 1 + 1, 0, none⟩ = some (.slice A' i a') := b48.cell 0
                have f48 : w8.frozen? ⟨W1.heap.size + 1 + 1, 0, none⟩ = false := b48.frozen 0
                refine hK _ _ ?_
                clear hK K
                try simp only [Act.put, List.setIfInBounds_toArray, List.set_cons_zero, List.set_cons_succ]
                refine wpAnyIn_ready (rs := [5]) (by kernel_rfl) (by simp) ?_
                refine AllReadyIn.cons rfl (fun K hK => ?_) ?_
                · go_simp
                  refine hK _ _ ?_
                  clear hK K
                  try simp only [Act.put, List.setIfInBounds_toArray]
                  refine wpAnyIn_done (by kernel_rfl) ?_ _
                  gi_wp2
                  obtain ⟨h1, h2⟩ := trc_round HO.out hx1 hx2 hx3 hx4 b1 b2 b3 b4 ho HC.out HX.out z7 oL7 oR7 HAP7.out (t := ⟨(p.it i).q, L7, a7, (p.it i).xs, R7, d7, (p.it i).ys⟩) rfl ho8 hg8 hw8 (by rw [HPM.out, HZ4.out]; omega) (by rw [HPR.out, HZ4.out]; omega) (by rw [HPW.out]; omega) (by rw [HPW.out]; omega) (by omega) (by omega) (by omega) hVW
                  exact ⟨h1, hi, HAL.out, h2⟩
                exact AllReadyIn.nil
              exact AllReadyIn.nil
            exact AllReadyIn.nil
          exact AllReadyIn.nil
        exact AllReadyIn.nil
      exact AllReadyIn.nil
  case done =>
    rintro D W hD ⟨i, hend, hst⟩ hK
    rw [HP.out] at hend
    have hend' : Ended sy rs ⟨q, xs, ys⟩ N i := hend
    have HE := Lib.hid (traceF_ended hend')
    obtain ⟨X, hO, hx1, hx2, hx3, hx4, b1, b2, b3, A', a', ts, b4, ho, hc, hX⟩ := hst.op
    have hc' : confs ts = traceTo sy rs ⟨q, xs, ys⟩ (i + 1) := by rw [hc, HP.out]
    have HC := Lib.hid hc'
    clear hend hend' hst hc hX hc'
    have hz : Below w.heap.size w W := by have := hO.low; rwa [HPW.out] at this
    clear hO
    have c1 : W.cell? ⟨w.heap.size + 1 + 1, 0, none⟩ = some (.slice none 0 0) := b1.cell 0
    have c2 : W.cell? ⟨w.heap.size + 1 + 1 + 1, 0, none⟩ = some (.int .i64 0) := b2.cell 0
    have c4 : W.cell? ⟨W1.heap.size + 1 + 1, 0, none⟩ = some (.slice A' (i + 1) a') := b4.cell 0
    have f1 := b1.frozen 0
    have f2 := b2.frozen 0
    go_wp2_with fail
    have d1 := (b1.set_ 0 (.slice A' (i + 1) a')).far (p := ⟨w.heap.size + 1 + 1 + 1, 0, none⟩) (show w.heap.size + 1 + 1 ≠ w.heap.size + 1 + 1 + 1 by omega) (.int .i64 0)
    have d2 := (b2.far (p := ⟨w.heap.size + 1 + 1, 0, none⟩) (show w.heap.size + 1 + 1 + 1 ≠ w.heap.size + 1 + 1 by omega) (.slice A' (i + 1) a')).set_ 0 (.int .i64 0)
    have do_ := ((ho.set_far (show w.heap.size + 1 + 1 < V.heap.size by omega) (.slice A' (i + 1) a') (i := 0)).set_far (show w.heap.size + 1 + 1 + 1 < V.heap.size by omega) (.int .i64 0) (i := 0)).mono y0.size
    have dz := (hz.setCell (p := ⟨w.heap.size + 1 + 1, 0, none⟩) (show w.heap.size ≤ w.heap.size + 1 + 1 by omega) (.slice A' (i + 1) a')).setCell (p := ⟨w.heap.size + 1 + 1 + 1, 0, none⟩) (show w.heap.size ≤ w.heap.size + 1 + 1 + 1 by omega) (.int .i64 0)
    have hK7 := ((KeepsOthers.setCell W ⟨w.heap.size + 1 + 1, 0, none⟩ (.slice A' (i + 1) a')).trans (KeepsOthers.setCell _ ⟨w.heap.size + 1 + 1 + 1, 0, none⟩ (.int .i64 0))).same D _ hK rfl
    generalize (W.setCell ⟨w.heap.size + 1 + 1, 0, none⟩ (.slice A' (i + 1) a')).setCell ⟨w.heap.size + 1 + 1 + 1, 0, none⟩ (.int .i64 0) = Wf at *
    have k1 : (Wf.putObj D (.deferred none)).cell? ⟨w.heap.size + 1 + 1, 0, none⟩ = some (.slice A' (i + 1) a') := (d1.put (.deferred none) hK7 rfl).cell 0
    have k2 : (Wf.putObj D (.deferred none)).cell? ⟨w.heap.size + 1 + 1 + 1, 0, none⟩ = some (.int .i64 0) := (d2.put (.deferred none) hK7 rfl).cell 0
    refine ⟨by simp, .inl ⟨_, _, rfl, run_takeDeferred hK7, ?_⟩⟩
    refine ⟨.tuple #[.slice A' (i + 1) a', .int .i64 0], by simp [results, Try.results105, go_sem, k1, k2], newCs_of HE.out HC.out (Recs.put do_ (.deferred none) hK7 rfl) (below_put dz (by have := z06.size; omega) _ hK7)⟩
  case stop =>
    rintro D c' W hD ⟨x, rfl, ⟨j, hfull⟩, hz, b1, b2⟩ hK
    rw [HP.out] at hfull
    have hfull' : Full sy rs ⟨q, xs, ys⟩ N j := hfull
    have HE := Lib.hid (traceF_full hfull')
    clear hfull hfull'
    refine wpIn_wide.2 ?_
    go_wp2_with fail
    have k1 : (W.putObj D (.deferred none)).cell? ⟨w.heap.size + 1 + 1, 0, none⟩ = some (.slice none 0 0) := (b1.put (.deferred none) hK rfl).cell 0
    have k2 : (W.putObj D (.deferred none)).cell? ⟨w.heap.size + 1 + 1 + 1, 0, none⟩ = some (.int .i64 5) := (b2.put (.deferred none) hK rfl).cell 0
    refine ⟨by simp, .inl ⟨_, _, rfl, run_takeDeferred hK, ?_⟩⟩
    rw [HPW.out] at hz
    exact ⟨.tuple #[.slice none 0 0, .int .i64 5], by simp [results, Try.results105, go_sem, k1, k2], newCs_nil HE.out (below_put hz (by have := z06.size; omega) _ hK)⟩
end Go.Proofs.Ytbedghebckflmaa
