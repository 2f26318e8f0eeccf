/-
  Contracts of (*impl.measurer).step and impl.MeasureRun.
-/
import Derived.Test.YtbpofkggoolmpaaPkMeasures1
import Derived.Test.YtbpofkggoolmpaaPkMeasures6
namespace Go.Proofs.Ytbpofkggoolmpaa
open Go.RowKit

set_option maxRecDepth 100000 in
set_option maxHeartbeats 4000000 in
theorem measurerStep_any (w0 : World) (g : Nat) (sy st : Int) (A : Option Addr) (n k : Nat) (rs : List R3) (c0 : Conf) (i b : Nat) (p : Int) (r : R3) (W : World) (hgd : goodC sy st rs (itC sy rs c0 i)) (hi : i ≤ 1000000) (hS : FS w0 g sy st A n k (itC sy rs c0 i) (MD w0 b sy rs c0 (i + 1) i) W) :
    Calls Try.prog 317 #[.pointer (some ⟨b, 0, none⟩), .pointer (some ⟨g, 0, none⟩), .int .i64 p, .agg #[.int .i64 r.a, .int .i64 r.b, .int .i64 r.c]] W fun e W' => (∃ u, e = .returned u) ∧ FS w0 g sy st A n k (itC sy rs c0 i) (MD w0 b sy rs c0 (i + 1) (i + 1)) W' ∧ ∀ x cs, Blk W x 229 cs → Blk W' x 229 cs := by
  obtain ⟨sp, ch, tu, mk, la, ⟨L, cl, R, d, hm⟩, b1, b2, b3, b4, b5, b6, b7⟩ := hS.mx
  obtain ⟨h1, h2, h3, h4, hnl, h5, h6, hx2, hy2, hxm, hym, hrsv⟩ := conf_parts hgd
  obtain ⟨lo, hlo⟩ : ∃ v, v = loF sy rs c0 (i + 1) := ⟨_, rfl⟩
  obtain ⟨hi', hhi⟩ : ∃ v, v = hiF sy rs c0 (i + 1) := ⟨_, rfl⟩
  rw [← hlo, ← hhi] at hm
  have HFIN : Hid (∀ (ch tu la : Int) (c' : Conf) (W' : World), c' = itC sy rs c0 i → 0 ≤ ch → ch ≤ (i : Int) + 1 → 0 ≤ tu → tu ≤ (i : Int) + 1 → MX w0 b g sy st A n k c' L cl R d 145 (mcells sp lo hi' ch tu mk la) W' → FS w0 g sy st A n k (itC sy rs c0 i) (MD w0 b sy rs c0 (i + 1) (i + 1)) W') := Lib.hid (fun ch tu la c' W hc h1 h2 h3 h4 h => by
    subst hc hlo hhi
    exact h.fs ⟨b1, b2, b3, h1, by omega, h3, by omega⟩)
  clear hS hgd h1 h2 h3 h4 hnl h5 h6 hxm hym hrsv hlo hhi
  generalize hcc : itC sy rs c0 i = cc at *
  have HCC := Lib.hid hcc.symm
  clear hcc
  have hyl : cc.ys.reverse.length ≤ 1048576 := by rw [List.length_reverse]; omega
  have hbl := hm.box.lt
  obtain ⟨W1, hW_⟩ : ∃ W_, W_ = W.alloc (.cells #[.int .i64 r.a, .int .i64 r.b, .int .i64 r.c] 229) := ⟨_, rfl⟩
  have bR : Blk W1 W.heap.size 229 #[.int .i64 r.a, .int .i64 r.b, .int .i64 r.c] := by rw [hW_]; exact Blk.new W _ _
  have z1 : Below W.heap.size W W1 := by rw [hW_]; exact (Below.refl _ _).alloc (Nat.le_refl _) _
  have HW1 := Lib.hid hW_
  clear hW_
  have HK1 : Hid (∀ x cs, Blk W x 229 cs → x ≠ b ∧ Blk W1 x 229 cs) := Lib.hid (fun x cs h => ⟨fun e => by
    subst e
    have := Eq.trans (Eq.symm hm.box) h
    simp at this, h.below' z1⟩)
  have hm1 := hm.below z1
  have hne : W.heap.size ≠ b := by omega
  clear hm z1
  have HSY := Lib.hid (fun W' (h : MX w0 b g sy st A n k cc L cl R d 145 (mcells sp lo hi' ch tu mk la) W') => symbol_any g sy st A n k cc.q L _ cl R _ d cc.ys.reverse W' h.rat h.or_.rd hyl)
  generalize cc.ys.reverse.length = nr at *
  obtain ⟨s, hs⟩ : ∃ s, s = lastI cc.ys.reverse := ⟨_, rfl⟩
  rw [← hs] at HSY
  clear hs hx2 hy2 hyl
  have q0 : W1.cell? ⟨W.heap.size, 0, none⟩ = some (.int .i64 r.a) := bR.cell 0
  have q1 : W1.cell? ⟨W.heap.size, 1, none⟩ = some (.int .i64 r.b) := bR.cell 1
  have q2 : W1.cell? ⟨W.heap.size, 2, none⟩ = some (.int .i64 r.c) := bR.cell 2
  go_enter Try.func317, Try.ntmps317
  go_upto_region 1 with fail
  rw [← HW1.out]
  go_quiet ((go_at_call 294; exact quiet_left (HSY.out _ (hm1.below (below_drewN (Below.refl _ _) _)))))
  have zq : Below W1.heap.size W1 (W1.drewN nq) := below_drewN (Below.refl _ _) nq
  have hm2 := hm1.below zq
  have bR2 := bR.below' zq
  have HK2 : Hid (∀ x cs, Blk W x 229 cs → x ≠ b ∧ Blk (W1.drewN nq) x 229 cs) := Lib.hid (fun x cs h => ⟨(HK1.out x cs h).1, (HK1.out x cs h).2.below' zq⟩)
  clear zq hm1 bR HK1 q0 q1 q2
  generalize W1.drewN nq = W2 at *
  clear nq
  have w1 : IntKind.i64.wrap (ch + 1) = ch + 1 := IntWalk.i64_in _ (by omega)
  have x5 : W2.cell? ⟨b, 5, none⟩ = some (.int .i64 ch) := hm2.box.cell 5
  have f5 := hm2.box.frozen 5
  cases hd : (r.a != s)
  · go_upto_region 3 with fail
    have w6 : IntKind.i64.wrap (tu + 1) = tu + 1 := IntWalk.i64_in _ (by omega)
    have x8 : W2.cell? ⟨b, 8, none⟩ = some (.int .i64 la) := hm2.box.cell 8
    have u0 : W2.cell? ⟨W.heap.size, 0, none⟩ = some (.int .i64 r.a) := bR2.cell 0
    have u1 : W2.cell? ⟨W.heap.size, 1, none⟩ = some (.int .i64 r.b) := bR2.cell 1
    have u2 : W2.cell? ⟨W.heap.size, 2, none⟩ = some (.int .i64 r.c) := bR2.cell 2
    cases he : (la != 0)
    · go_quiet (fail)
      have zq : Below W2.heap.size W2 (W2.drewN nq) := below_drewN (Below.refl _ _) nq
      have hm3 := hm2.below zq
      have bR3 := bR2.below' zq
      have HK3 : Hid (∀ x cs, Blk W x 229 cs → x ≠ b ∧ Blk (W2.drewN nq) x 229 cs) := Lib.hid (fun x cs h => ⟨(HK2.out x cs h).1, (HK2.out x cs h).2.below' zq⟩)
      clear zq x8 u0 u1 u2
      generalize W2.drewN nq = W3 at *
      have y8 : W3.cell? ⟨b, 8, none⟩ = some (.int .i64 la) := hm3.box.cell 8
      have g8 := hm3.box.frozen 8
      have v0 : W3.cell? ⟨W.heap.size, 0, none⟩ = some (.int .i64 r.a) := bR3.cell 0
      have v1 : W3.cell? ⟨W.heap.size, 1, none⟩ = some (.int .i64 r.b) := bR3.cell 1
      have v2 : W3.cell? ⟨W.heap.size, 2, none⟩ = some (.int .i64 r.c) := bR3.cell 2
      go_wp2_with fail
      have hm9 := hm3.set 8 (.int .i64 r.b)
      exact bodyPost_end (results_none rfl _ _ _) rfl ⟨⟨_, rfl⟩, HFIN.out ch tu r.b cc _ rfl (by omega) (by omega) (by omega) (by omega) hm9, fun x cs h => (HK3.out x cs h).2.far (p := ⟨b, 8, none⟩) (HK3.out x cs h).1 _⟩
    · cases hf : (r.b != la)
      · go_quiet (fail)
        have zq : Below W2.heap.size W2 (W2.drewN nq) := below_drewN (Below.refl _ _) nq
        have hm3 := hm2.below zq
        have bR3 := bR2.below' zq
        have HK3 : Hid (∀ x cs, Blk W x 229 cs → x ≠ b ∧ Blk (W2.drewN nq) x 229 cs) := Lib.hid (fun x cs h => ⟨(HK2.out x cs h).1, (HK2.out x cs h).2.below' zq⟩)
        clear zq x8 u0 u1 u2
        generalize W2.drewN nq = W3 at *
        have y8 : W3.cell? ⟨b, 8, none⟩ = some (.int .i64 la) := hm3.box.cell 8
        have g8 := hm3.box.frozen 8
        have v0 : W3.cell? ⟨W.heap.size, 0, none⟩ = some (.int .i64 r.a) := bR3.cell 0
        have v1 : W3.cell? ⟨W.heap.size, 1, none⟩ = some (.int .i64 r.b) := bR3.cell 1
        have v2 : W3.cell? ⟨W.heap.size, 2, none⟩ = some (.int .i64 r.c) := bR3.cell 2
        go_wp2_with fail
        have hm9 := hm3.set 8 (.int .i64 r.b)
        exact bodyPost_end (results_none rfl _ _ _) rfl ⟨⟨_, rfl⟩, HFIN.out ch tu r.b cc _ rfl (by omega) (by omega) (by omega) (by omega) hm9, fun x cs h => (HK3.out x cs h).2.far (p := ⟨b, 8, none⟩) (HK3.out x cs h).1 _⟩
      · go_quiet (fail)
        have zq : Below W2.heap.size W2 (W2.drewN nq) := below_drewN (Below.refl _ _) nq
        have hm3 := hm2.below zq
        have bR3 := bR2.below' zq
        have HK3 : Hid (∀ x cs, Blk W x 229 cs → x ≠ b ∧ Blk (W2.drewN nq) x 229 cs) := Lib.hid (fun x cs h => ⟨(HK2.out x cs h).1, (HK2.out x cs h).2.below' zq⟩)
        clear zq x8 u0 u1 u2
        generalize W2.drewN nq = W3 at *
        have x6 : W3.cell? ⟨b, 6, none⟩ = some (.int .i64 tu) := hm3.box.cell 6
        have f6 := hm3.box.frozen 6
        go_upto_region 5 with fail
        have hm4 := hm3.set 6 (.int .i64 (tu + 1))
        have bR4 := bR3.far (p := ⟨b, 6, none⟩) hne (.int .i64 (tu + 1))
        have HK4 : Hid (∀ x cs, Blk W x 229 cs → x ≠ b ∧ Blk (W3.setCell ⟨b, 6, none⟩ (.int .i64 (tu + 1))) x 229 cs) := Lib.hid (fun x cs h => ⟨(HK3.out x cs h).1, (HK3.out x cs h).2.far (p := ⟨b, 6, none⟩) (HK3.out x cs h).1 _⟩)
        clear x6 f6
        generalize W3.setCell ⟨b, 6, none⟩ (.int .i64 (tu + 1)) = W4 at *
        have y8 : W4.cell? ⟨b, 8, none⟩ = some (.int .i64 la) := hm4.box.cell 8
        have g8 := hm4.box.frozen 8
        have v0 : W4.cell? ⟨W.heap.size, 0, none⟩ = some (.int .i64 r.a) := bR4.cell 0
        have v1 : W4.cell? ⟨W.heap.size, 1, none⟩ = some (.int .i64 r.b) := bR4.cell 1
        have v2 : W4.cell? ⟨W.heap.size, 2, none⟩ = some (.int .i64 r.c) := bR4.cell 2
        go_wp2_with fail
        have hm9 := hm4.set 8 (.int .i64 r.b)
        exact bodyPost_end (results_none rfl _ _ _) rfl ⟨⟨_, rfl⟩, HFIN.out ch (tu + 1) r.b cc _ rfl (by omega) (by omega) (by omega) (by omega) hm9, fun x cs h => (HK4.out x cs h).2.far (p := ⟨b, 8, none⟩) (HK4.out x cs h).1 _⟩
  · go_upto_region 3 with fail
    have hm2b := hm2.set 5 (.int .i64 (ch + 1))
    have bR2b := bR2.far (p := ⟨b, 5, none⟩) hne (.int .i64 (ch + 1))
    have HK2b : Hid (∀ x cs, Blk W x 229 cs → x ≠ b ∧ Blk (W2.setCell ⟨b, 5, none⟩ (.int .i64 (ch + 1))) x 229 cs) := Lib.hid (fun x cs h => ⟨(HK2.out x cs h).1, (HK2.out x cs h).2.far (p := ⟨b, 5, none⟩) (HK2.out x cs h).1 _⟩)
    clear x5 f5
    generalize W2.setCell ⟨b, 5, none⟩ (.int .i64 (ch + 1)) = W2b at *
    have w6 : IntKind.i64.wrap (tu + 1) = tu + 1 := IntWalk.i64_in _ (by omega)
    have x8 : W2b.cell? ⟨b, 8, none⟩ = some (.int .i64 la) := hm2b.box.cell 8
    have u0 : W2b.cell? ⟨W.heap.size, 0, none⟩ = some (.int .i64 r.a) := bR2b.cell 0
    have u1 : W2b.cell? ⟨W.heap.size, 1, none⟩ = some (.int .i64 r.b) := bR2b.cell 1
    have u2 : W2b.cell? ⟨W.heap.size, 2, none⟩ = some (.int .i64 r.c) := bR2b.cell 2
    cases he : (la != 0)
    · go_quiet (fail)
      have zq : Below W2b.heap.size W2b (W2b.drewN nq) := below_drewN (Below.refl _ _) nq
      have hm3 := hm2b.below zq
      have bR3 := bR2b.below' zq
      have HK3 : Hid (∀ x cs, Blk W x 229 cs → x ≠ b ∧ Blk (W2b.drewN nq) x 229 cs) := Lib.hid (fun x cs h => ⟨(HK2b.out x cs h).1, (HK2b.out x cs h).2.below' zq⟩)
      clear zq x8 u0 u1 u2
      generalize W2b.drewN nq = W3 at *
      have y8 : W3.cell? ⟨b, 8, none⟩ = some (.int .i64 la) := hm3.box.cell 8
      have g8 := hm3.box.frozen 8
      have v0 : W3.cell? ⟨W.heap.size, 0, none⟩ = some (.int .i64 r.a) := bR3.cell 0
      have v1 : W3.cell? ⟨W.heap.size, 1, none⟩ = some (.int .i64 r.b) := bR3.cell 1
      have v2 : W3.cell? ⟨W.heap.size, 2, none⟩ = some (.int .i64 r.c) := bR3.cell 2
      go_wp2_with fail
      have hm9 := hm3.set 8 (.int .i64 r.b)
      exact bodyPost_end (results_none rfl _ _ _) rfl ⟨⟨_, rfl⟩, HFIN.out (ch + 1) tu r.b cc _ rfl (by omega) (by omega) (by omega) (by omega) hm9, fun x cs h => (HK3.out x cs h).2.far (p := ⟨b, 8, none⟩) (HK3.out x cs h).1 _⟩
    · cases hf : (r.b != la)
      · go_quiet (fail)
        have zq : Below W2b.heap.size W2b (W2b.drewN nq) := below_drewN (Below.refl _ _) nq
        have hm3 := hm2b.below zq
        have bR3 := bR2b.below' zq
        have HK3 : Hid (∀ x cs, Blk W x 229 cs → x ≠ b ∧ Blk (W2b.drewN nq) x 229 cs) := Lib.hid (fun x cs h => ⟨(HK2b.out x cs h).1, (HK2b.out x cs h).2.below' zq⟩)
        clear zq x8 u0 u1 u2
        generalize W2b.drewN nq = W3 at *
        have y8 : W3.cell? ⟨b, 8, none⟩ = some (.int .i64 la) := hm3.box.cell 8
        have g8 := hm3.box.frozen 8
        have v0 : W3.cell? ⟨W.heap.size, 0, none⟩ = some (.int .i64 r.a) := bR3.cell 0
        have v1 : W3.cell? ⟨W.heap.size, 1, none⟩ = some (.int .i64 r.b) := bR3.cell 1
        have v2 : W3.cell? ⟨W.heap.size, 2, none⟩ = some (.int .i64 r.c) := bR3.cell 2
        go_wp2_with fail
        have hm9 := hm3.set 8 (.int .i64 r.b)
        exact bodyPost_end (results_none rfl _ _ _) rfl ⟨⟨_, rfl⟩, HFIN.out (ch + 1) tu r.b cc _ rfl (by omega) (by omega) (by omega) (by omega) hm9, fun x cs h => (HK3.out x cs h).2.far (p := ⟨b, 8, none⟩) (HK3.out x cs h).1 _⟩
      · go_quiet (fail)
        have zq : Below W2b.heap.size W2b (W2b.drewN nq) := below_drewN (Below.refl _ _) nq
        have hm3 := hm2b.below zq
        have bR3 := bR2b.below' zq
        have HK3 : Hid (∀ x cs, Blk W x 229 cs → x ≠ b ∧ Blk (W2b.drewN nq) x 229 cs) := Lib.hid (fun x cs h => ⟨(HK2b.out x cs h).1, (HK2b.out x cs h).2.below' zq⟩)
        clear zq x8 u0 u1 u2
        generalize W2b.drewN nq = W3 at *
        have x6 : W3.cell? ⟨b, 6, none⟩ = some (.int .i64 tu) := hm3.box.cell 6
        have f6 := hm3.box.frozen 6
        go_upto_region 5 with fail
        have hm4 := hm3.set 6 (.int .i64 (tu + 1))
        have bR4 := bR3.far (p := ⟨b, 6, none⟩) hne (.int .i64 (tu + 1))
        have HK4 : Hid (∀ x cs, Blk W x 229 cs → x ≠ b ∧ Blk (W3.setCell ⟨b, 6, none⟩ (.int .i64 (tu + 1))) x 229 cs) := Lib.hid (fun x cs h => ⟨(HK3.out x cs h).1, (HK3.out x cs h).2.far (p := ⟨b, 6, none⟩) (HK3.out x cs h).1 _⟩)
        clear x6 f6
        generalize W3.setCell ⟨b, 6, none⟩ (.int .i64 (tu + 1)) = W4 at *
        have y8 : W4.cell? ⟨b, 8, none⟩ = some (.int .i64 la) := hm4.box.cell 8
        have g8 := hm4.box.frozen 8
        have v0 : W4.cell? ⟨W.heap.size, 0, none⟩ = some (.int .i64 r.a) := bR4.cell 0
        have v1 : W4.cell? ⟨W.heap.size, 1, none⟩ = some (.int .i64 r.b) := bR4.cell 1
        have v2 : W4.cell? ⟨W.heap.size, 2, none⟩ = some (.int .i64 r.c) := bR4.cell 2
        go_wp2_with fail
        have hm9 := hm4.set 8 (.int .i64 r.b)
        exact bodyPost_end (results_none rfl _ _ _) rfl ⟨⟨_, rfl⟩, HFIN.out (ch + 1) (tu + 1) r.b cc _ rfl (by omega) (by omega) (by omega) (by omega) hm9, fun x cs h => (HK4.out x cs h).2.far (p := ⟨b, 8, none⟩) (HK4.out x cs h).1 _⟩
end Go.Proofs.Ytbpofkggoolmpaa

/-
  Contract of impl.MeasureRun, for runs that have room.
-/
namespace Go.Proofs.Ytbpofkggoolmpaa
open Go.RowKit

theorem me_set {w : World} {g : Nat} {t : TypeId} {a0 a1 a2 a3 a4 a5 a6 a7 : Value} (h : Blk w g t #[a0, a1, a2, a3, a4, a5, a6, a7]) (v0 v1 v2 v3 v4 v5 v6 v7 : Value) : Blk ((((((((w.setCell ⟨g, 0, none⟩ v0).setCell ⟨g, 1, none⟩ v1).setCell ⟨g, 2, none⟩ v2).setCell ⟨g, 3, none⟩ v3).setCell ⟨g, 4, none⟩ v4).setCell ⟨g, 5, none⟩ v5).setCell ⟨g, 6, none⟩ v6).setCell ⟨g, 7, none⟩ v7) g t #[v0, v1, v2, v3, v4, v5, v6, v7] := by
  have h1 : Blk (w.setCell ⟨g, 0, none⟩ v0) g t #[v0, a1, a2, a3, a4, a5, a6, a7] := h.set_ 0 v0
  have h2 : Blk ((w.setCell ⟨g, 0, none⟩ v0).setCell ⟨g, 1, none⟩ v1) g t #[v0, v1, a2, a3, a4, a5, a6, a7] := h1.set_ 1 v1
  have h3 : Blk (((w.setCell ⟨g, 0, none⟩ v0).setCell ⟨g, 1, none⟩ v1).setCell ⟨g, 2, none⟩ v2) g t #[v0, v1, v2, a3, a4, a5, a6, a7] := h2.set_ 2 v2
  have h4 : Blk ((((w.setCell ⟨g, 0, none⟩ v0).setCell ⟨g, 1, none⟩ v1).setCell ⟨g, 2, none⟩ v2).setCell ⟨g, 3, none⟩ v3) g t #[v0, v1, v2, v3, a4, a5, a6, a7] := h3.set_ 3 v3
  have h5 : Blk (((((w.setCell ⟨g, 0, none⟩ v0).setCell ⟨g, 1, none⟩ v1).setCell ⟨g, 2, none⟩ v2).setCell ⟨g, 3, none⟩ v3).setCell ⟨g, 4, none⟩ v4) g t #[v0, v1, v2, v3, v4, a5, a6, a7] := h4.set_ 4 v4
  have h6 : Blk ((((((w.setCell ⟨g, 0, none⟩ v0).setCell ⟨g, 1, none⟩ v1).setCell ⟨g, 2, none⟩ v2).setCell ⟨g, 3, none⟩ v3).setCell ⟨g, 4, none⟩ v4).setCell ⟨g, 5, none⟩ v5) g t #[v0, v1, v2, v3, v4, v5, a6, a7] := h5.set_ 5 v5
  have h7 : Blk (((((((w.setCell ⟨g, 0, none⟩ v0).setCell ⟨g, 1, none⟩ v1).setCell ⟨g, 2, none⟩ v2).setCell ⟨g, 3, none⟩ v3).setCell ⟨g, 4, none⟩ v4).setCell ⟨g, 5, none⟩ v5).setCell ⟨g, 6, none⟩ v6) g t #[v0, v1, v2, v3, v4, v5, v6, a7] := h6.set_ 6 v6
  have h8 : Blk ((((((((w.setCell ⟨g, 0, none⟩ v0).setCell ⟨g, 1, none⟩ v1).setCell ⟨g, 2, none⟩ v2).setCell ⟨g, 3, none⟩ v3).setCell ⟨g, 4, none⟩ v4).setCell ⟨g, 5, none⟩ v5).setCell ⟨g, 6, none⟩ v6).setCell ⟨g, 7, none⟩ v7) g t #[v0, v1, v2, v3, v4, v5, v6, v7] := h7.set_ 7 v7
  exact h8
theorem me_below {w0 w : World} {lo g : Nat} (h : Below lo w0 w) (hl : lo ≤ g) (v0 v1 v2 v3 v4 v5 v6 v7 : Value) : Below lo w0 ((((((((w.setCell ⟨g, 0, none⟩ v0).setCell ⟨g, 1, none⟩ v1).setCell ⟨g, 2, none⟩ v2).setCell ⟨g, 3, none⟩ v3).setCell ⟨g, 4, none⟩ v4).setCell ⟨g, 5, none⟩ v5).setCell ⟨g, 6, none⟩ v6).setCell ⟨g, 7, none⟩ v7) :=
  (((((((h.setCell (p := ⟨g, 0, none⟩) hl v0).setCell (p := ⟨g, 1, none⟩) hl v1).setCell (p := ⟨g, 2, none⟩) hl v2).setCell (p := ⟨g, 3, none⟩) hl v3).setCell (p := ⟨g, 4, none⟩) hl v4).setCell (p := ⟨g, 5, none⟩) hl v5).setCell (p := ⟨g, 6, none⟩) hl v6).setCell (p := ⟨g, 7, none⟩) hl v7
/-- What it returns. -/
def MeasP (w : World) (sy : Int) (rs : List R3) (c : Conf) (i : Nat) (e : Ending) (w' : World) : Prop :=
  ∃ sp ch tu mk : Int, e = .returned (.tuple #[.agg #[.int .i64 (i : Int), .bool (haltC sy rs (itC sy rs c i)), .int .i64 sp, .int .i64 (loF sy rs c (i + 1)), .int .i64 (hiF sy rs c (i + 1)), .int .i64 ch, .int .i64 tu, .int .i64 mk], .int .i64 0]) ∧ mk ≤ sp ∧ ch ≤ (i : Int) ∧ Below w.heap.size w w'
set_option maxRecDepth 100000 in
set_option maxHeartbeats 4000000 in
theorem measureRun_any (sy st : Int) (A : Option Addr) (n k : Nat) (rs : List R3) (c : Conf) (B : Option Addr) (m a : Nat) (C : Option Addr) (l d : Nat) (N i : Nat) (w : World) (hr : S3 w A n rs) (hx : SI w B m c.xs) (hy : SI w C l c.ys) (hn : n ≤ 1048576) (hm : m ≤ 1048576) (hl : l ≤ 1048576)
    (hg : goodC sy st rs c) (hN0 : 1 ≤ N) (hN : N ≤ 20000) (hrun : runN sy rs N c = some i) :
    Calls Try.prog 27 #[.agg #[.int .i64 sy, .int .i64 st, .slice A n k], .agg #[.int .i64 c.q, .slice B m a, .slice C l d], .int .i64 (N : Int)] w (MeasP w sy rs c i) := by
  obtain ⟨W, hW_⟩ : ∃ W, W = ((w.alloc (.cells #[.int .i64 sy, .int .i64 st, .slice A n k] 36)).alloc (.cells #[.int .i64 c.q, .slice B m a, .slice C l d] 50)).alloc (.cells #[.int .i64 0, .bool false, .int .i64 0, .int .i64 0, .int .i64 0, .int .i64 0, .int .i64 0, .int .i64 0] 55) := ⟨_, rfl⟩
  have s_1 : (w.alloc (.cells #[.int .i64 sy, .int .i64 st, .slice A n k] 36)).heap.size = w.heap.size + 1 := by simp
  have s_2 : ((w.alloc (.cells #[.int .i64 sy, .int .i64 st, .slice A n k] 36)).alloc (.cells #[.int .i64 c.q, .slice B m a, .slice C l d] 50)).heap.size = w.heap.size + 1 + 1 := by simp
  have b0 : Blk W w.heap.size 36 #[.int .i64 sy, .int .i64 st, .slice A n k] := by rw [hW_]; exact ((Blk.new w _ _).alloc _).alloc _
  have b1 : Blk W (w.heap.size + 1) 50 #[.int .i64 c.q, .slice B m a, .slice C l d] := by rw [hW_, ← s_1]; exact (Blk.new _ _ _).alloc _
  have b2 : Blk W (w.heap.size + 1 + 1) 55 #[.int .i64 0, .bool false, .int .i64 0, .int .i64 0, .int .i64 0, .int .i64 0, .int .i64 0, .int .i64 0] := by rw [hW_, ← s_2]; exact Blk.new _ _ _
  have y0 : Below w.heap.size w W := by rw [hW_]; exact (((Below.refl _ _).alloc (Nat.le_refl _) _).alloc (by simp) _).alloc (by simp; omega) _
  have HW := Lib.hid hW_
  clear hW_ s_1 s_2
  have HRC := Lib.hid (runCode_any sy st A n k rs c B m a C l d (N : Int) W (hr.below y0) (hx.below y0) (hy.below y0) hn hm hl)
  have hcode : codeF sy st rs c (N : Int) = 0 := by
    unfold codeF
    rw [show validConfB sy st rs c.q c.xs c.ys = true from hg, if_pos rfl, if_pos]
    rw [inB_iff]; omega
  rw [hcode] at HRC
  clear hcode
  have HRUN := Lib.hid hrun
  have HG := Lib.hid hg
  clear hrun hg
  have q0 : W.cell? ⟨w.heap.size, 0, none⟩ = some (.int .i64 sy) := b0.cell 0
  have q1 : W.cell? ⟨w.heap.size, 1, none⟩ = some (.int .i64 st) := b0.cell 1
  have q2 : W.cell? ⟨w.heap.size, 2, none⟩ = some (.slice A n k) := b0.cell 2
  have r0 : W.cell? ⟨(w.heap.size + 1), 0, none⟩ = some (.int .i64 c.q) := b1.cell 0
  have r1 : W.cell? ⟨(w.heap.size + 1), 1, none⟩ = some (.slice B m a) := b1.cell 1
  have r2 : W.cell? ⟨(w.heap.size + 1), 2, none⟩ = some (.slice C l d) := b1.cell 2
  go_enter Try.func27, Try.ntmps27
  go_upto_region 1 with fail
  rw [← HW.out]
  go_wp2_with fail
  refine HRC.out.mono ?_
  rintro e W1 ⟨rfl, z1⟩
  have c0 := b0.below' z1
  have c1 := b1.below' z1
  have c2 := b2.below' z1
  have y1 := y0.trans (z1.mono y0.size)
  have hwz : w.heap.size + 1 + 1 < W1.heap.size := c2.lt
  clear q0 q1 q2 r0 r1 r2 z1 b0 b1 b2
  obtain ⟨W2, hW_⟩ : ∃ W_, W_ = W1.alloc (.cells #[.int .i64 0, .bool false, .int .i64 0, .int .i64 0, .int .i64 0, .int .i64 0, .int .i64 0, .int .i64 0, .int .i64 0] 145) := ⟨_, rfl⟩
  have b3 : Blk W2 W1.heap.size 145 #[.int .i64 0, .bool false, .int .i64 0, .int .i64 0, .int .i64 0, .int .i64 0, .int .i64 0, .int .i64 0, .int .i64 0] := by rw [hW_]; exact Blk.new W1 _ _
  have z2 : Below W1.heap.size W1 W2 := by rw [hW_]; exact (Below.refl _ _).alloc (Nat.le_refl _) _
  have HW2 := Lib.hid hW_
  clear hW_
  have y2 := y1.trans (z2.mono y1.size)
  have c0b := c0.below' z2
  have c1b := c1.below' z2
  have c2b := c2.below' z2
  have C2 := Lib.hid c2
  clear c0 c1 c2
  have q0 : W2.cell? ⟨w.heap.size, 0, none⟩ = some (.int .i64 sy) := c0b.cell 0
  have q1 : W2.cell? ⟨w.heap.size, 1, none⟩ = some (.int .i64 st) := c0b.cell 1
  have q2 : W2.cell? ⟨w.heap.size, 2, none⟩ = some (.slice A n k) := c0b.cell 2
  have r0 : W2.cell? ⟨(w.heap.size + 1), 0, none⟩ = some (.int .i64 c.q) := c1b.cell 0
  have r1 : W2.cell? ⟨(w.heap.size + 1), 1, none⟩ = some (.slice B m a) := c1b.cell 1
  have r2 : W2.cell? ⟨(w.heap.size + 1), 2, none⟩ = some (.slice C l d) := c1b.cell 2
  have hd0 : MD W1 W1.heap.size sy rs c 0 0 (fun x => x = W1.heap.size) W2 := ⟨0, 0, 0, 0, 0, rfl, Nat.le_refl _, b3, by omega, by omega, by omega, by omega, by omega, by omega, by omega⟩
  have hb3 := b3.lt
  have HF := Lib.hid (follow_any W1 W2 sy st A n k rs c B m a C l d N 143 (.pointer (some ⟨W1.heap.size, 0, none⟩)) (.pointer (some ⟨W1.heap.size, 0, none⟩)) _ _ (fun i => MD W1 W1.heap.size sy rs c i i) (fun i => MD W1 W1.heap.size sy rs c (i + 1) i) (fun x => x = W1.heap.size)
    (hr.below y1) (hx.below y2) (hy.below y2) hn hm hl HG.out (by omega) z2 (fun b hb => by subst hb; exact hb3) hd0 (fun i => MD.st _ _ _ _ _ _ _) (fun i => MD.st _ _ _ _ _ _ _) (measM_config _) (measM_step _) Try.call316 Try.call317
    (fun i g W hi hal hS => measurerConfig_any W1 g sy st A n k rs c i W1.heap.size W (hal.good HG.out) hS)
    (fun i g W hi hal hh hS => measurerStep_any W1 g sy st A n k rs c i W1.heap.size _ _ W (hal.good HG.out) (by omega) hS))
  clear b3 hd0 hb3
  go_upto_region 5 with fail
  rw [← HW2.out]
  go_wp2_with fail
  refine HF.out.mono ?_
  rintro e W3 (⟨i', g, _, hE, rfl, hS⟩ | ⟨i', hE, rfl, hz⟩)
  rotate_left
  · have := runN_full hE
    rw [HRUN.out] at this
    cases this
  obtain rfl : i = i' := by
    have := runN_ended hE
    rw [HRUN.out] at this
    exact Option.some.inj this
  obtain ⟨sp, ch, tu, mk, la, ⟨L, cl, R, d', hM⟩, g1, g2, g3, g4, g5, g6, g7⟩ := hS.mx
  obtain ⟨lo, hlo⟩ : ∃ v, v = loF sy rs c (i + 1) := ⟨_, rfl⟩
  obtain ⟨hi', hhi⟩ : ∃ v, v = hiF sy rs c (i + 1) := ⟨_, rfl⟩
  obtain ⟨hc, hhc⟩ : ∃ v, v = haltC sy rs (itC sy rs c i) := ⟨_, rfl⟩
  rw [← hlo, ← hhi] at hM
  have HFIN : Hid (∀ W', Below w.heap.size w W' → MeasP w sy rs c i (.returned (.tuple #[.agg #[.int .i64 (i : Int), .bool hc, .int .i64 sp, .int .i64 lo, .int .i64 hi', .int .i64 ch, .int .i64 tu, .int .i64 mk], .int .i64 0])) W') := Lib.hid (fun W' z => by
    subst hlo hhi hhc
    exact ⟨sp, ch, tu, mk, rfl, g3, g5, z⟩)
  rw [← hhc]
  clear hhc hlo hhi
  have d2 : Blk W3 (w.heap.size + 1 + 1) 55 #[.int .i64 0, .bool false, .int .i64 0, .int .i64 0, .int .i64 0, .int .i64 0, .int .i64 0, .int .i64 0] := C2.out.below' hM.low
  have y3 : Below w.heap.size w W3 := y1.trans (hM.low.mono y1.size)
  have hne : W1.heap.size ≠ w.heap.size + 1 + 1 := by omega
  have x0 : W3.cell? ⟨W1.heap.size, 0, none⟩ = some (.int .i64 0) := hM.box.cell 0
  have x1 : W3.cell? ⟨W1.heap.size, 1, none⟩ = some (.bool false) := hM.box.cell 1
  have f0 := hM.box.frozen 0
  have f1 := hM.box.frozen 1
  clear q0 q1 q2 r0 r1 r2 c2b c0b c1b HF hS hE C2
  go_upto_region 9 with fail
  have hM2 := (hM.set 0 (.int .i64 (i : Int))).set 1 (.bool hc)
  have d3 := (d2.far (p := ⟨W1.heap.size, 0, none⟩) (fun e => hne e.symm) (.int .i64 (i : Int))).far (p := ⟨W1.heap.size, 1, none⟩) (fun e => hne e.symm) (.bool hc)
  have y4 := (y3.setCell (p := ⟨W1.heap.size, 0, none⟩) y1.size (.int .i64 (i : Int))).setCell (p := ⟨W1.heap.size, 1, none⟩) y1.size (.bool hc)
  clear x0 x1 f0 f1 hM d2 y3
  generalize (W3.setCell ⟨W1.heap.size, 0, none⟩ (.int .i64 (i : Int))).setCell ⟨W1.heap.size, 1, none⟩ (.bool hc) = W4 at *
  have bM := hM2.box
  clear hM2
  have v0 : W4.cell? ⟨W1.heap.size, 0, none⟩ = some (.int .i64 (i : Int)) := bM.cell 0
  have v1 : W4.cell? ⟨W1.heap.size, 1, none⟩ = some (.bool hc) := bM.cell 1
  have v2 : W4.cell? ⟨W1.heap.size, 2, none⟩ = some (.int .i64 sp) := bM.cell 2
  have v3 : W4.cell? ⟨W1.heap.size, 3, none⟩ = some (.int .i64 lo) := bM.cell 3
  have v4 : W4.cell? ⟨W1.heap.size, 4, none⟩ = some (.int .i64 hi') := bM.cell 4
  have v5 : W4.cell? ⟨W1.heap.size, 5, none⟩ = some (.int .i64 ch) := bM.cell 5
  have v6 : W4.cell? ⟨W1.heap.size, 6, none⟩ = some (.int .i64 tu) := bM.cell 6
  have v7 : W4.cell? ⟨W1.heap.size, 7, none⟩ = some (.int .i64 mk) := bM.cell 7
  have x0 : W4.cell? ⟨(w.heap.size + 1 + 1), 0, none⟩ = some (.int .i64 0) := d3.cell 0
  have x1 : W4.cell? ⟨(w.heap.size + 1 + 1), 1, none⟩ = some (.bool false) := d3.cell 1
  have x2 : W4.cell? ⟨(w.heap.size + 1 + 1), 2, none⟩ = some (.int .i64 0) := d3.cell 2
  have x3 : W4.cell? ⟨(w.heap.size + 1 + 1), 3, none⟩ = some (.int .i64 0) := d3.cell 3
  have x4 : W4.cell? ⟨(w.heap.size + 1 + 1), 4, none⟩ = some (.int .i64 0) := d3.cell 4
  have x5 : W4.cell? ⟨(w.heap.size + 1 + 1), 5, none⟩ = some (.int .i64 0) := d3.cell 5
  have x6 : W4.cell? ⟨(w.heap.size + 1 + 1), 6, none⟩ = some (.int .i64 0) := d3.cell 6
  have x7 : W4.cell? ⟨(w.heap.size + 1 + 1), 7, none⟩ = some (.int .i64 0) := d3.cell 7
  have f0 := d3.frozen 0
  have f1 := d3.frozen 1
  have f2 := d3.frozen 2
  have f3 := d3.frozen 3
  have f4 := d3.frozen 4
  have f5 := d3.frozen 5
  have f6 := d3.frozen 6
  have f7 := d3.frozen 7
  go_wp2_with fail
  clear x0 x1 x2 x3 x4 x5 x6 x7 v0 v1 v2 v3 v4 v5 v6 v7
  have dB := me_set d3 (.int .i64 (i : Int)) (.bool hc) (.int .i64 sp) (.int .i64 lo) (.int .i64 hi') (.int .i64 ch) (.int .i64 tu) (.int .i64 mk)
  have yB := me_below y4 (show w.heap.size ≤ w.heap.size + 1 + 1 by omega) (.int .i64 (i : Int)) (.bool hc) (.int .i64 sp) (.int .i64 lo) (.int .i64 hi') (.int .i64 ch) (.int .i64 tu) (.int .i64 mk)
  obtain ⟨WF, hWF⟩ : ∃ WF, WF = (((((((W4.setCell ⟨w.heap.size + 1 + 1, 0, none⟩ (.int .i64 (i : Int))).setCell ⟨w.heap.size + 1 + 1, 1, none⟩ (.bool hc)).setCell ⟨w.heap.size + 1 + 1, 2, none⟩ (.int .i64 sp)).setCell ⟨w.heap.size + 1 + 1, 3, none⟩ (.int .i64 lo)).setCell ⟨w.heap.size + 1 + 1, 4, none⟩ (.int .i64 hi')).setCell ⟨w.heap.size + 1 + 1, 5, none⟩ (.int .i64 ch)).setCell ⟨w.heap.size + 1 + 1, 6, none⟩ (.int .i64 tu)).setCell ⟨w.heap.size + 1 + 1, 7, none⟩ (.int .i64 mk) := ⟨_, rfl⟩
  rw [← hWF] at dB yB
  rw [← hWF]
  clear hWF bM d3 y4
  have x0 : WF.cell? ⟨w.heap.size + 1 + 1, 0, none⟩ = some (.int .i64 (i : Int)) := dB.cell 0
  have x1 : WF.cell? ⟨w.heap.size + 1 + 1, 1, none⟩ = some (.bool hc) := dB.cell 1
  have x2 : WF.cell? ⟨w.heap.size + 1 + 1, 2, none⟩ = some (.int .i64 sp) := dB.cell 2
  have x3 : WF.cell? ⟨w.heap.size + 1 + 1, 3, none⟩ = some (.int .i64 lo) := dB.cell 3
  have x4 : WF.cell? ⟨w.heap.size + 1 + 1, 4, none⟩ = some (.int .i64 hi') := dB.cell 4
  have x5 : WF.cell? ⟨w.heap.size + 1 + 1, 5, none⟩ = some (.int .i64 ch) := dB.cell 5
  have x6 : WF.cell? ⟨w.heap.size + 1 + 1, 6, none⟩ = some (.int .i64 tu) := dB.cell 6
  have x7 : WF.cell? ⟨w.heap.size + 1 + 1, 7, none⟩ = some (.int .i64 mk) := dB.cell 7
  exact bodyPost_ret (v := .tuple #[.agg #[.int .i64 (i : Int), .bool hc, .int .i64 sp, .int .i64 lo, .int .i64 hi', .int .i64 ch, .int .i64 tu, .int .i64 mk], .int .i64 0]) (by simp [results, Try.results27, go_sem, x0, x1, x2, x3, x4, x5, x6, x7]) rfl (HFIN.out WF yB)
end Go.Proofs.Ytbpofkggoolmpaa

/-
  Slices of records whose cells hold numbers and slices: a spine and its rows. No program is in sight.
-/
namespace Go.Proofs.Ytbpofkggoolmpaa
open Go.RowKit

/-! ### lists of cells, element by element -/
section
variable {α : Type} {f : α → List Value} {s : Nat}
theorem flat_len (hf : ∀ a, (f a).length = s) (ts : List α) : (ts.flatMap f).length = ts.length * s := by
  induction ts with
  | nil => simp
  | cons t r ih => rw [List.flatMap_cons, List.length_append, hf, ih, List.length_cons, Nat.succ_mul]; omega
theorem flat_get (hf : ∀ a, (f a).length = s) : ∀ {ts : List α} {k : Nat} {t : α} {j : Nat}, ts[k]? = some t → j < s → (ts.flatMap f)[k * s + j]? = (f t)[j]?
  | [], k, t, j, h, _ => by simp at h
  | u :: r, 0, t, j, h, hj => by
    simp at h; subst h
    rw [List.flatMap_cons, Nat.zero_mul, Nat.zero_add, List.getElem?_append_left (by rw [hf]; exact hj)]
  | u :: r, k + 1, t, j, h, hj => by
    have ih := flat_get hf (ts := r) (k := k) (t := t) (j := j) (by simpa using h) hj
    rw [List.flatMap_cons, List.getElem?_append_right (by rw [hf, Nat.succ_mul]; omega), hf, show (k + 1) * s + j - s = k * s + j from by rw [Nat.succ_mul]; omega]
    exact ih
theorem flat_snoc (ts : List α) (t : α) : (ts ++ [t]).flatMap f = ts.flatMap f ++ f t := by simp
theorem flat_set (hf : ∀ a, (f a).length = s) : ∀ {ts : List α} {k j : Nat} {t u : α} {v : Value}, ts[k]? = some t → j < s → (f t).set j v = f u → (ts.flatMap f).set (k * s + j) v = (ts.set k u).flatMap f
  | [], k, j, t, u, v, h, _, _ => by simp at h
  | x :: r, 0, j, t, u, v, h, hj, he => by
    simp at h; subst h
    rw [List.flatMap_cons, Nat.zero_mul, Nat.zero_add, List.set_append_left _ _ (by rw [hf]; exact hj), he]; rfl
  | x :: r, k + 1, j, t, u, v, h, hj, he => by
    have ih := flat_set hf (ts := r) (k := k) (j := j) (t := t) (u := u) (v := v) (by simpa using h) hj he
    rw [List.flatMap_cons, List.set_append_right _ _ (by rw [hf, Nat.succ_mul]; omega), hf, show (k + 1) * s + j - s = k * s + j from by rw [Nat.succ_mul]; omega, ih]
    rfl
end

/-! ### rows of any kind -/
structure Rw where
  A : Option Addr
  n : Nat
  c : Nat
  e : TypeId
  s : Nat
  cs : List Value
def Rw.val (r : Rw) : Value := .slice r.A r.n r.c
def Rw.own (r : Rw) (w : World) (lo : Nat) : Prop := Own w lo r.e r.s r.A r.n r.c r.cs
def AptR (t u : Rw) : Prop := ∀ b, blk t.A = some b → blk u.A ≠ some b
/-- A row of numbers. -/
def Rw.i (e : TypeId) (A : Option Addr) (c : Nat) (xs : List Int) : Rw := ⟨A, xs.length, c, e, 1, ints xs⟩

/-- An owned spine, cells of s to an element, and its rows, all apart. -/
structure Recs (w : World) (lo : Nat) (e : TypeId) (s : Nat) (A : Option Addr) (n c : Nat) (cs : List Value) (rows : List Rw) : Prop where
  spine : Own w lo e s A n c cs
  each : ∀ r ∈ rows, r.own w lo
  apt : rows.Pairwise AptR
  types : ∀ r ∈ rows, r.e ≠ e
section
variable {w w' w2 : World} {lo lo' n c s : Nat} {e : TypeId} {A : Option Addr} {cs : List Value} {rows : List Rw}
theorem Rw.own.below {r : Rw} (h : r.own w lo) (z : Below w.heap.size w w') : r.own w' lo := Own.below h z
theorem Rw.own.mono {r : Rw} (h : r.own w lo) (hl : lo' ≤ lo) : r.own w lo' := Own.mono h hl
theorem Recs.nil (h : Own w lo e s A 0 c []) : Recs w lo e s A 0 c [] [] := ⟨h, by simp, List.Pairwise.nil, by simp⟩
theorem Recs.below (h : Recs w lo e s A n c cs rows) (z : Below w.heap.size w w') : Recs w' lo e s A n c cs rows := ⟨h.spine.below z, fun r hr => (h.each r hr).below z, h.apt, h.types⟩
theorem Recs.mono (h : Recs w lo e s A n c cs rows) (hl : lo' ≤ lo) : Recs w lo' e s A n c cs rows := ⟨h.spine.mono hl, fun r hr => (h.each r hr).mono hl, h.apt, h.types⟩
theorem Recs.drewN (h : Recs w lo e s A n c cs rows) (k : Nat) : Recs (w.drewN k) lo e s A n c cs rows := ⟨h.spine.drewN k, fun r hr => Own.drewN (h.each r hr) k, h.apt, h.types⟩
theorem Recs.alloc (h : Recs w lo e s A n c cs rows) (o : Obj) : Recs (w.alloc o) lo e s A n c cs rows := ⟨h.spine.alloc o, fun r hr => (Own.alloc (h.each r hr) o), h.apt, h.types⟩
/-- A row's block is not the spine's. -/
theorem Recs.row_ne (h : Recs w lo e s A n c cs rows) : ∀ r ∈ rows, ∀ b, blk A = some b → blk r.A ≠ some b := fun r hr b hb hb' => Own.blk_ne h.spine (h.each r hr) (fun he => h.types r hr he.symm) b hb hb'
theorem Recs.kept (h : Recs w lo e s A n c cs rows) (hA : ∀ b, blk A = some b → w'.heap[b]? = w.heap[b]?) (hR : ∀ r ∈ rows, ∀ b, blk r.A = some b → w'.heap[b]? = w.heap[b]?) : Recs w' lo e s A n c cs rows :=
  ⟨h.spine.kept (fun b hb _ _ => hA b hb), fun r hr => Own.kept (h.each r hr) (fun b hb _ _ => hR r hr b hb), h.apt, h.types⟩
theorem Recs.set_far (h : Recs w lo e s A n c cs rows) {g i : Nat} (hg : g < lo) (u : Value) : Recs (w.setCell ⟨g, i, none⟩ u) lo e s A n c cs rows :=
  ⟨h.spine.far (p := ⟨g, i, none⟩) (fun e => by have h1 : lo ≤ g := h.spine.blk_ge _ e; omega) u, fun r hr => Own.far (h.each r hr) (p := ⟨g, i, none⟩) (fun e => by have h1 : lo ≤ g := Own.blk_ge (h.each r hr) _ e; omega) u, h.apt, h.types⟩
/-- One record more: the spine has grown, the new rows are apart from the old ones. -/
theorem Recs.append {A2 : Option Addr} {n2 c2 : Nat} {news : List Value} {more : List Rw} (h : Recs w lo e s A n c cs rows) (hs : Own w2 lo e s A2 n2 c2 (cs ++ news)) (hg : w.grownBy w2 (blk A)) (hm : ∀ r ∈ more, r.own w lo) (ha : more.Pairwise AptR) (ht : ∀ r ∈ more, r.e ≠ e)
    (hx : ∀ r ∈ rows, ∀ m ∈ more, AptR r m) : Recs w2 lo e s A2 n2 c2 (cs ++ news) (rows ++ more) := by
  have far : ∀ r : Rw, r.own w lo → r.e ≠ e → r.own w2 lo := fun r hr hne =>
    Own.grown hr hg (fun g hgA hb => Own.blk_ne h.spine hr (fun he => hne he.symm) g hgA hb)
  refine ⟨hs, fun r hr => ?_, ?_, fun r hr => ?_⟩
  · rcases List.mem_append.1 hr with h1 | h1
    · exact far r (h.each r h1) (h.types r h1)
    · exact far r (hm r h1) (ht r h1)
  · rw [List.pairwise_append]; exact ⟨h.apt, ha, hx⟩
  · rcases List.mem_append.1 hr with h1 | h1
    · exact h.types r h1
    · exact ht r h1
/-- New rows that lie from k on, old ones below it. -/
theorem Recs.apart {more : List Rw} {k : Nat} (h : Recs w lo e s A n c cs rows) (hk : w.heap.size ≤ k) (hm : ∀ r ∈ more, ∀ b, blk r.A = some b → k ≤ b) : ∀ r ∈ rows, ∀ m ∈ more, AptR r m := fun r hr m hm' b hb hb' => by
  have h1 := Own.blk_lt (h.each r hr) b hb
  have h2 := hm m hm' b hb'
  omega
theorem Recs.fr {X : Nat → Prop} (h : Recs w lo e s A n c cs rows) (hf : ∀ b, X b → w'.heap[b]? = w.heap[b]?) (hA : ∀ b, blk A = some b → X b) (hR : ∀ r ∈ rows, ∀ b, blk r.A = some b → X b) : Recs w' lo e s A n c cs rows :=
  h.kept (fun b hb => hf b (hA b hb)) (fun r hr b hb => hf b (hR r hr b hb))
theorem Blk.apt {w : World} {g : Nat} {t e : TypeId} {cur : Array Value} {lo n c s : Nat} {A : Option Addr} {cs : List Value} (h : Blk w g t cur) (h' : Own w lo e s A n c cs) (hne : t ≠ e) : blk A ≠ some g := by
  intro hb
  rcases h'.2 with ⟨rfl, _⟩ | ⟨b, off, cur2, rfl, _, hg, _⟩
  · simp [blk] at hb
  · simp [blk] at hb; subst hb
    unfold Blk at h
    rw [hg] at h
    simp at h
    exact hne h.2.symm
theorem Blk.grown {w w2 : World} {g : Nat} {t e : TypeId} {cur : Array Value} {lo n c s : Nat} {A : Option Addr} {cs : List Value} (h : Blk w g t cur) (h' : Own w lo e s A n c cs) (hg : w.grownBy w2 (blk A)) (hne : t ≠ e) : Blk w2 g t cur :=
  (hg.block g (Array.getElem?_eq_some_iff.1 h).1 (fun e => h.apt h' hne e.symm)).trans h
theorem Own.grown_apt {w w2 : World} {lo lo' n n' c c' s s' : Nat} {e e' : TypeId} {A A' : Option Addr} {cs cs' : List Value} (h : Own w lo' e' s' A' n' c' cs') (h0 : Own w lo e s A n c cs) (hg : w.grownBy w2 (blk A)) (hne : e' ≠ e) : Own w2 lo' e' s' A' n' c' cs' :=
  h.grown hg (fun g hg' hb => Own.blk_ne h0 h (fun he => hne he.symm) g hg' hb)
theorem Recs.set_blk {g i : Nat} {t : TypeId} {cur : Array Value} (h : Recs w lo e s A n c cs rows) (hb : Blk w g t cur) (ht : t ≠ e) (hr : ∀ r ∈ rows, t ≠ r.e) (u : Value) : Recs (w.setCell ⟨g, i, none⟩ u) lo e s A n c cs rows :=
  ⟨h.spine.far (p := ⟨g, i, none⟩) (hb.apt h.spine ht) u, fun r hr' => Own.far (h.each r hr') (p := ⟨g, i, none⟩) (hb.apt (h.each r hr') (hr r hr')) u, h.apt, h.types⟩
/-- The blocks of a slice of records. -/
def RecsB (A : Option Addr) (rows : List Rw) (b : Nat) : Prop := blk A = some b ∨ ∃ r ∈ rows, blk r.A = some b
theorem Recs.blk_ge (h : Recs w lo e s A n c cs rows) : ∀ b, RecsB A rows b → lo ≤ b ∧ b < w.heap.size := by
  rintro b (hb | ⟨r, hr, hb⟩)
  · exact ⟨h.spine.blk_ge b hb, h.spine.blk_lt b hb⟩
  · exact ⟨Own.blk_ge (h.each r hr) b hb, Own.blk_lt (h.each r hr) b hb⟩
theorem Recs.keptB (h : Recs w lo e s A n c cs rows) (hk : ∀ b, RecsB A rows b → w'.heap[b]? = w.heap[b]?) : Recs w' lo e s A n c cs rows :=
  h.kept (fun b hb => hk b (.inl hb)) (fun r hr b hb => hk b (.inr ⟨r, hr, hb⟩))
end
end Go.Proofs.Ytbpofkggoolmpaa

/-
  The observer 'crossings': contracts of its methods, and of CrossingSequence for runs that have room.
-/
namespace Go.Proofs.Ytbpofkggoolmpaa
open Go.RowKit

theorem crossM_config (g : Nat) (w : World) : (method 452 160 (.pointer (some ⟨g, 0, none⟩)) "loop.example/g01079/impl.config").run Try.prog w = .ok (321, .pointer (some ⟨g, 0, none⟩)) w := by kernel_rfl
theorem crossM_step (g : Nat) (w : World) : (method 452 160 (.pointer (some ⟨g, 0, none⟩)) "loop.example/g01079/impl.step").run Try.prog w = .ok (322, .pointer (some ⟨g, 0, none⟩)) w := by kernel_rfl

theorem RunC.blkM {X : Nat → Prop} {W : World} {lo g : Nat} {sy st : Int} {A : Option Addr} {n k : Nat} {c : Conf} (h : RunC X W lo g sy st A n k c) : ∃ cs, Blk W g 250 cs := by
  obtain ⟨L, cl, R, d, e1, _⟩ := h
  exact ⟨_, e1⟩
/-- The observer in memory beside a runner. -/
structure CrX (w0 : World) (b g : Nat) (sy st : Int) (A : Option Addr) (n k : Nat) (c : Conf) (at_ : Int) (ps : List Int) (len : Nat) (P : Option Addr) (pc : Nat) (W : World) : Prop where
  box : Blk W b 162 #[.int .i64 at_, .slice P len pc]
  pos : Own W w0.heap.size 2 1 P len pc (ints ps)
  run : RunC (fun x => x = b ∨ blk P = some x) W w0.heap.size g sy st A n k c
  low : Below w0.heap.size w0 W
  lob : w0.heap.size ≤ b
  bg : b ≠ g
section
variable {w0 W W' : World} {b g : Nat} {sy st : Int} {A : Option Addr} {n k : Nat} {c : Conf} {at_ : Int} {ps : List Int} {len : Nat} {P : Option Addr} {pc : Nat}
theorem CrX.below (h : CrX w0 b g sy st A n k c at_ ps len P pc W) (z : Below W.heap.size W W') : CrX w0 b g sy st A n k c at_ ps len P pc W' :=
  ⟨h.box.below' z, h.pos.below z, h.run.below z, h.low.trans (z.mono h.low.size), h.lob, h.bg⟩
/-- One more. -/
theorem CrX.push {A2 : Option Addr} {c2 : Nat} {v : Int} (h : CrX w0 b g sy st A n k c at_ ps len P pc W) (ho : Own W' w0.heap.size 2 1 A2 (len + 1) c2 (ints (ps ++ [v]))) (hg : W.grownBy W' (blk P)) (hgn : blk A2 = blk P ∨ blk A2 = some W.heap.size) :
    CrX w0 b g sy st A n k c at_ (ps ++ [v]) (len + 1) A2 c2 (W'.setCell ⟨b, 1, none⟩ (.slice A2 (len + 1) c2)) := by
  have hbx : Blk W' b 162 #[.int .i64 at_, .slice P len pc] := h.box.grown h.pos hg (by decide)
  have hbl := h.box.lt
  obtain ⟨cs, hc⟩ := h.run.blkM
  have hc' : Blk W' g 250 cs := hc.grown h.pos hg (by decide)
  have hbg := h.bg
  have hrun : RunC (fun x => x = b ∨ blk A2 = some x) W' w0.heap.size g sy st A n k c := by
    obtain ⟨L, cl, Q, d, e1, e2, e3, e4, e5, e6⟩ := h.run
    have hne : ∀ x, blk A2 = some x → blk P = some x ∨ x = W.heap.size := fun x hx => by
      rcases hgn with h | h
      · exact .inl (by rw [← h]; exact hx)
      · rw [h] at hx; exact .inr (Option.some.inj hx).symm
    refine ⟨L, cl, Q, d, ?_, e2.grown hg (fun x hx hb => e5 x hb (.inr hx)), e3.grown hg (fun x hx hb => e6 x hb (.inr hx)), e4, fun x hb hx => ?_, fun x hb hx => ?_⟩
    · exact (hg.block g hc.lt (fun e => hc.apt h.pos (by decide) e.symm)).trans e1
    · rcases hx with rfl | hx
      · exact e5 x hb (.inl rfl)
      · rcases hne x hx with h2 | h2
        · exact e5 x hb (.inr h2)
        · have := e2.blk_lt x hb; omega
    · rcases hx with rfl | hx
      · exact e6 x hb (.inl rfl)
      · rcases hne x hx with h2 | h2
        · exact e6 x hb (.inr h2)
        · have := e3.blk_lt x hb; omega
  refine ⟨hbx.set_ 1 _, ho.far (p := ⟨b, 1, none⟩) (hbx.apt ho (by decide)) _, ?_, (h.pos.below_of h.low hg h.low.size).setCell (p := ⟨b, 1, none⟩) h.lob _, h.lob, h.bg⟩
  exact hrun.set (fun e => by
    rcases e with e | e
    · exact hbg e.symm
    · exact hc'.apt ho (by decide) e) (.inl rfl) _
end
/-- The observer's data ahead of the i-th step. -/
def CrD (w0 : World) (b : Nat) (sy : Int) (rs : List R3) (c : Conf) (at_ : Int) (i : Nat) (X : Nat → Prop) (W : World) : Prop :=
  ∃ (P : Option Addr) (pc : Nat), X b ∧ (∀ x, blk P = some x → X x) ∧ w0.heap.size ≤ b ∧ Blk W b 162 #[.int .i64 at_, .slice P (crF sy rs c at_ i).length pc] ∧ Own W w0.heap.size 2 1 P (crF sy rs c at_ i).length pc (ints (crF sy rs c at_ i))
theorem CrD.st (w0 : World) (b : Nat) (sy : Int) (rs : List R3) (c : Conf) (at_ : Int) (i : Nat) : StF (CrD w0 b sy rs c at_ i) := by
  rintro X W W' ⟨P, pc, h1, h2, h3, h4, h5⟩ hf
  exact ⟨P, pc, h1, h2, h3, h4.fr hf h1, h5.fr hf h2⟩
theorem FS.crx {w0 W : World} {b g : Nat} {sy st : Int} {A : Option Addr} {n k : Nat} {rs : List R3} {c c' : Conf} {at_ : Int} {i : Nat} (h : FS w0 g sy st A n k c' (CrD w0 b sy rs c at_ i) W) : ∃ P pc, CrX w0 b g sy st A n k c' at_ (crF sy rs c at_ i) (crF sy rs c at_ i).length P pc W := by
  obtain ⟨X, hXg, hXb, hrun, hy, P, pc, h1, h2, h3, h4, h5⟩ := h
  obtain ⟨L, cl, R, d, e1, e2, e3, e4, e5, e6⟩ := hrun
  exact ⟨P, pc, h4, h5, ⟨L, cl, R, d, e1, e2, e3, e4, fun x hb hx => e5 x hb (hx.elim (fun e => by rw [e]; exact h1) (h2 x)), fun x hb hx => e6 x hb (hx.elim (fun e => by rw [e]; exact h1) (h2 x))⟩, hy, h3, fun e => hXg (by rw [← e]; exact h1)⟩
theorem CrX.fs {w0 W : World} {b g : Nat} {sy st : Int} {A : Option Addr} {n k : Nat} {rs : List R3} {c c' : Conf} {at_ : Int} {i len : Nat} {P : Option Addr} {pc : Nat} (h : CrX w0 b g sy st A n k c' at_ (crF sy rs c at_ i) len P pc W) : FS w0 g sy st A n k c' (CrD w0 b sy rs c at_ i) W := by
  obtain ⟨cs, hc⟩ := h.run.blkM
  have hl : len = (crF sy rs c at_ i).length := by have := h.pos.1; simp [ints] at this; omega
  subst hl
  refine ⟨fun x => x = b ∨ blk P = some x, fun e => ?_, fun x hx => ?_, h.run, h.low, P, pc, .inl rfl, fun x hx => .inr hx, h.lob, h.box, h.pos⟩
  · rcases e with e | e
    · exact h.bg e.symm
    · exact hc.apt h.pos (by decide) e
  · rcases hx with rfl | hx
    · exact h.box.lt
    · exact h.pos.blk_lt x hx

theorem crossConfig_any (g b : Nat) (p : Int) (w : World) : Calls Try.prog 321 #[.pointer (some ⟨b, 0, none⟩), .pointer (some ⟨g, 0, none⟩), .int .i64 p] w fun e w' => (∃ u, e = .returned u) ∧ w = w' := by
  go_enter Try.func321, Try.ntmps321
  go_wp2_with fail
  exact bodyPost_end (results_none rfl _ _ _) rfl ⟨⟨_, rfl⟩, rfl⟩

set_option maxRecDepth 100000 in
set_option maxHeartbeats 4000000 in
theorem crossStep_any (w0 : World) (g : Nat) (sy st : Int) (A : Option Addr) (n k : Nat) (rs : List R3) (c0 : Conf) (at_ : Int) (i b : Nat) (p : Int) (r : R3) (W : World) (hp : p = posF sy rs c0 i) (hr : r = ruleOf sy rs (itC sy rs c0 i).q (itC sy rs c0 i).ys) (hb1 : r.b = -1 ∨ r.b = 1) (hp1 : -1000000 ≤ p) (hp2 : p ≤ 1000000) (hat : -1000000 ≤ at_) (hat2 : at_ ≤ 1000000) (hi : i ≤ 1000000) (hS : FS w0 g sy st A n k (itC sy rs c0 i) (CrD w0 b sy rs c0 at_ i) W) :
    Calls Try.prog 322 #[.pointer (some ⟨b, 0, none⟩), .pointer (some ⟨g, 0, none⟩), .int .i64 p, .agg #[.int .i64 r.a, .int .i64 r.b, .int .i64 r.c]] W fun e W' => (∃ u, e = .returned u) ∧ FS w0 g sy st A n k (itC sy rs c0 i) (CrD w0 b sy rs c0 at_ (i + 1)) W' ∧ ∀ x cs, Blk W x 229 cs → Blk W' x 229 cs := by
  obtain ⟨P, pc, hq⟩ := hS.crx
  have hlen := cross_len (sy := sy) (rs := rs) (c := c0) at_ i
  have HN : Hid (crF sy rs c0 at_ (i + 1) = if min p (p + r.b) = at_ - 1 then crF sy rs c0 at_ i ++ [r.c] else crF sy rs c0 at_ i) := Lib.hid (by rw [hp, hr]; rfl)
  have HFIN : Hid (∀ (ps : List Int) (len : Nat) (P : Option Addr) (pc : Nat) (c' : Conf) (W' : World), c' = itC sy rs c0 i → ps = crF sy rs c0 at_ (i + 1) → CrX w0 b g sy st A n k c' at_ ps len P pc W' → FS w0 g sy st A n k (itC sy rs c0 i) (CrD w0 b sy rs c0 at_ (i + 1)) W') := Lib.hid (fun ps len P pc c' W hc hl h => by
    subst hc hl
    exact h.fs)
  clear hS hp hr
  generalize itC sy rs c0 i = cc at *
  generalize crF sy rs c0 at_ i = ps at *
  generalize ps.length = len at *
  obtain ⟨W1, hW_⟩ : ∃ W_, W_ = W.alloc (.cells #[.int .i64 r.a, .int .i64 r.b, .int .i64 r.c] 229) := ⟨_, rfl⟩
  have bR : Blk W1 W.heap.size 229 #[.int .i64 r.a, .int .i64 r.b, .int .i64 r.c] := by rw [hW_]; exact Blk.new W _ _
  have z1 : Below W.heap.size W W1 := by rw [hW_]; exact (Below.refl _ _).alloc (Nat.le_refl _) _
  have HW1 := Lib.hid hW_
  clear hW_
  have HK1 : Hid (∀ x cs, Blk W x 229 cs → x ≠ b ∧ Blk W1 x 229 cs) := Lib.hid (fun x cs h => ⟨fun e => by
    subst e
    have := Eq.trans (Eq.symm hq.box) h
    simp at this, h.below' z1⟩)
  have hne : W.heap.size ≠ b := by have := hq.box.lt; omega
  replace hq := hq.below z1
  clear z1
  have q0 : W1.cell? ⟨W.heap.size, 0, none⟩ = some (.int .i64 r.a) := bR.cell 0
  have q1 : W1.cell? ⟨W.heap.size, 1, none⟩ = some (.int .i64 r.b) := bR.cell 1
  have q2 : W1.cell? ⟨W.heap.size, 2, none⟩ = some (.int .i64 r.c) := bR.cell 2
  have x0 : W1.cell? ⟨b, 0, none⟩ = some (.int .i64 at_) := hq.box.cell 0
  have w1 : IntKind.i64.wrap (p + r.b) = p + r.b := IntWalk.i64_in _ (by omega)
  have w2 : IntKind.i64.wrap (at_ - 1) = at_ - 1 := IntWalk.i64_in _ (by omega)
  go_enter Try.func322, Try.ntmps322
  go_upto_region 1 with fail
  rw [← HW1.out]
  obtain ⟨mn, hmn⟩ : ∃ v, (if p + r.b < p then p + r.b else p) = v := ⟨_, rfl⟩
  have HM : Hid (mn = min p (p + r.b)) := Lib.hid (by rw [← hmn]; rw [Int.min_def]; split <;> split <;> omega)
  have zq : ∀ nq, Below W1.heap.size W1 (W1.drewN nq) := fun nq => below_drewN (Below.refl _ _) nq
  cases hd : (mn == at_ - 1)
  · go_quiet (fail)
    have hF : Hid (crF sy rs c0 at_ (i + 1) = ps) := Lib.hid (by rw [HN.out, if_neg]; rw [← HM.out]; simpa using hd)
    clear hmn
    go_wp2_with fail
    exact bodyPost_end (results_none rfl _ _ _) rfl ⟨⟨_, rfl⟩, HFIN.out ps len P pc cc _ rfl hF.out.symm (hq.below (zq _)), fun x cs h => (HK1.out x cs h).2.below' (zq _)⟩
  · have hF : Hid (crF sy rs c0 at_ (i + 1) = ps ++ [r.c]) := Lib.hid (by rw [HN.out, if_pos]; rw [← HM.out]; simpa using hd)
    go_quiet (fail)
    go_upto_region 2 with fail
    replace hq := hq.below (zq nq)
    have bR2 := bR.below' (zq nq)
    have HK2 : Hid (∀ x cs, Blk W x 229 cs → x ≠ b ∧ Blk (W1.drewN nq) x 229 cs) := Lib.hid (fun x cs h => ⟨(HK1.out x cs h).1, (HK1.out x cs h).2.below' (zq nq)⟩)
    clear zq hmn HK1 bR q0 q1 q2 x0 w1 w2
    generalize W1.drewN nq = W2 at *
    refine wp_region_noPanic ?_
    refine wp_region_held_drew (S := (fun w' => w'.cell? ⟨W.heap.size, 2, none⟩ = some (.int .i64 r.c))) (by kernel_rfl) ?_ (fun hHeld => ?_)
    · exact (bR2.below' (show Below W2.heap.size W2 W2.drew from below_drewN (Below.refl _ _) 1)).cell 2
    replace hq := hq.below (show Below W2.heap.size W2 W2.drew from below_drewN (Below.refl _ _) 1)
    replace bR2 := bR2.below' (show Below W2.heap.size W2 W2.drew from below_drewN (Below.refl _ _) 1)
    replace HK2 : Hid (∀ x cs, Blk W x 229 cs → x ≠ b ∧ Blk W2.drew x 229 cs) := Lib.hid (fun x cs h => ⟨(HK2.out x cs h).1, (HK2.out x cs h).2.below' (show Below W2.heap.size W2 W2.drew from below_drewN (Below.refl _ _) 1)⟩)
    generalize W2.drew = Wc at *
    refine wpAnyH_take (i := 0) (v := ?_) rfl (by kernel_rfl) (by kernel_rfl) (by kernel_rfl) (fun _ _ _ h => h) (Or.inl ⟨by rfl, ?_⟩) (by assumption) ?_
    rotate_left
    · intro w hSw
      try dsimp only at hSw
      go_simp
      try with_reducible rfl
    try simp only [Act.put, List.setIfInBounds_toArray]
    refine wpAnyH_take (i := 1) (v := ?_) rfl (by kernel_rfl) (by kernel_rfl) (by kernel_rfl) (fun _ _ _ h => h) (Or.inl ⟨by rfl, ?_⟩) (by assumption) ?_
    rotate_left
    · intro w hSw
      try dsimp only at hSw
      go_simp
      try with_reducible rfl
    try simp only [Act.put]
    refine wpAnyH_take (i := 2) (v := ?_) rfl (by kernel_rfl) (by kernel_rfl) (by kernel_rfl) (fun _ _ _ h => h) (Or.inl ⟨by rfl, ?_⟩) (by assumption) ?_
    rotate_left
    · intro w hSw
      try dsimp only at hSw
      go_simp
      try with_reducible rfl
    try simp only [Act.put]
    refine wpAnyH_take (i := 3) (v := ?_) rfl (by kernel_rfl) (by kernel_rfl) (by kernel_rfl) (fun _ _ _ h => h) (Or.inl ⟨by rfl, ?_⟩) (by assumption) ?_
    rotate_left
    · intro w hSw
      try dsimp only at hSw
      go_simp
      try with_reducible rfl
    try simp only [Act.put]
    refine wpAnyH_take (i := 5) (v := ?_) rfl (by kernel_rfl) (by kernel_rfl) (by kernel_rfl) (fun _ _ _ h => h) (Or.inl ⟨by rfl, ?_⟩) (by assumption) ?_
    rotate_left
    · intro w hSw
      try dsimp only at hSw
      go_simp
      try with_reducible rfl
    try simp only [Act.put]
    refine wpAnyH_take (i := 6) (v := ?_) rfl (by kernel_rfl) (by kernel_rfl) (by kernel_rfl) (fun _ _ _ h => h) (Or.inl ⟨by rfl, ?_⟩) (by assumption) ?_
    rotate_left
    · intro w hSw
      try dsimp only at hSw
      go_simp
      try with_reducible rfl
    try simp only [Act.put]
    try simp only [putAll, markAll, dstAt, Act.put, List.getElem_toArray, List.getElem?_toArray, List.getElem_cons_zero, List.getElem_cons_succ, List.getElem?_cons_zero, List.getElem?_cons_succ, Option.bind_some, List.setIfInBounds_toArray, List.set_cons_zero, List.set_cons_succ]
    refine wpAnyH_ready (rs := [4, 7]) (by kernel_rfl) (by simp) ?_
    refine AllReadyH.cons rfl (fun K hK => ?_) ?_
    · have cc1 := hq.box.cell 1
      go_simp
      clear cc1
      refine hK.out _ _ ?_ (fun hHeld => ?_)
      · exact bR2.cell 2
      clear hK K
      try simp only [Act.put, List.setIfInBounds_toArray, List.set_cons_zero, List.set_cons_succ]
      try simp only [putAll, markAll, dstAt, Act.put, List.getElem_toArray, List.getElem?_toArray, List.getElem_cons_zero, List.getElem_cons_succ, List.getElem?_cons_zero, List.getElem?_cons_succ, Option.bind_some, List.setIfInBounds_toArray, List.set_cons_zero, List.set_cons_succ]
      refine wpAnyH_ready (rs := [7]) (by kernel_rfl) (by simp) ?_
      refine AllReadyH.cons rfl (fun K hK => ?_) ?_
      · go_simp
        replace hq := hq.below ((Below.refl _ _).alloc (Nat.le_refl _) (.cells #[.int .i64 r.c] 2))
        have bR2 := bR2.alloc (.cells #[.int .i64 r.c] 2)
        have HK2 : Hid (∀ x cs, Blk W x 229 cs → x ≠ b ∧ Blk (Wc.alloc (.cells #[.int .i64 r.c] 2)) x 229 cs) := Lib.hid (fun x cs h => ⟨(HK2.out x cs h).1, (HK2.out x cs h).2.alloc _⟩)
        refine hK.out _ _ ?_ (fun hHeld => ?_)
        · exact bR2.cell 2
        clear hK K
        try simp only [Act.put, List.setIfInBounds_toArray, List.set_cons_zero, List.set_cons_succ]
        try simp only [putAll, markAll, dstAt, Act.put, List.getElem_toArray, List.getElem?_toArray, List.getElem_cons_zero, List.getElem_cons_succ, List.getElem?_cons_zero, List.getElem?_cons_succ, Option.bind_some, List.setIfInBounds_toArray, List.set_cons_zero, List.set_cons_succ]
        refine wpAnyH_ready (rs := [8]) (by kernel_rfl) (by simp) ?_
        refine AllReadyH.cons rfl (fun K hK => ?_) ?_
        · rw [if_pos (by rfl)]
          refine wp_append_Own (.tmp 24) (.tmp 27) rfl elI (lo := w0.heap.size) rfl hq.pos rfl (Rd.new1 Wc (.int .i64 r.c) 2) (by simp [Value.oneCell']) (by omega) (by simp only [maxLen]; omega) hq.low.size ?_
          intro A3 c3 W3 ho3 hg3 hw3
          have hb3 := hq.box.grown hq.pos hg3 (by decide)
          have bR2 := bR2.grown hq.pos hg3 (by decide)
          have HK2 : Hid (∀ x cs, Blk W x 229 cs → x ≠ b ∧ Blk W3 x 229 cs) := Lib.hid (fun x cs h => ⟨(HK2.out x cs h).1, (HK2.out x cs h).2.grown hq.pos hg3 (by decide)⟩)
          have hqF := hq.push (v := r.c) (by rw [← ints_snoc]; exact ho3) hg3 hw3.1
          have bRF := bR2.far (p := ⟨b, 1, none⟩) hne (.slice A3 (len + 1) c3)
          refine hK.out _ _ ?_ (fun hHeld => ?_)
          · exact bR2.cell 2
          clear hK K
          try simp only [Act.put, List.setIfInBounds_toArray]
          refine wpAnyH_take (i := 9) (v := ?_) rfl (by kernel_rfl) (by kernel_rfl) (by kernel_rfl) (fun _ _ _ h => h) (Or.inl ⟨by rfl, ?_⟩) (by assumption) ?_
          rotate_left
          · intro w hSw
            try dsimp only at hSw
            go_simp
            try with_reducible rfl
          try simp only [Act.put]
          refine wpAnyH_take (i := 10) (v := ?_) rfl (by kernel_rfl) (by kernel_rfl) (by kernel_rfl) (fun _ _ _ h => h) (Or.inl ⟨by rfl, ?_⟩) (by assumption) ?_
          rotate_left
          · intro w hSw
            try dsimp only at hSw
            go_simp
            try with_reducible rfl
          try simp only [Act.put]
          try simp only [putAll, markAll, dstAt, Act.put, List.getElem_toArray, List.getElem?_toArray, List.getElem_cons_zero, List.getElem_cons_succ, List.getElem?_cons_zero, List.getElem?_cons_succ, Option.bind_some, List.setIfInBounds_toArray, List.set_cons_zero, List.set_cons_succ]
          refine wpAnyH_ready (rs := [11]) (by kernel_rfl) (by simp) ?_
          refine AllReadyH.cons rfl (fun K hK => ?_) ?_
          · have cc1 := hb3.cell 1
            have ff1 := hb3.frozen 1
            go_simp
            clear cc1 ff1
            have bR2 := bRF
            refine hK.out _ _ ?_ (fun hHeld => ?_)
            · exact bR2.cell 2
            clear hK K
            try simp only [Act.put, List.setIfInBounds_toArray]
            refine wpAnyH_done (by kernel_rfl) ?_ _
            refine NoPanic.normal ?_
            go_wp2_with fail
            exact bodyPost_end (results_none rfl _ _ _) rfl ⟨⟨_, rfl⟩, HFIN.out _ _ A3 c3 cc _ rfl hF.out.symm hqF, fun x cs h => (HK2.out x cs h).2.far (p := ⟨b, 1, none⟩) (HK2.out x cs h).1 _⟩
          exact AllReadyH.nil
        exact AllReadyH.nil
      exact AllReadyH.nil
    refine AllReadyH.cons rfl (fun K hK => ?_) ?_
    · go_simp
      replace hq := hq.below ((Below.refl _ _).alloc (Nat.le_refl _) (.cells #[.int .i64 r.c] 2))
      have bR2 := bR2.alloc (.cells #[.int .i64 r.c] 2)
      have HK2 : Hid (∀ x cs, Blk W x 229 cs → x ≠ b ∧ Blk (Wc.alloc (.cells #[.int .i64 r.c] 2)) x 229 cs) := Lib.hid (fun x cs h => ⟨(HK2.out x cs h).1, (HK2.out x cs h).2.alloc _⟩)
      refine hK.out _ _ ?_ (fun hHeld => ?_)
      · exact bR2.cell 2
      clear hK K
      try simp only [Act.put, List.setIfInBounds_toArray, List.set_cons_zero, List.set_cons_succ]
      try simp only [putAll, markAll, dstAt, Act.put, List.getElem_toArray, List.getElem?_toArray, List.getElem_cons_zero, List.getElem_cons_succ, List.getElem?_cons_zero, List.getElem?_cons_succ, Option.bind_some, List.setIfInBounds_toArray, List.set_cons_zero, List.set_cons_succ]
      refine wpAnyH_ready (rs := [4]) (by kernel_rfl) (by simp) ?_
      refine AllReadyH.cons rfl (fun K hK => ?_) ?_
      · have cc1 := hq.box.cell 1
        go_simp
        clear cc1
        refine hK.out _ _ ?_ (fun hHeld => ?_)
        · exact bR2.cell 2
        clear hK K
        try simp only [Act.put, List.setIfInBounds_toArray, List.set_cons_zero, List.set_cons_succ]
        try simp only [putAll, markAll, dstAt, Act.put, List.getElem_toArray, List.getElem?_toArray, List.getElem_cons_zero, List.getElem_cons_succ, List.getElem?_cons_zero, List.getElem?_cons_succ, Option.bind_some, List.setIfInBounds_toArray, List.set_cons_zero, List.set_cons_succ]
        refine wpAnyH_ready (rs := [8]) (by kernel_rfl) (by simp) ?_
        refine AllReadyH.cons rfl (fun K hK => ?_) ?_
        · rw [if_pos (by rfl)]
          refine wp_append_Own (.tmp 24) (.tmp 27) rfl elI (lo := w0.heap.size) rfl hq.pos rfl (Rd.new1 Wc (.int .i64 r.c) 2) (by simp [Value.oneCell']) (by omega) (by simp only [maxLen]; omega) hq.low.size ?_
          intro A3 c3 W3 ho3 hg3 hw3
          have hb3 := hq.box.grown hq.pos hg3 (by decide)
          have bR2 := bR2.grown hq.pos hg3 (by decide)
          have HK2 : Hid (∀ x cs, Blk W x 229 cs → x ≠ b ∧ Blk W3 x 229 cs) := Lib.hid (fun x cs h => ⟨(HK2.out x cs h).1, (HK2.out x cs h).2.grown hq.pos hg3 (by decide)⟩)
          have hqF := hq.push (v := r.c) (by rw [← ints_snoc]; exact ho3) hg3 hw3.1
          have bRF := bR2.far (p := ⟨b, 1, none⟩) hne (.slice A3 (len + 1) c3)
          refine hK.out _ _ ?_ (fun hHeld => ?_)
          · exact bR2.cell 2
          clear hK K
          try simp only [Act.put, List.setIfInBounds_toArray]
          refine wpAnyH_take (i := 9) (v := ?_) rfl (by kernel_rfl) (by kernel_rfl) (by kernel_rfl) (fun _ _ _ h => h) (Or.inl ⟨by rfl, ?_⟩) (by assumption) ?_
          rotate_left
          · intro w hSw
            try dsimp only at hSw
            go_simp
            try with_reducible rfl
          try simp only [Act.put]
          refine wpAnyH_take (i := 10) (v := ?_) rfl (by kernel_rfl) (by kernel_rfl) (by kernel_rfl) (fun _ _ _ h => h) (Or.inl ⟨by rfl, ?_⟩) (by assumption) ?_
          rotate_left
          · intro w hSw
            try dsimp only at hSw
            go_simp
            try with_reducible rfl
          try simp only [Act.put]
          try simp only [putAll, markAll, dstAt, Act.put, List.getElem_toArray, List.getElem?_toArray, List.getElem_cons_zero, List.getElem_cons_succ, List.getElem?_cons_zero, List.getElem?_cons_succ, Option.bind_some, List.setIfInBounds_toArray, List.set_cons_zero, List.set_cons_succ]
          refine wpAnyH_ready (rs := [11]) (by kernel_rfl) (by simp) ?_
          refine AllReadyH.cons rfl (fun K hK => ?_) ?_
          · have cc1 := hb3.cell 1
            have ff1 := hb3.frozen 1
            go_simp
            clear cc1 ff1
            have bR2 := bRF
            refine hK.out _ _ ?_ (fun hHeld => ?_)
            · exact bR2.cell 2
            clear hK K
            try simp only [Act.put, List.setIfInBounds_toArray]
            refine wpAnyH_done (by kernel_rfl) ?_ _
            refine NoPanic.normal ?_
            go_wp2_with fail
            exact bodyPost_end (results_none rfl _ _ _) rfl ⟨⟨_, rfl⟩, HFIN.out _ _ A3 c3 cc _ rfl hF.out.symm hqF, fun x cs h => (HK2.out x cs h).2.far (p := ⟨b, 1, none⟩) (HK2.out x cs h).1 _⟩
          exact AllReadyH.nil
        exact AllReadyH.nil
      exact AllReadyH.nil
    exact AllReadyH.nil
end Go.Proofs.Ytbpofkggoolmpaa
