/-
  Contracts of the reference's l27Of and FormulaOf.
-/
import Derived.Test.YtpnkelmmfcmijaaPkFormulaOf1
import Derived.Test.YtpnkelmmfcmijaaPkFormulaOf2
namespace Go.Proofs.Ytpnkelmmfcmijaa
open Go.RowKit Go.Sort

def NewFmS (w : World) (r : Fm × Int) (e : Ending) (w' : World) : Prop :=
  ∃ A c ts B d us C k cq L a i R b j, e = .returned (.tuple #[.agg #[.int .i64 r.1.q, .int .i64 r.1.h, .int .i64 r.1.a, .slice A ts.length c, .slice B us.length d, .slice C r.1.O.length k], .agg #[.int .i64 cq, .slice L a i, .slice R b j], .int .i64 r.2]) ∧ FmR w' w.heap.size r.1 A c ts B d us C k ∧ Below w.heap.size w w'
theorem newFmS_zero {w w' : World} {code : Int} (z : Below w.heap.size w w') : NewFmS w (Fm.zero, code) (.returned (.tuple #[.agg #[.int .i64 0, .int .i64 0, .int .i64 0, .slice none 0 0, .slice none 0 0, .slice none 0 0], .agg #[.int .i64 0, .slice none 0 0, .slice none 0 0], .int .i64 code])) w' :=
  ⟨none, 0, [], none, 0, [], none, 0, 0, none, 0, 0, none, 0, 0, rfl, FmR.zero _ _, z⟩

theorem Blk.neF {w : World} {g g' : Nat} {t t' : TypeId} {c c' : Array Value} (h : Blk w g t c) (h' : Blk w g' t' c') (hne : t ≠ t') : g ≠ g' := by
  intro e
  subst e
  unfold Blk at h h'
  rw [h] at h'
  simp at h'
  exact hne h'.2
theorem alloc_pack2 {V w : World} {B : Nat} (h : Below B V w) (hB : B ≤ w.heap.size) (cs : Array Value) (t : TypeId) : ∃ W g, w.alloc (.cells cs t) = W ∧ g = w.heap.size ∧ Below w.heap.size w W ∧ Blk W g t cs ∧ B ≤ g ∧ Below B V W :=
  ⟨_, _, rfl, rfl, (Below.refl _ _).alloc (Nat.le_refl _) _, Blk.new w t cs, hB, h.alloc hB _⟩
theorem Blk.ownF {w : World} {g lo s : Nat} {t : TypeId} (h : Blk w g t #[]) (hl : lo ≤ g) : Own w lo t s (some ⟨g, 0, none⟩) 0 0 [] :=
  ⟨by simp, .inr ⟨g, 0, #[], rfl, hl, h, Nat.le_refl _, by simp [maxLen], by simp, fun k hk => absurd hk (by simp)⟩⟩
theorem FmO.three {w : World} {lo a b c : Nat} (ha : Blk w a 25 #[]) (hb : Blk w b 25 #[]) (hc : Blk w c 2 #[]) (la : lo ≤ a) (lb : lo ≤ b) (lc : lo ≤ c) (hne : a ≠ b) : FmO w lo (some ⟨a, 0, none⟩) 0 [] (some ⟨b, 0, none⟩) 0 [] (some ⟨c, 0, none⟩) 0 [] :=
  ⟨⟨ha.ownF la, by simp, List.Pairwise.nil⟩, ⟨hb.ownF lb, by simp, List.Pairwise.nil⟩, hc.ownF lc, ⟨fun _ ⟨_, ht, _⟩ => absurd ht List.not_mem_nil, fun _ ⟨_, ht, _⟩ => absurd ht List.not_mem_nil, fun _ ⟨_, ht, _⟩ => absurd ht List.not_mem_nil, fun k h1 h2 => hne (by simp [blk] at h1 h2; omega)⟩⟩

/-- What was built of the words so far, with an offset for each repeater. -/
def BncS (w : World) (lo g : Nat) (q h a : Int) (xss : List (List Int)) (i : Nat) (wr : World) : Prop :=
  ∃ A c ts B d us C k, Blk wr g 32 #[.int .i64 q, .int .i64 h, .int .i64 a, .slice A ts.length c, .slice B us.length d, .slice C us.length k] ∧ FmO wr lo A c ts B d us C k (List.replicate us.length 0) ∧ nums ts = evens (xss.take i) ∧ nums us = odds (xss.take i) ∧ Below lo w wr

set_option maxRecDepth 100000 in
set_option maxHeartbeats 8000000 in
theorem l27Of_any (g gp : Nat) (sy st : Int) (A0 : Option Addr) (n0 k0 : Nat) (rs : List R3) (q : Int) (A : Option Addr) (n c : Nat) (xs : List Int) (B : Option Addr) (m d : Nat) (ts : List Sl) (w : World) (hm0 : MachAt w g sy st A0 n0 k0) (hp0 : PrfAt w gp q A n c B m d) (hr : S3 w A0 n0 rs) (hx : SI w A n xs) (hy : SII w B m ts) (hn0 : n0 ≤ 1048576) (hn : n ≤ 1048576) (hm : m ≤ 1048576) (hns : ∀ t ∈ ts, t.xs.length ≤ 1048576) (hmb : machB sy st rs = true) :
    Calls Try.prog 81 #[.pointer (some ⟨g, 0, none⟩), .pointer (some ⟨gp, 0, none⟩)] w (NewFmS w (if bounceB q xs (nums ts) then bounceF sy st rs xs (nums ts) else (Fm.zero, 2))) := by
  obtain ⟨res, hres⟩ : ∃ res, res = (if bounceB q xs (nums ts) then bounceF sy st rs xs (nums ts) else (Fm.zero, 2)) := ⟨_, rfl⟩
  rw [← hres]
  have HRES := Lib.hid hres
  have HXL := Lib.hid hx.len
  have HTL : Hid ((nums ts).length = m) := Lib.hid (by rw [nums_len]; exact hy.len)
  have HMB := Lib.hid hmb
  have HNS := Lib.hid hns
  have HR := Lib.hid hr
  have HX := Lib.hid hx
  have HY := Lib.hid hy
  clear hres hmb hns hr hx hy
  obtain ⟨W, hW_⟩ : ∃ W, W = (w.alloc (.cells #[.int .i64 0, .int .i64 0, .int .i64 0, .slice none 0 0, .slice none 0 0, .slice none 0 0] 32)).alloc (.cells #[.int .i64 0, .slice none 0 0, .slice none 0 0] 59) := ⟨_, rfl⟩
  have s_1 : (w.alloc (.cells #[.int .i64 0, .int .i64 0, .int .i64 0, .slice none 0 0, .slice none 0 0, .slice none 0 0] 32)).heap.size = w.heap.size + 1 := by simp
  have b4 : Blk W w.heap.size 32 #[.int .i64 0, .int .i64 0, .int .i64 0, .slice none 0 0, .slice none 0 0, .slice none 0 0] := by rw [hW_]; exact (Blk.new w _ _).alloc _
  have b5 : Blk W (w.heap.size + 1) 59 #[.int .i64 0, .slice none 0 0, .slice none 0 0] := by rw [hW_, ← s_1]; exact Blk.new _ _ _
  have y0 : Below w.heap.size w W := by rw [hW_]; exact ((Below.refl _ _).alloc (Nat.le_refl _) _).alloc (by simp) _
  have HW := Lib.hid hW_
  clear hW_ s_1
  have HM := Lib.hid (hm0.below y0)
  have HP := Lib.hid (hp0.below y0)
  obtain ⟨v0, v1, v2⟩ := hp0.below y0
  have hgp : gp < w.heap.size := World.block_lt_of_cell? w _ hp0.1
  have x0 : W.cell? ⟨w.heap.size, 0, none⟩ = some (.int .i64 0) := b4.cell 0
  have x1 : W.cell? ⟨w.heap.size, 1, none⟩ = some (.int .i64 0) := b4.cell 1
  have x2 : W.cell? ⟨w.heap.size, 2, none⟩ = some (.int .i64 0) := b4.cell 2
  have x3 : W.cell? ⟨w.heap.size, 3, none⟩ = some (.slice none 0 0) := b4.cell 3
  have x4 : W.cell? ⟨w.heap.size, 4, none⟩ = some (.slice none 0 0) := b4.cell 4
  have x5 : W.cell? ⟨w.heap.size, 5, none⟩ = some (.slice none 0 0) := b4.cell 5
  have y_0 : W.cell? ⟨(w.heap.size + 1), 0, none⟩ = some (.int .i64 0) := b5.cell 0
  have y_1 : W.cell? ⟨(w.heap.size + 1), 1, none⟩ = some (.slice none 0 0) := b5.cell 1
  have y_2 : W.cell? ⟨(w.heap.size + 1), 2, none⟩ = some (.slice none 0 0) := b5.cell 2
  have f0 := b4.frozen 0
  have f1 := b4.frozen 1
  have f2 := b4.frozen 2
  have f3 := b4.frozen 3
  have f4 := b4.frozen 4
  have f5 := b4.frozen 5
  have e0 := b5.frozen 0
  have e1 := b5.frozen 1
  have e2 := b5.frozen 2
  obtain ⟨R, hRQ⟩ : ∃ R : Int, ((m : Int) - 1).tdiv 2 = R := ⟨_, rfl⟩
  have hRv : 1 ≤ m → R = ((m : Int) - 1) / 2 := by intro h; rw [← hRQ]; exact Int.tdiv_eq_ediv_of_nonneg (by omega)
  have hRb : 0 ≤ R ∧ R ≤ 1048576 := by
    by_cases h : m = 0
    · subst h; rw [← hRQ]; decide
    · have := hRv (by omega); omega
  have hRb0 := hRb.1
  have hRb1 := hRb.2
  have wR : IntKind.i64.wrap R = R := IntWalk.i64_in _ (by omega)
  have w4R : IntKind.i64.wrap (4 + R) = 4 + R := IntWalk.i64_in _ (by omega)
  clear hRb
  have hT : (m : Int).tmod 2 = (m : Int) % 2 := Int.tmod_eq_emod_of_nonneg (by omega)
  have wm : IntKind.i64.wrap ((m : Int) - 1) = (m : Int) - 1 := IntWalk.i64_in _ (by omega)
  have hcase : ((¬ q = 6) ∧ (q != 6) = true) ∨ (q = 6 ∧ (m : Int) < 3) ∨ (q = 6 ∧ ¬ (m : Int) < 3 ∧ (m : Int).tmod 2 = 0) ∨ (q = 6 ∧ ¬ (m : Int) < 3 ∧ (m : Int).tmod 2 = 1 ∧ 3 < R) ∨ (q = 6 ∧ ¬ (m : Int) < 3 ∧ (m : Int).tmod 2 = 1 ∧ ¬ 3 < R ∧ ¬ (n : Int) = 4 + R) ∨ (q = 6 ∧ ¬ (m : Int) < 3 ∧ (m : Int).tmod 2 = 1 ∧ ¬ 3 < R ∧ (n : Int) = 4 + R) := by
    by_cases hq : q = 6
    · rw [hT]
      by_cases h3 : (m : Int) < 3
      · exact .inr (.inl ⟨hq, h3⟩)
      · have := hRv (by omega); omega
    · exact .inl ⟨hq, by simpa using hq⟩
  have HFL : Hid ((¬ (q = 6 ∧ 5 ≤ n ∧ n ≤ 7 ∧ m + 7 = 2 * n)) → bounceB q xs (nums ts) = false) := Lib.hid (by
    intro h
    unfold bounceB
    rw [HXL.out, HTL.out, Bool.eq_false_iff]
    intro h2
    simp only [Bool.and_eq_true, decide_eq_true_eq] at h2
    exact h ⟨h2.1.1.1.1, h2.1.1.1.2, h2.1.1.2, h2.1.2⟩)
  have HRV := Lib.hid hRv
  have HT := Lib.hid hT
  clear hRv hT hm0 hp0
  rcases hcase with ⟨h, h'⟩ | ⟨rfl, h⟩ | ⟨rfl, h, h'⟩ | ⟨rfl, h, h', h''⟩ | ⟨rfl, h, h', h'', h4⟩ | ⟨rfl, h, h', h'', h4⟩
  rotate_right
  · obtain ⟨r, hnr⟩ : ∃ r, n = r + 4 := ⟨n - 4, by have h5 := HT.out; have h6 := HRV.out; omega⟩
    have hmr : m = 2 * r + 1 := by have h5 := HT.out; have h6 := HRV.out; omega
    have hr1 : 1 ≤ r := by omega
    have hr3 : r ≤ 3 := by have h6 := HRV.out; omega
    have HNR := Lib.hid hnr
    have HMR := Lib.hid hmr
    have hn5 : 5 ≤ n := by omega
    have h7 : 5 ≤ n ∧ n ≤ 7 ∧ m + 7 = 2 * n := by omega
    obtain ⟨pb, po, rfl, hpb, hc0, hc1, hc2, hc3⟩ := (HX.out.below y0).four (by omega)
    obtain ⟨X0, hX0⟩ : ∃ x, x = xs.getD 0 0 := ⟨_, rfl⟩
    obtain ⟨X2, hX2⟩ : ∃ x, x = xs.getD 2 0 := ⟨_, rfl⟩
    obtain ⟨X3, hX3⟩ : ∃ x, x = xs.getD 3 0 := ⟨_, rfl⟩
    rw [← hX0] at hc0
    rw [← hX2] at hc2
    rw [← hX3] at hc3
    have HRES2 : Hid (res = if inB X0 0 20000 then (if aliveB sy rs blankC X0.toNat then (if fmB sy st (buildF (itC sy rs blankC X0.toNat).q X2 X3 (nums ts) r) && onB (buildF (itC sy rs blankC X0.toNat).q X2 X3 (nums ts) r) then (buildF (itC sy rs blankC X0.toNat).q X2 X3 (nums ts) r, 0) else (Fm.zero, 9)) else (Fm.zero, 6)) else (Fm.zero, 2)) := Lib.hid (by
      rw [HRES.out]
      unfold bounceB bounceF
      rw [HXL.out, HTL.out, ← hX0, ← hX2, ← hX3, decide_eq_true (show (6 : Int) = 6 from rfl), decide_eq_true h7.1, decide_eq_true h7.2.1, decide_eq_true h7.2.2, show n - 4 = r by have := HNR.out; omega]
      rfl)
    have HC2 := Lib.hid hc2
    have HC3 := Lib.hid hc3
    have HPB := Lib.hid hpb
    have hne : ((n : Int) != 4 + R) = false := by simp; omega
    have ib0 : (0 : Int) < (n : Int) := by omega
    have nb0 : 0 < n := by omega
    have nb2 : 2 < n := by omega
    have nb3 : 3 < n := by omega
    have ib2 : (2 : Int) < (n : Int) := by omega
    have ib3 : (3 : Int) < (n : Int) := by omega
    clear hX0 hX2 hX3 HRES HFL hnr hmr h7 hc1 hc2 hc3 h4
    cases a1 : inB X0 0 20000
    · have A1 := Lib.hid a1
      obtain rfl : res = (Fm.zero, 2) := by rw [HRES2.out, A1.out]; rfl
      clear a1
      go_enter Try.func81, Try.ntmps81
      go_upto_region 1 with fail
      rw [← HW.out]
      go_wp2_with (go_at_call 101; refine (l00In_is A1.out _).mono ?_; rintro e w' ⟨rfl, rfl⟩)
      clear x0 x1 x2 x3 x4 x5 y_0 y_1 y_2
      have dB : Blk ((((((W.setCell ⟨w.heap.size, 0, none⟩ (.int .i64 0)).setCell ⟨w.heap.size, 1, none⟩ (.int .i64 0)).setCell ⟨w.heap.size, 2, none⟩ (.int .i64 0)).setCell ⟨w.heap.size, 3, none⟩ (.slice none 0 0)).setCell ⟨w.heap.size, 4, none⟩ (.slice none 0 0)).setCell ⟨w.heap.size, 5, none⟩ (.slice none 0 0)) w.heap.size 32 #[.int .i64 0, .int .i64 0, .int .i64 0, .slice none 0 0, .slice none 0 0, .slice none 0 0] := fm_set b4 (.int .i64 0) (.int .i64 0) (.int .i64 0) (.slice none 0 0) (.slice none 0 0) (.slice none 0 0)
      have yS : ∀ (lo : Nat) (w0 : World), Below lo w0 W → lo ≤ w.heap.size → Below lo w0 ((((((W.setCell ⟨w.heap.size, 0, none⟩ (.int .i64 0)).setCell ⟨w.heap.size, 1, none⟩ (.int .i64 0)).setCell ⟨w.heap.size, 2, none⟩ (.int .i64 0)).setCell ⟨w.heap.size, 3, none⟩ (.slice none 0 0)).setCell ⟨w.heap.size, 4, none⟩ (.slice none 0 0)).setCell ⟨w.heap.size, 5, none⟩ (.slice none 0 0)) := fun lo w0 h hl => fm_below h hl (.int .i64 0) (.int .i64 0) (.int .i64 0) (.slice none 0 0) (.slice none 0 0) (.slice none 0 0)
      have kS : ∀ k, k ≠ w.heap.size → ((((((W.setCell ⟨w.heap.size, 0, none⟩ (.int .i64 0)).setCell ⟨w.heap.size, 1, none⟩ (.int .i64 0)).setCell ⟨w.heap.size, 2, none⟩ (.int .i64 0)).setCell ⟨w.heap.size, 3, none⟩ (.slice none 0 0)).setCell ⟨w.heap.size, 4, none⟩ (.slice none 0 0)).setCell ⟨w.heap.size, 5, none⟩ (.slice none 0 0)).heap[k]? = W.heap[k]? := fun k hk => fm_kept (.int .i64 0) (.int .i64 0) (.int .i64 0) (.slice none 0 0) (.slice none 0 0) (.slice none 0 0) k hk
      generalize (((((W.setCell ⟨w.heap.size, 0, none⟩ (.int .i64 0)).setCell ⟨w.heap.size, 1, none⟩ (.int .i64 0)).setCell ⟨w.heap.size, 2, none⟩ (.int .i64 0)).setCell ⟨w.heap.size, 3, none⟩ (.slice none 0 0)).setCell ⟨w.heap.size, 4, none⟩ (.slice none 0 0)).setCell ⟨w.heap.size, 5, none⟩ (.slice none 0 0) = wf at *
      have c5_ : Blk wf (w.heap.size + 1) 59 #[.int .i64 0, .slice none 0 0, .slice none 0 0] := (kS _ (by omega)).trans b5
      have dB2 : Blk (((wf.setCell ⟨(w.heap.size + 1), 0, none⟩ (.int .i64 0)).setCell ⟨(w.heap.size + 1), 1, none⟩ (.slice none 0 0)).setCell ⟨(w.heap.size + 1), 2, none⟩ (.slice none 0 0)) (w.heap.size + 1) 59 #[.int .i64 0, .slice none 0 0, .slice none 0 0] := (((c5_).set_ 0 (.int .i64 0)).set_ 1 (.slice none 0 0)).set_ 2 (.slice none 0 0)
      have yS2 : ∀ (lo : Nat) (w0 : World), Below lo w0 wf → lo ≤ (w.heap.size + 1) → Below lo w0 (((wf.setCell ⟨(w.heap.size + 1), 0, none⟩ (.int .i64 0)).setCell ⟨(w.heap.size + 1), 1, none⟩ (.slice none 0 0)).setCell ⟨(w.heap.size + 1), 2, none⟩ (.slice none 0 0)) := fun lo w0 h hl => (((h.setCell hl _).setCell hl _).setCell hl _)
      have kS2 : ∀ k, k ≠ (w.heap.size + 1) → (((wf.setCell ⟨(w.heap.size + 1), 0, none⟩ (.int .i64 0)).setCell ⟨(w.heap.size + 1), 1, none⟩ (.slice none 0 0)).setCell ⟨(w.heap.size + 1), 2, none⟩ (.slice none 0 0)).heap[k]? = wf.heap[k]? := fun k hk => ((Below.heap_setCell _ _ _ _ hk).trans ((Below.heap_setCell _ _ _ _ hk).trans (Below.heap_setCell _ _ _ _ hk)))
      generalize ((wf.setCell ⟨(w.heap.size + 1), 0, none⟩ (.int .i64 0)).setCell ⟨(w.heap.size + 1), 1, none⟩ (.slice none 0 0)).setCell ⟨(w.heap.size + 1), 2, none⟩ (.slice none 0 0) = wf2 at *
      have c4_ : Blk wf2 w.heap.size 32 #[.int .i64 0, .int .i64 0, .int .i64 0, .slice none 0 0, .slice none 0 0, .slice none 0 0] := (kS2 _ (by omega)).trans dB
      have x0 : wf2.cell? ⟨w.heap.size, 0, none⟩ = some (.int .i64 0) := c4_.cell 0
      have x1 : wf2.cell? ⟨w.heap.size, 1, none⟩ = some (.int .i64 0) := c4_.cell 1
      have x2 : wf2.cell? ⟨w.heap.size, 2, none⟩ = some (.int .i64 0) := c4_.cell 2
      have x3 : wf2.cell? ⟨w.heap.size, 3, none⟩ = some (.slice none 0 0) := c4_.cell 3
      have x4 : wf2.cell? ⟨w.heap.size, 4, none⟩ = some (.slice none 0 0) := c4_.cell 4
      have x5 : wf2.cell? ⟨w.heap.size, 5, none⟩ = some (.slice none 0 0) := c4_.cell 5
      have y_0 : wf2.cell? ⟨(w.heap.size + 1), 0, none⟩ = some (.int .i64 0) := dB2.cell 0
      have y_1 : wf2.cell? ⟨(w.heap.size + 1), 1, none⟩ = some (.slice none 0 0) := dB2.cell 1
      have y_2 : wf2.cell? ⟨(w.heap.size + 1), 2, none⟩ = some (.slice none 0 0) := dB2.cell 2
      exact bodyPost_ret (v := .tuple #[.agg #[.int .i64 0, .int .i64 0, .int .i64 0, .slice none 0 0, .slice none 0 0, .slice none 0 0], .agg #[.int .i64 0, .slice none 0 0, .slice none 0 0], .int .i64 2]) (by simp [results, Try.results81, go_sem, x0, x1, x2, x3, x4, x5, y_0, y_1, y_2]) rfl (newFmS_zero (yS2 _ _ (yS _ _ y0 (by omega)) (by omega)))
    have A1 := Lib.hid a1
    have hx0 := (inB_iff _ _ _).1 a1
    clear a1
    have HGC : Hid (goodC sy st rs blankC) := Lib.hid (by show validConfB sy st rs 0 [] [] = true; rw [blank_good]; exact HMB.out)
    go_enter Try.func81, Try.ntmps81
    go_upto_region 1 with fail
    rw [← HW.out]
    clear x0 x1 x2 x3 x4 x5 y_0 y_1 y_2 f0 f1 f2 f3 f4 f5 e0 e1 e2
    go_wp2_with (go_at_call 101; refine (l00In_is A1.out _).mono ?_; rintro e w' ⟨rfl, rfl⟩)
    have hgpW : gp < W.heap.size := Nat.lt_of_lt_of_le hgp y0.size
    have KEEP : Hid (∀ cur, Below W.heap.size W cur → cur.cell? ⟨gp, 1, none⟩ = some (.slice (some ⟨pb, po, none⟩) n c) ∧ cur.cell? ⟨pb, po, none⟩ = some (.int .i64 X0)) := Lib.hid (fun cur h =>
      ⟨(h.cell (p := ⟨gp, 1, none⟩) hgpW).trans v1, (h.cell (p := ⟨pb, po, none⟩) HPB.out).trans hc0⟩)
    have HV2 := Lib.hid v2
    go_cut [9, 10, 11] (fun s9 s10 s11 wx => AfterBoxC W sy rs blankC X0.toNat s9 s10 s11 wx ∧ Hid (∀ gg, s9 = .pointer (some ⟨gg, 0, none⟩) → W.heap.size ≤ gg))
    case first =>
      go_region_held3 (fun w' => w'.cell? ⟨gp, 1, none⟩ = some (.slice (some ⟨pb, po, none⟩) n c) ∧ w'.cell? ⟨pb, po, none⟩ = some (.int .i64 X0))
        (first
          | (go_keep; done)
          | (exact KEEP.out _ (by first
              | exact zz4
              | exact zz4.alloc zz4.size _
              | exact zz3
              | exact zz3.alloc zz3.size _
              | exact conf_below (zz4.alloc zz4.size _) zz4.size _ _ _
              | exact conf_below zz4 BX.out.1 _ _ _)))
        (first
          | (go_at_call 165; refine (l25Blank_any _).mono ?_; rintro e W3 ⟨L2, a2, R2, d2, rfl, oL2, oR2, hap2, z3⟩; have hq : Below W.heap.size W W3 := below_undrew z3; have zz3 := hq; clear hq)
          | (go_at_call 165; refine (l25Blank_any _).mono ?_; rintro e W3 ⟨L2, a2, R2, d2, rfl, oL2, oR2, hap2, z3⟩; have hq : Below W.heap.size W W3 := below_of_alloc (below_undrew z3); have zz3 := hq; clear hq; have BX := Lib.hid (((Bx.new W 59 #[.int .i64 0, .slice none 0 0, .slice none 0 0] (Nat.le_refl _)).drewN 1).below' z3))
          | (go_at_call 164; have hq := BX; (with_reducible refine (l25After_blanki _ sy st A0 n0 k0 rs _ _ _ _ X0 _ (HM.out.below zz3) ((HR.out.below y0).below zz3) HGC.out hn0 (by omega) (by omega)).mono ?_); rintro e W4 ⟨v, x3, cf, L3, a3, R3', d3, rfl, hv1, hv2, oL3, oR3, hap3, z4⟩; have zz4 : Below W.heap.size W W4 := zz3.trans (z4.mono zz3.size); have BX2 := Lib.hid (BX.out.below' z4); clear hq BX; have BX := BX2; clear BX2; have oL3 := oL3.mono zz3.size; have oR3 := oR3.mono zz3.size; have x0_ : _ = some (Value.int .i64 0) := BX.out.2.cell 0; have f0 := BX.out.2.frozen 0; have x1_ : _ = some (Value.slice none 0 0) := BX.out.2.cell 1; have f1 := BX.out.2.frozen 1; have x2_ : _ = some (Value.slice none 0 0) := BX.out.2.cell 2; have f2 := BX.out.2.frozen 2)
          | (go_at_call 164; (with_reducible refine (l25After_blanki _ sy st A0 n0 k0 rs _ _ _ _ X0 _ (HM.out.below zz3) ((HR.out.below y0).below zz3) HGC.out hn0 (by omega) (by omega)).mono ?_); rintro e W4 ⟨v, x3, cf, L3, a3, R3', d3, rfl, hv1, hv2, oL3, oR3, hap3, z4⟩; have zz4 : Below W.heap.size W W4 := zz3.trans (z4.mono zz3.size); have oL3 := oL3.mono zz3.size; have oR3 := oR3.mono zz3.size)
          | (go_at_call 164; (with_reducible refine (l25After_blanki _ sy st A0 n0 k0 rs _ _ _ _ X0 _ ((HM.out.below zz3).alloc _) (((HR.out.below y0).below zz3).alloc _) HGC.out hn0 (by omega) (by omega)).mono ?_); rintro e W4 ⟨v, x3, cf, L3, a3, R3', d3, rfl, hv1, hv2, oL3, oR3, hap3, z4⟩; have zz4 : Below W.heap.size W W4 := zz3.trans ((below_of_alloc z4).mono zz3.size); have BX := Lib.hid ((Bx.new W3 59 #[.int .i64 0, .slice none 0 0, .slice none 0 0] zz3.size).below' z4); have oL3 := oL3.mono (show W.heap.size ≤ _ from Nat.le_trans zz3.size (by simp)); have oR3 := oR3.mono (show W.heap.size ≤ _ from Nat.le_trans zz3.size (by simp)); have x0_ : _ = some (Value.int .i64 0) := BX.out.2.cell 0; have f0 := BX.out.2.frozen 0; have x1_ : _ = some (Value.slice none 0 0) := BX.out.2.cell 1; have f1 := BX.out.2.frozen 1; have x2_ : _ = some (Value.slice none 0 0) := BX.out.2.cell 2; have f2 := BX.out.2.frozen 2))
      all_goals
        go_wp2_with fail
        go_meet
        first
          | exact ⟨⟨W4.heap.size, v, x3, cf, rfl, rfl, rfl, ConfC.new oL3 oR3 hap3, hv1, hv2, zz4.alloc zz4.size _⟩, Lib.hid (fun gg h => by cases h; exact zz4.size)⟩
          | exact ⟨⟨_, v, x3, cf, rfl, rfl, rfl, ⟨L3, a3, R3', d3, conf_set BX.out.2 _ _ _, conf_far2 BX.out.2 oL3 _ _ _, conf_far2 BX.out.2 oR3 _ _ _, hap3⟩, hv1, hv2, conf_below zz4 BX.out.1 _ _ _⟩, Lib.hid (fun gg h => by cases h; exact BX.out.1)⟩
    case rest =>
      obtain ⟨⟨g5, v, x5, cf, rfl, rfl, rfl, hcc, hv1, hv2, z5⟩, hgg⟩ := hcut
      have hg5l : W.heap.size ≤ g5 := hgg.out g5 rfl
      clear hgg
      have y5 := y0.trans (z5.mono y0.size)
      have c4 := b4.below' z5
      have c5 := b5.below' z5
      clear v0 v1 v2 hc0
      generalize wc = W5 at *
      cases v with
      | false =>
        have HA := Lib.hid (aliveB_false (hv2 rfl))
        obtain rfl : res = (Fm.zero, 6) := by rw [HRES2.out, A1.out, HA.out]; rfl
        clear hv1 hv2
        have x0 : W5.cell? ⟨w.heap.size, 0, none⟩ = some (.int .i64 0) := c4.cell 0
        have x1 : W5.cell? ⟨w.heap.size, 1, none⟩ = some (.int .i64 0) := c4.cell 1
        have x2 : W5.cell? ⟨w.heap.size, 2, none⟩ = some (.int .i64 0) := c4.cell 2
        have x3 : W5.cell? ⟨w.heap.size, 3, none⟩ = some (.slice none 0 0) := c4.cell 3
        have x4 : W5.cell? ⟨w.heap.size, 4, none⟩ = some (.slice none 0 0) := c4.cell 4
        have x5 : W5.cell? ⟨w.heap.size, 5, none⟩ = some (.slice none 0 0) := c4.cell 5
        have y_0 : W5.cell? ⟨(w.heap.size + 1), 0, none⟩ = some (.int .i64 0) := c5.cell 0
        have y_1 : W5.cell? ⟨(w.heap.size + 1), 1, none⟩ = some (.slice none 0 0) := c5.cell 1
        have y_2 : W5.cell? ⟨(w.heap.size + 1), 2, none⟩ = some (.slice none 0 0) := c5.cell 2
        have f0 := c4.frozen 0
        have f1 := c4.frozen 1
        have f2 := c4.frozen 2
        have f3 := c4.frozen 3
        have f4 := c4.frozen 4
        have f5 := c4.frozen 5
        have e0 := c5.frozen 0
        have e1 := c5.frozen 1
        have e2 := c5.frozen 2
        go_wp2_with fail
        clear x0 x1 x2 x3 x4 x5 y_0 y_1 y_2
        have dB : Blk ((((((W5.setCell ⟨w.heap.size, 0, none⟩ (.int .i64 0)).setCell ⟨w.heap.size, 1, none⟩ (.int .i64 0)).setCell ⟨w.heap.size, 2, none⟩ (.int .i64 0)).setCell ⟨w.heap.size, 3, none⟩ (.slice none 0 0)).setCell ⟨w.heap.size, 4, none⟩ (.slice none 0 0)).setCell ⟨w.heap.size, 5, none⟩ (.slice none 0 0)) w.heap.size 32 #[.int .i64 0, .int .i64 0, .int .i64 0, .slice none 0 0, .slice none 0 0, .slice none 0 0] := fm_set c4 (.int .i64 0) (.int .i64 0) (.int .i64 0) (.slice none 0 0) (.slice none 0 0) (.slice none 0 0)
        have yS : ∀ (lo : Nat) (w0 : World), Below lo w0 W5 → lo ≤ w.heap.size → Below lo w0 ((((((W5.setCell ⟨w.heap.size, 0, none⟩ (.int .i64 0)).setCell ⟨w.heap.size, 1, none⟩ (.int .i64 0)).setCell ⟨w.heap.size, 2, none⟩ (.int .i64 0)).setCell ⟨w.heap.size, 3, none⟩ (.slice none 0 0)).setCell ⟨w.heap.size, 4, none⟩ (.slice none 0 0)).setCell ⟨w.heap.size, 5, none⟩ (.slice none 0 0)) := fun lo w0 h hl => fm_below h hl (.int .i64 0) (.int .i64 0) (.int .i64 0) (.slice none 0 0) (.slice none 0 0) (.slice none 0 0)
        have kS : ∀ k, k ≠ w.heap.size → ((((((W5.setCell ⟨w.heap.size, 0, none⟩ (.int .i64 0)).setCell ⟨w.heap.size, 1, none⟩ (.int .i64 0)).setCell ⟨w.heap.size, 2, none⟩ (.int .i64 0)).setCell ⟨w.heap.size, 3, none⟩ (.slice none 0 0)).setCell ⟨w.heap.size, 4, none⟩ (.slice none 0 0)).setCell ⟨w.heap.size, 5, none⟩ (.slice none 0 0)).heap[k]? = W5.heap[k]? := fun k hk => fm_kept (.int .i64 0) (.int .i64 0) (.int .i64 0) (.slice none 0 0) (.slice none 0 0) (.slice none 0 0) k hk
        generalize (((((W5.setCell ⟨w.heap.size, 0, none⟩ (.int .i64 0)).setCell ⟨w.heap.size, 1, none⟩ (.int .i64 0)).setCell ⟨w.heap.size, 2, none⟩ (.int .i64 0)).setCell ⟨w.heap.size, 3, none⟩ (.slice none 0 0)).setCell ⟨w.heap.size, 4, none⟩ (.slice none 0 0)).setCell ⟨w.heap.size, 5, none⟩ (.slice none 0 0) = wf at *
        have c5_ : Blk wf (w.heap.size + 1) 59 #[.int .i64 0, .slice none 0 0, .slice none 0 0] := (kS _ (by omega)).trans c5
        have dB2 : Blk (((wf.setCell ⟨(w.heap.size + 1), 0, none⟩ (.int .i64 0)).setCell ⟨(w.heap.size + 1), 1, none⟩ (.slice none 0 0)).setCell ⟨(w.heap.size + 1), 2, none⟩ (.slice none 0 0)) (w.heap.size + 1) 59 #[.int .i64 0, .slice none 0 0, .slice none 0 0] := (((c5_).set_ 0 (.int .i64 0)).set_ 1 (.slice none 0 0)).set_ 2 (.slice none 0 0)
        have yS2 : ∀ (lo : Nat) (w0 : World), Below lo w0 wf → lo ≤ (w.heap.size + 1) → Below lo w0 (((wf.setCell ⟨(w.heap.size + 1), 0, none⟩ (.int .i64 0)).setCell ⟨(w.heap.size + 1), 1, none⟩ (.slice none 0 0)).setCell ⟨(w.heap.size + 1), 2, none⟩ (.slice none 0 0)) := fun lo w0 h hl => (((h.setCell hl _).setCell hl _).setCell hl _)
        have kS2 : ∀ k, k ≠ (w.heap.size + 1) → (((wf.setCell ⟨(w.heap.size + 1), 0, none⟩ (.int .i64 0)).setCell ⟨(w.heap.size + 1), 1, none⟩ (.slice none 0 0)).setCell ⟨(w.heap.size + 1), 2, none⟩ (.slice none 0 0)).heap[k]? = wf.heap[k]? := fun k hk => ((Below.heap_setCell _ _ _ _ hk).trans ((Below.heap_setCell _ _ _ _ hk).trans (Below.heap_setCell _ _ _ _ hk)))
        generalize ((wf.setCell ⟨(w.heap.size + 1), 0, none⟩ (.int .i64 0)).setCell ⟨(w.heap.size + 1), 1, none⟩ (.slice none 0 0)).setCell ⟨(w.heap.size + 1), 2, none⟩ (.slice none 0 0) = wf2 at *
        have c4_ : Blk wf2 w.heap.size 32 #[.int .i64 0, .int .i64 0, .int .i64 0, .slice none 0 0, .slice none 0 0, .slice none 0 0] := (kS2 _ (by omega)).trans dB
        have x0 : wf2.cell? ⟨w.heap.size, 0, none⟩ = some (.int .i64 0) := c4_.cell 0
        have x1 : wf2.cell? ⟨w.heap.size, 1, none⟩ = some (.int .i64 0) := c4_.cell 1
        have x2 : wf2.cell? ⟨w.heap.size, 2, none⟩ = some (.int .i64 0) := c4_.cell 2
        have x3 : wf2.cell? ⟨w.heap.size, 3, none⟩ = some (.slice none 0 0) := c4_.cell 3
        have x4 : wf2.cell? ⟨w.heap.size, 4, none⟩ = some (.slice none 0 0) := c4_.cell 4
        have x5 : wf2.cell? ⟨w.heap.size, 5, none⟩ = some (.slice none 0 0) := c4_.cell 5
        have y_0 : wf2.cell? ⟨(w.heap.size + 1), 0, none⟩ = some (.int .i64 0) := dB2.cell 0
        have y_1 : wf2.cell? ⟨(w.heap.size + 1), 1, none⟩ = some (.slice none 0 0) := dB2.cell 1
        have y_2 : wf2.cell? ⟨(w.heap.size + 1), 2, none⟩ = some (.slice none 0 0) := dB2.cell 2
        exact bodyPost_ret (v := .tuple #[.agg #[.int .i64 0, .int .i64 0, .int .i64 0, .slice none 0 0, .slice none 0 0, .slice none 0 0], .agg #[.int .i64 0, .slice none 0 0, .slice none 0 0], .int .i64 6]) (by simp [results, Try.results81, go_sem, x0, x1, x2, x3, x4, x5, y_0, y_1, y_2]) rfl (newFmS_zero (yS2 _ _ (yS _ _ y5 (by omega)) (by omega)))
      | true =>
        obtain ⟨ha, hcf⟩ := hv1 rfl
        have HA := Lib.hid (aliveB_true ha)
        have HCF := Lib.hid hcf
        obtain ⟨L5, aL, R5, dR, hB5, _, _, _⟩ := hcc
        have hgp5 : gp < W5.heap.size := Nat.lt_of_lt_of_le hgpW z5.size
        have hpb5 : pb < W5.heap.size := Nat.lt_of_lt_of_le HPB.out z5.size
        have hq1 := (KEEP.out _ z5).1
        have hq2 := (z5.cell (p := ⟨pb, po + 2, none⟩) HPB.out).trans HC2.out
        have hq3 := (z5.cell (p := ⟨pb, po + 3, none⟩) HPB.out).trans HC3.out
        have HSS := Lib.hid (fun W' (h : Below W5.heap.size W5 W') => (⟨(hB5.below' h).cell 0, (h.cell (p := ⟨gp, 1, none⟩) hgp5).trans hq1, (h.cell (p := ⟨pb, po + 2, none⟩) hpb5).trans hq2, (h.cell (p := ⟨pb, po + 3, none⟩) hpb5).trans hq3⟩ : W'.cell? ⟨g5, 0, none⟩ = some (.int .i64 cf.q) ∧ W'.cell? ⟨gp, 1, none⟩ = some (.slice (some ⟨pb, po, none⟩) n c) ∧ W'.cell? ⟨pb, po + 2, none⟩ = some (.int .i64 X2) ∧ W'.cell? ⟨pb, po + 3, none⟩ = some (.int .i64 X3)))
        have HB5 := Lib.hid hB5
        have hw2 := (z5.cell (p := ⟨gp, 2, none⟩) hgpW).trans HV2.out
        clear ha hcf hv1 hv2 hq1 hq2 hq3 hB5
        go_upto_region 8 with fail
        have hp : Below W5.heap.size W5 W5.drew := below_drewN (Below.refl _ _) 1
        go_cut [12] (fun s12 wx => ∃ (gf : Nat) (A' : Option Addr) (c' : Nat) (B' : Option Addr) (d' : Nat) (C' : Option Addr) (k' : Nat), s12 = .pointer (some ⟨gf, 0, none⟩) ∧ Blk wx gf 32 #[.int .i64 cf.q, .int .i64 X2, .int .i64 X3, .slice A' 0 c', .slice B' 0 d', .slice C' 0 k'] ∧ Hid (FmO wx W5.heap.size A' c' [] B' d' [] C' k' []) ∧ W5.heap.size ≤ gf ∧ Hid (Below W5.heap.size W5 wx))
        case first =>
          refine wp_region_noPanic ?_
          refine wp_region_held_drew (S := (fun w' => w'.cell? ⟨g5, 0, none⟩ = some (.int .i64 cf.q) ∧ w'.cell? ⟨gp, 1, none⟩ = some (.slice (some ⟨pb, po, none⟩) n c) ∧ w'.cell? ⟨pb, po + 2, none⟩ = some (.int .i64 X2) ∧ w'.cell? ⟨pb, po + 3, none⟩ = some (.int .i64 X3))) (by kernel_rfl) ?_ (fun hHeld => ?_)
          · exact HSS.out _ hp
          generalize W5.drew = Wc at *
          refine wpAnyH_take (i := 0) (v := ?_) rfl (by kernel_rfl) (by kernel_rfl) (by kernel_rfl) (fun _ _ _ h => h) (Or.inl ⟨by rfl, ?_⟩) (by assumption) ?_
          rotate_left
          · intro w hSw
            try dsimp only at hSw
            go_simp
            try with_reducible rfl
          try simp only [Act.put, List.setIfInBounds_toArray]
          refine wpAnyH_take (i := 1) (v := ?_) rfl (by kernel_rfl) (by kernel_rfl) (by kernel_rfl) (fun _ _ _ h => h) (Or.inl ⟨by rfl, ?_⟩) (by assumption) ?_
          rotate_left
          · intro w hSw
            try dsimp only at hSw
            skip
            obtain ⟨h0_, h1_, h2_, h3_⟩ := hSw
            go_simp
            try with_reducible rfl
          try simp only [Act.put]
          refine wpAnyH_take (i := 2) (v := ?_) rfl (by kernel_rfl) (by kernel_rfl) (by kernel_rfl) (fun _ _ _ h => h) (Or.inl ⟨by rfl, ?_⟩) (by assumption) ?_
          rotate_left
          · intro w hSw
            try dsimp only at hSw
            go_simp
            try with_reducible rfl
          try simp only [Act.put]
          refine wpAnyH_take (i := 3) (v := ?_) rfl (by kernel_rfl) (by kernel_rfl) (by kernel_rfl) (fun _ _ _ h => h) (Or.inl ⟨by rfl, ?_⟩) (by assumption) ?_
          rotate_left
          · intro w hSw
            try dsimp only at hSw
            go_simp
            try with_reducible rfl
          try simp only [Act.put]
          refine wpAnyH_take (i := 4) (v := ?_) rfl (by kernel_rfl) (by kernel_rfl) (by kernel_rfl) (fun _ _ _ h => h) (Or.inl ⟨by rfl, ?_⟩) (by assumption) ?_
          rotate_left
          · intro w hSw
            try dsimp only at hSw
            go_simp
            try with_reducible rfl
          try simp only [Act.put]
          refine wpAnyH_take (i := 5) (v := ?_) rfl (by kernel_rfl) (by kernel_rfl) (by kernel_rfl) (fun _ _ _ h => h) (Or.inl ⟨by rfl, ?_⟩) (by assumption) ?_
          rotate_left
          · intro w hSw
            try dsimp only at hSw
            skip
            obtain ⟨h0_, h1_, h2_, h3_⟩ := hSw
            go_simp
            try with_reducible rfl
          try simp only [Act.put]
          refine wpAnyH_take (i := 6) (v := ?_) rfl (by kernel_rfl) (by kernel_rfl) (by kernel_rfl) (fun _ _ _ h => h) (Or.inl ⟨by rfl, ?_⟩) (by assumption) ?_
          rotate_left
          · intro w hSw
            try dsimp only at hSw
            go_simp
            try with_reducible rfl
          try simp only [Act.put]
          refine wpAnyH_take (i := 7) (v := ?_) rfl (by kernel_rfl) (by kernel_rfl) (by kernel_rfl) (fun _ _ _ h => h) (Or.inl ⟨by rfl, ?_⟩) (by assumption) ?_
          rotate_left
          · intro w hSw
            try dsimp only at hSw
            skip
            obtain ⟨h0_, h1_, h2_, h3_⟩ := hSw
            go_simp
            try with_reducible rfl
          try simp only [Act.put]
          refine wpAnyH_take (i := 8) (v := ?_) rfl (by kernel_rfl) (by kernel_rfl) (by kernel_rfl) (fun _ _ _ h => h) (Or.inl ⟨by rfl, ?_⟩) (by assumption) ?_
          rotate_left
          · intro w hSw
            try dsimp only at hSw
            go_simp
            try with_reducible rfl
          try simp only [Act.put]
          refine wpAnyH_take (i := 9) (v := ?_) rfl (by kernel_rfl) (by kernel_rfl) (by kernel_rfl) (fun _ _ _ h => h) (Or.inl ⟨by rfl, ?_⟩) (by assumption) ?_
          rotate_left
          · intro w hSw
            try dsimp only at hSw
            go_simp
            try with_reducible rfl
          try simp only [Act.put]
          refine wpAnyH_take (i := 10) (v := ?_) rfl (by kernel_rfl) (by kernel_rfl) (by kernel_rfl) (fun _ _ _ h => h) (Or.inl ⟨by rfl, ?_⟩) (by assumption) ?_
          rotate_left
          · intro w hSw
            try dsimp only at hSw
            go_simp
            try with_reducible rfl
          try simp only [Act.put]
          refine wpAnyH_take (i := 11) (v := ?_) rfl (by kernel_rfl) (by kernel_rfl) (by kernel_rfl) (fun _ _ _ h => h) (Or.inl ⟨by rfl, ?_⟩) (by assumption) ?_
          rotate_left
          · intro w hSw
            try dsimp only at hSw
            skip
            obtain ⟨h0_, h1_, h2_, h3_⟩ := hSw
            go_simp
            try with_reducible rfl
          try simp only [Act.put]
          refine wpAnyH_take (i := 12) (v := ?_) rfl (by kernel_rfl) (by kernel_rfl) (by kernel_rfl) (fun _ _ _ h => h) (Or.inl ⟨by rfl, ?_⟩) (by assumption) ?_
          rotate_left
          · intro w hSw
            try dsimp only at hSw
            go_simp
            try with_reducible rfl
          try simp only [Act.put]
          refine wpAnyH_take (i := 13) (v := ?_) rfl (by kernel_rfl) (by kernel_rfl) (by kernel_rfl) (fun _ _ _ h => h) (Or.inl ⟨by rfl, ?_⟩) (by assumption) ?_
          rotate_left
          · intro w hSw
            try dsimp only at hSw
            skip
            obtain ⟨h0_, h1_, h2_, h3_⟩ := hSw
            go_simp
            try with_reducible rfl
          try simp only [Act.put]
          simp only [List.getElem_toArray, List.getElem_cons_zero, List.getElem_cons_succ, List.setIfInBounds_toArray, List.set_cons_zero, List.set_cons_succ]
          refine wpAnyH_batch (n := 5) (is := [14, 15, 16, 17, 18]) [⟨14, [], (RMade (fun g => .slice (some ⟨g, 0, none⟩) 0 0) 25 #[]), false⟩, ⟨15, [], (RMade (fun g => .slice (some ⟨g, 0, none⟩) 0 0) 25 #[]), false⟩, ⟨16, [], (RMade (fun g => .slice (some ⟨g, 0, none⟩) 0 0) 2 #[]), false⟩, ⟨17, [14, 15, 16], (RKnown (fun vl => ∃ p q r, vl = [.agg #[.int .i64 cf.q, .int .i64 X2, .int .i64 X3, p, q, r], p, q, r])), false⟩, ⟨18, [], (RMade (fun g => .pointer (some ⟨g, 0, none⟩)) 32 #[.int .i64 0, .int .i64 0, .int .i64 0, .slice none 0 0, .slice none 0 0, .slice none 0 0]), false⟩] rfl rfl (by kernel_rfl) (by decide) (by kernel_rfl) (fun _ _ _ _ h => h) (fun w' hb => ?_) (BStay.all_cons (RMade.stay) <| BStay.all_cons (RMade.stay) <| BStay.all_cons (RMade.stay) <| BStay.all_cons (RKnown.stay) <| BStay.all_cons (RMade.stay) <| BStay.all_nil) ?_ ?_
          · exact HSS.out _ (hp.trans (hb.mono hp.size))
          · refine BStep.all_cons (BStep.mk rfl (fun vs l h w1 hz hn hsp K hK => ?_)) ?_
            · simp only [putAll, List.map, Act.put, List.getElem_toArray, List.getElem_cons_zero, List.getElem_cons_succ, List.setIfInBounds_toArray, List.set_cons_zero, List.set_cons_succ] at hK ⊢
              clear hn hsp
              go_simp
              exact hK _ _ ((Below.refl _ _).alloc (Nat.le_refl _) _) ⟨_, rfl, Blk.new _ _ _, Nat.le_refl _, by simp⟩
            refine BStep.all_cons (BStep.mk rfl (fun vs l h w1 hz hn hsp K hK => ?_)) ?_
            · simp only [putAll, List.map, Act.put, List.getElem_toArray, List.getElem_cons_zero, List.getElem_cons_succ, List.setIfInBounds_toArray, List.set_cons_zero, List.set_cons_succ] at hK ⊢
              clear hn hsp
              go_simp
              exact hK _ _ ((Below.refl _ _).alloc (Nat.le_refl _) _) ⟨_, rfl, Blk.new _ _ _, Nat.le_refl _, by simp⟩
            refine BStep.all_cons (BStep.mk rfl (fun vs l h w1 hz hn hsp K hK => ?_)) ?_
            · simp only [putAll, List.map, Act.put, List.getElem_toArray, List.getElem_cons_zero, List.getElem_cons_succ, List.setIfInBounds_toArray, List.set_cons_zero, List.set_cons_succ] at hK ⊢
              clear hn hsp
              go_simp
              exact hK _ _ ((Below.refl _ _).alloc (Nat.le_refl _) _) ⟨_, rfl, Blk.new _ _ _, Nat.le_refl _, by simp⟩
            refine BStep.all_cons (BStep.mk rfl (fun vs l h w1 hz hn hsp K hK => ?_)) ?_
            · simp only [putAll, List.map, dstAt, Act.put, List.getElem_toArray, List.getElem?_toArray, List.getElem_cons_zero, List.getElem_cons_succ, List.getElem?_cons_zero, List.getElem?_cons_succ, Option.bind_some, List.setIfInBounds_toArray, List.set_cons_zero, List.set_cons_succ] at hK ⊢
              simp only [List.forall_mem_cons, List.map] at hn
              obtain ⟨nn14, nn15, nn16, nn17, nn18, _⟩ := hn
              have q14 := (nn14 (by simp)).2.2.2
              have q15 := (nn15 (by simp)).2.2.2
              have q16 := (nn16 (by simp)).2.2.2
              obtain ⟨a14, e14, _⟩ := q14
              obtain ⟨a15, e15, _⟩ := q15
              obtain ⟨a16, e16, _⟩ := q16
              simp only [List.cons.injEq, and_true] at e14 e15 e16
              rw [e14, e15, e16] at hK ⊢
              clear nn14 nn15 nn16 nn17 nn18 hsp e14 e15 e16
              go_simp
              exact hK _ _ (Below.refl _ _) ⟨_, _, _, rfl⟩
            refine BStep.all_cons (BStep.mk rfl (fun vs l h w1 hz hn hsp K hK => ?_)) ?_
            · simp only [putAll, List.map, Act.put, List.getElem_toArray, List.getElem_cons_zero, List.getElem_cons_succ, List.setIfInBounds_toArray, List.set_cons_zero, List.set_cons_succ] at hK ⊢
              clear hn hsp
              go_simp
              exact hK _ _ ((Below.refl _ _).alloc (Nat.le_refl _) _) ⟨_, rfl, Blk.new _ _ _, Nat.le_refl _, by simp⟩
            exact BStep.all_nil
          · intro vs l h w1 hz ht hsp
            simp only [Through, List.forall_mem_cons, List.map] at ht
            simp only [putAll, markAll, dstAt, Act.put, List.getElem?_toArray, List.getElem?_cons_zero, List.getElem?_cons_succ, Option.bind_some, List.setIfInBounds_toArray, List.set_cons_zero, List.set_cons_succ]
            obtain ⟨⟨k14, _, m14, a14, e14, h14, g14, i14⟩, ⟨k15, _, m15, a15, e15, h15, g15, i15⟩, ⟨k16, _, m16, a16, e16, h16, g16, i16⟩, ⟨_, _, _, p17, q17, r17, e17⟩, ⟨k18, _, m18, a18, e18, h18, g18, i18⟩, _⟩ := ht
            simp only [List.cons.injEq, and_true] at e14 e15 e16 e17 e18
            obtain ⟨e17, rfl, rfl, rfl⟩ := e17
            rw [e17, e14, e15, e16, e18]
            have n45 : a14 ≠ a15 := by
              have := hsp 14 (by simp) 15 (by simp) (by decide)
              omega
            have hp2 : Below W5.heap.size W5 w1 := hp.trans (hz.mono hp.size)
            have hsz := hp.size
            have l14 : W5.heap.size ≤ a14 := by omega
            have l15 : W5.heap.size ≤ a15 := by omega
            have l16 : W5.heap.size ≤ a16 := by omega
            have l18 : W5.heap.size ≤ a18 := by omega
            clear e14 e15 e16 e17 e18 k14 k15 k16 k18 m14 m15 m16 m18 i14 i15 i16 i18 g14 g15 g16 g18 hsp hz
            refine wpAnyH_ready (rs := [19]) (by kernel_rfl) (by simp) ?_
            refine AllReadyH.cons rfl (fun K hK => ?_) ?_
            · have x0 := h18.cell 0
              have x1 := h18.cell 1
              have x2 := h18.cell 2
              have x3 := h18.cell 3
              have x4 := h18.cell 4
              have x5 := h18.cell 5
              have f0 := h18.frozen 0
              have f1 := h18.frozen 1
              have f2 := h18.frozen 2
              have f3 := h18.frozen 3
              have f4 := h18.frozen 4
              have f5 := h18.frozen 5
              go_simp
              have hf := fm_below hp2 l18 (.int .i64 cf.q) (.int .i64 X2) (.int .i64 X3) (.slice (some ⟨a14, 0, none⟩) 0 0) (.slice (some ⟨a15, 0, none⟩) 0 0) (.slice (some ⟨a16, 0, none⟩) 0 0)
              have hbf := fm_set h18 (.int .i64 cf.q) (.int .i64 X2) (.int .i64 X3) (.slice (some ⟨a14, 0, none⟩) 0 0) (.slice (some ⟨a15, 0, none⟩) 0 0) (.slice (some ⟨a16, 0, none⟩) 0 0)
              have of := (FmO.three h14 h15 h16 l14 l15 l16 n45).far h18 (by decide) (by decide) (fm_kept (.int .i64 cf.q) (.int .i64 X2) (.int .i64 X3) (.slice (some ⟨a14, 0, none⟩) 0 0) (.slice (some ⟨a15, 0, none⟩) 0 0) (.slice (some ⟨a16, 0, none⟩) 0 0))
              refine hK.out _ _ ?_ (fun hHeld => ?_)
              · exact HSS.out _ hf
              clear hK K
              try simp only [Act.put, List.setIfInBounds_toArray]
              refine wpAnyH_done (by kernel_rfl) ?_ _
              refine NoPanic.normal ?_
              go_wp2_with fail
              go_meet
              exact ⟨_, some ⟨a14, 0, none⟩, 0, some ⟨a15, 0, none⟩, 0, some ⟨a16, 0, none⟩, 0, rfl, hbf, Lib.hid of, l18, Lib.hid hf⟩
            exact AllReadyH.nil
        case rest =>
          obtain ⟨gf, A1', c1', B1', d1', C1', k1', rfl, bf, HO, hgf, HZ⟩ := hcut
          have z6 := HZ.out
          have p2 : wc.cell? ⟨gp, 2, none⟩ = some (.slice B m d) := (z6.cell (p := ⟨gp, 2, none⟩) hgp5).trans hw2
          clear HSS hp
          go_wp2_with fail
          go_loopw [13] (fun i wr => ∃ k : Nat, k ≤ m ∧ i = .int .i64 k ∧ Hid (BncS W5 W5.heap.size gf cf.q X2 X3 (nums ts) k wr)) (fun i _ => m - (intOf i).toNat)
          case atStart => exact ⟨0, Nat.zero_le _, rfl, Lib.hid ⟨A1', c1', [], B1', d1', [], C1', k1', bf, HO.out, rfl, rfl, z6⟩⟩
          case round =>
            obtain ⟨k, hk, rfl, HB⟩ := hrel
            have i1 : (0 : Int) ≤ (k : Int) := by omega
            obtain ⟨A', c', ts', B', d', us', C', k', hb, hO, hW, hR, hz⟩ := HB.out
            have hsz0 := hz.size
            clear p2
            by_cases hlt : k < m
            · obtain ⟨t, bb, off, hT, htm, rfl, hbl, hc, hrow⟩ := ((HY.out.below y5).below hz).pick hlt
              have hnt := HNS.out t htm
              have HROW := Lib.hid hrow
              have i2 : (k : Int) < (m : Int) := by omega
              have hTn : (nums ts)[k]? = some t.xs := by unfold nums; rw [List.getElem?_map, hT.out]; rfl
              have hev := evens_take hTn
              have hm2000 : m ≤ 7 := by have := HMR.out; omega
              have hle : ts'.length ≤ 7 := by have h1 := congrArg List.length hW; rw [nums_len, (evens_len _).1, List.length_take] at h1; omega
              have hle' : us'.length ≤ 7 := by have h1 := congrArg List.length hR; rw [nums_len, (evens_len _).2, List.length_take] at h1; omega
              have SS : Hid (∀ W', Below W5.heap.size W5 W' → W'.cell? ⟨gp, 2, none⟩ = some (.slice (some ⟨bb, off, none⟩) m d) ∧ W'.cell? ⟨bb, off + k, none⟩ = some (.slice t.A t.xs.length t.c)) := Lib.hid (fun W' h => by
                obtain ⟨bb', off', e, hbl', hc'⟩ := (HY.out.below y5).1.at_ (k := k) (by have := (HY.out.below y5).len; simp; omega)
                cases e
                exact ⟨(h.cell (p := ⟨gp, 2, none⟩) hgp5).trans hw2, (h.cell (p := ⟨bb, off + k, none⟩) hbl').trans (hc'.trans (by obtain ⟨h1, h2⟩ := List.getElem?_eq_some_iff.1 hT.out; simp [Sl.val, h2]))⟩)
              clear hrow hTn
              by_cases he : k % 2 = 0
              · have e2 : (k : Int).tmod 2 = 0 := by rw [Int.tmod_eq_emod_of_nonneg i1]; omega
                go_upto_region 13 with fail
                have hp : Below wr.heap.size wr wr.drew := below_drewN (Below.refl _ _) 1
                have hbx := hb.below' hp
                have hq5 := hz.trans (hp.mono hsz0)
                refine wp_region_held_drew (S := (fun w' => w'.cell? ⟨gp, 2, none⟩ = some (.slice (some ⟨bb, off, none⟩) m d) ∧ w'.cell? ⟨bb, off + k, none⟩ = some (.slice t.A t.xs.length t.c))) (by kernel_rfl) ?_ (fun hHeld => ?_)
                · exact SS.out _ hq5
                generalize wr.drew = Wc at *
                refine wpAnyH_take (i := 0) (v := ?_) rfl (by kernel_rfl) (by kernel_rfl) (by kernel_rfl) (fun _ _ _ h => h) (Or.inl ⟨by rfl, ?_⟩) (by assumption) ?_
                rotate_left
                · intro w hSw
                  try dsimp only at hSw
                  go_simp
                  try with_reducible rfl
                try simp only [Act.put, List.setIfInBounds_toArray]
                refine wpAnyH_take (i := 2) (v := ?_) rfl (by kernel_rfl) (by kernel_rfl) (by kernel_rfl) (fun _ _ _ h => h) (Or.inl ⟨by rfl, ?_⟩) (by assumption) ?_
                rotate_left
                · intro w hSw
                  try dsimp only at hSw
                  go_simp
                  try with_reducible rfl
                try simp only [Act.put]
                refine wpAnyH_take (i := 3) (v := ?_) rfl (by kernel_rfl) (by kernel_rfl) (by kernel_rfl) (fun _ _ _ h => h) (Or.inl ⟨by rfl, ?_⟩) (by assumption) ?_
                rotate_left
                · intro w hSw
                  try dsimp only at hSw
                  go_simp
                  try with_reducible rfl
                try simp only [Act.put]
                refine wpAnyH_take (i := 4) (v := ?_) rfl (by kernel_rfl) (by kernel_rfl) (by kernel_rfl) (fun _ _ _ h => h) (Or.inl ⟨by rfl, ?_⟩) (by assumption) ?_
                rotate_left
                · intro w hSw
                  try dsimp only at hSw
                  go_simp
                  try with_reducible rfl
                try simp only [Act.put]
                refine wpAnyH_take (i := 5) (v := ?_) rfl (by kernel_rfl) (by kernel_rfl) (by kernel_rfl) (fun _ _ _ h => h) (Or.inl ⟨by rfl, ?_⟩) (by assumption) ?_
                rotate_left
                · intro w hSw
                  try dsimp only at hSw
                  obtain ⟨h0_, h1_⟩ := hSw
                  go_simp
                  try with_reducible rfl
                try simp only [Act.put]
                refine wpAnyH_take (i := 6) (v := ?_) rfl (by kernel_rfl) (by kernel_rfl) (by kernel_rfl) (fun _ _ _ h => h) (Or.inl ⟨by rfl, ?_⟩) (by assumption) ?_
                rotate_left
                · intro w hSw
                  try dsimp only at hSw
                  go_simp
                  try with_reducible rfl
                try simp only [Act.put]
                refine wpAnyH_take (i := 7) (v := ?_) rfl (by kernel_rfl) (by kernel_rfl) (by kernel_rfl) (fun _ _ _ h => h) (Or.inl ⟨by rfl, ?_⟩) (by assumption) ?_
                rotate_left
                · intro w hSw
                  try dsimp only at hSw
                  go_simp
                  try with_reducible rfl
                try simp only [Act.put]
                refine wpAnyH_take (i := 8) (v := ?_) rfl (by kernel_rfl) (by kernel_rfl) (by kernel_rfl) (fun _ _ _ h => h) (Or.inl ⟨by rfl, ?_⟩) (by assumption) ?_
                rotate_left
                · intro w hSw
                  try dsimp only at hSw
                  obtain ⟨h0_, h1_⟩ := hSw
                  go_simp
                  try with_reducible rfl
                try simp only [Act.put]
                refine wpAnyH_ready (rs := [1, 9]) (by kernel_rfl) (by simp) ?_
                refine AllReadyH.cons rfl (fun K hK => ?_) ?_
                · have xf := hbx.cell 3
                  go_simp
                  clear xf
                  refine hK.out _ _ ?_ (fun hHeld => ?_)
                  · first | exact SS.out _ hz9 | exact SS.out _ hq5
                  clear hK K
                  try simp only [Act.put, List.setIfInBounds_toArray, List.set_cons_zero, List.set_cons_succ]
                  refine wpAnyH_ready (rs := [9]) (by kernel_rfl) (by simp) ?_
                  refine AllReadyH.cons rfl (fun K hK => ?_) ?_
                  · go_simp
                    refine (l00Own_any _ _ _ t.xs _ (HROW.out.below hp) hnt).mono ?_
                    rintro e W7 ⟨D, dd, rfl, oD, z7⟩
                    have hk7 := hp.size
                    replace hp := hp.trans (z7.mono hp.size)
                    replace hq5 := hz.trans (hp.mono hsz0)
                    replace hbx := hbx.below' z7
                    refine hK.out _ _ ?_ (fun hHeld => ?_)
                    · first | exact SS.out _ hz9 | exact SS.out _ hq5
                    clear hK K
                    try simp only [Act.put, List.setIfInBounds_toArray, List.set_cons_zero, List.set_cons_succ]
                    refine wpAnyH_ready (rs := [10]) (by kernel_rfl) (by simp) ?_
                    refine AllReadyH.cons rfl (fun K hK => ?_) ?_
                    · go_simp
                      replace hbx := hbx.alloc (.cells #[.slice D t.xs.length dd] 25)
                      have hp8 := hp.alloc hp.size (.cells #[.slice D t.xs.length dd] 25)
                      replace hq5 := hz.trans (hp8.mono hsz0)
                      refine hK.out _ _ ?_ (fun hHeld => ?_)
                      · first | exact SS.out _ hz9 | exact SS.out _ hq5
                      clear hK K
                      try simp only [Act.put, List.setIfInBounds_toArray, List.set_cons_zero, List.set_cons_succ]
                      refine wpAnyH_ready (rs := [11]) (by kernel_rfl) (by simp) ?_
                      refine AllReadyH.cons rfl (fun K hK => ?_) ?_
                      · rw [if_pos (by rfl)]
                        have hsz := hp8.size
                        refine wp_append_Own (.tmp 106) (.tmp 115) rfl elII (lo := W5.heap.size) rfl ((hO.below hp8).1.1) rfl (Rd.new1 W7 _ _) (by simp [Value.oneCell']) (by omega) (by simp only [maxLen]; omega) (by omega) ?_
                        intro A8 c8 w8 ho8 hg8 hw8
                        replace hq5 := (((hO.below hp8).1.1)).below_of hq5 hg8 (by omega)
                        replace hbx := hbx.growt ((hO.below hp8).1.1) hg8 (by decide)
                        refine hK.out _ _ ?_ (fun hHeld => ?_)
                        · first | exact SS.out _ hz9 | exact SS.out _ hq5
                        clear hK K
                        try simp only [Act.put, List.setIfInBounds_toArray]
                        refine wpAnyH_take (i := 12) (v := ?_) rfl (by kernel_rfl) (by kernel_rfl) (by kernel_rfl) (fun _ _ _ h => h) (Or.inl ⟨by rfl, ?_⟩) (by assumption) ?_
                        rotate_left
                        · intro w hSw
                          try dsimp only at hSw
                          go_simp
                          try with_reducible rfl
                        try simp only [Act.put]
                        refine wpAnyH_ready (rs := [13]) (by kernel_rfl) (by simp) ?_
                        refine AllReadyH.cons rfl (fun K hK => ?_) ?_
                        · have xf := hbx.cell 3
                          have ff := hbx.frozen 3
                          go_simp
                          have hb9 : Blk (w8.setCell ⟨gf, 3, none⟩ (.slice A8 (ts'.length + 1) c8)) gf 32 #[.int .i64 cf.q, .int .i64 X2, .int .i64 X3, .slice A8 (ts' ++ [(⟨D, dd, t.xs⟩ : Sl)]).length c8, .slice B' us'.length d', .slice C' us'.length k'] := by
                            rw [List.length_append]
                            exact hbx.set_ 3 _
                          have hO8 := hO.snocW (u := ⟨D, dd, t.xs⟩) hp8 ho8 hg8 hw8.1 (oD.alloc (.cells #[.slice D t.xs.length dd] 25)) hk7 (Nat.le_trans hsz0 hk7)
                          have hO9 := hO8.far (w' := w8.setCell ⟨gf, 3, none⟩ (.slice A8 (ts'.length + 1) c8)) hbx (by decide) (by decide) (fun b hb => Below.heap_setCell _ _ _ _ hb)
                          have hz9 : Below W5.heap.size W5 (w8.setCell ⟨gf, 3, none⟩ (.slice A8 (ts'.length + 1) c8)) := hq5.setCell hgf _
                          refine hK.out _ _ ?_ (fun hHeld => ?_)
                          · first | exact SS.out _ hz9 | exact SS.out _ hq5
                          clear hK K
                          try simp only [Act.put, List.setIfInBounds_toArray]
                          refine wpAnyH_done (by kernel_rfl) ?_ _
                          generalize w8.setCell ⟨gf, 3, none⟩ (.slice A8 (ts'.length + 1) c8) = w9 at *
                          have hres : BncS W5 W5.heap.size gf cf.q X2 X3 (nums ts) (k + 1) w9 := ⟨A8, c8, ts' ++ [⟨D, dd, t.xs⟩], B', d', us', C', k', hb9, hO9, by rw [hev.1, if_pos he, ← hW]; simp [nums], by rw [hev.2, if_pos he, ← hR], hz9⟩
                          go_wp2_with fail
                          exact ⟨⟨k + 1, by omega, by go_num, Lib.hid hres⟩, by simp [intOf]; omega⟩
                        exact AllReadyH.nil
                      exact AllReadyH.nil
                    exact AllReadyH.nil
                  exact AllReadyH.nil
                refine AllReadyH.cons rfl (fun K hK => ?_) ?_
                · go_simp
                  refine (l00Own_any _ _ _ t.xs _ (HROW.out.below hp) hnt).mono ?_
                  rintro e W7 ⟨D, dd, rfl, oD, z7⟩
                  have hk7 := hp.size
                  replace hp := hp.trans (z7.mono hp.size)
                  replace hq5 := hz.trans (hp.mono hsz0)
                  replace hbx := hbx.below' z7
                  refine hK.out _ _ ?_ (fun hHeld => ?_)
                  · first | exact SS.out _ hz9 | exact SS.out _ hq5
                  clear hK K
                  try simp only [Act.put, List.setIfInBounds_toArray, List.set_cons_zero, List.set_cons_succ]
                  refine wpAnyH_ready (rs := [1, 10]) (by kernel_rfl) (by simp) ?_
                  refine AllReadyH.cons rfl (fun K hK => ?_) ?_
                  · have xf := hbx.cell 3
                    go_simp
                    clear xf
                    refine hK.out _ _ ?_ (fun hHeld => ?_)
                    · first | exact SS.out _ hz9 | exact SS.out _ hq5
                    clear hK K
                    try simp only [Act.put, List.setIfInBounds_toArray, List.set_cons_zero, List.set_cons_succ]
                    refine wpAnyH_ready (rs := [10]) (by kernel_rfl) (by simp) ?_
                    refine AllReadyH.cons rfl (fun K hK => ?_) ?_
                    · go_simp
                      replace hbx := hbx.alloc (.cells #[.slice D t.xs.length dd] 25)
                      have hp8 := hp.alloc hp.size (.cells #[.slice D t.xs.length dd] 25)
                      replace hq5 := hz.trans (hp8.mono hsz0)
                      refine hK.out _ _ ?_ (fun hHeld => ?_)
                      · first | exact SS.out _ hz9 | exact SS.out _ hq5
                      clear hK K
                      try simp only [Act.put, List.setIfInBounds_toArray, List.set_cons_zero, List.set_cons_succ]
                      refine wpAnyH_ready (rs := [11]) (by kernel_rfl) (by simp) ?_
                      refine AllReadyH.cons rfl (fun K hK => ?_) ?_
                      · rw [if_pos (by rfl)]
                        have hsz := hp8.size
                        refine wp_append_Own (.tmp 106) (.tmp 115) rfl elII (lo := W5.heap.size) rfl ((hO.below hp8).1.1) rfl (Rd.new1 W7 _ _) (by simp [Value.oneCell']) (by omega) (by simp only [maxLen]; omega) (by omega) ?_
                        intro A8 c8 w8 ho8 hg8 hw8
                        replace hq5 := (((hO.below hp8).1.1)).below_of hq5 hg8 (by omega)
                        replace hbx := hbx.growt ((hO.below hp8).1.1) hg8 (by decide)
                        refine hK.out _ _ ?_ (fun hHeld => ?_)
                        · first | exact SS.out _ hz9 | exact SS.out _ hq5
                        clear hK K
                        try simp only [Act.put, List.setIfInBounds_toArray]
                        refine wpAnyH_take (i := 12) (v := ?_) rfl (by kernel_rfl) (by kernel_rfl) (by kernel_rfl) (fun _ _ _ h => h) (Or.inl ⟨by rfl, ?_⟩) (by assumption) ?_
                        rotate_left
                        · intro w hSw
                          try dsimp only at hSw
                          go_simp
                          try with_reducible rfl
                        try simp only [Act.put]
                        refine wpAnyH_ready (rs := [13]) (by kernel_rfl) (by simp) ?_
                        refine AllReadyH.cons rfl (fun K hK => ?_) ?_
                        · have xf := hbx.cell 3
                          have ff := hbx.frozen 3
                          go_simp
                          have hb9 : Blk (w8.setCell ⟨gf, 3, none⟩ (.slice A8 (ts'.length + 1) c8)) gf 32 #[.int .i64 cf.q, .int .i64 X2, .int .i64 X3, .slice A8 (ts' ++ [(⟨D, dd, t.xs⟩ : Sl)]).length c8, .slice B' us'.length d', .slice C' us'.length k'] := by
                            rw [List.length_append]
                            exact hbx.set_ 3 _
                          have hO8 := hO.snocW (u := ⟨D, dd, t.xs⟩) hp8 ho8 hg8 hw8.1 (oD.alloc (.cells #[.slice D t.xs.length dd] 25)) hk7 (Nat.le_trans hsz0 hk7)
                          have hO9 := hO8.far (w' := w8.setCell ⟨gf, 3, none⟩ (.slice A8 (ts'.length + 1) c8)) hbx (by decide) (by decide) (fun b hb => Below.heap_setCell _ _ _ _ hb)
                          have hz9 : Below W5.heap.size W5 (w8.setCell ⟨gf, 3, none⟩ (.slice A8 (ts'.length + 1) c8)) := hq5.setCell hgf _
                          refine hK.out _ _ ?_ (fun hHeld => ?_)
                          · first | exact SS.out _ hz9 | exact SS.out _ hq5
                          clear hK K
                          try simp only [Act.put, List.setIfInBounds_toArray]
                          refine wpAnyH_done (by kernel_rfl) ?_ _
                          generalize w8.setCell ⟨gf, 3, none⟩ (.slice A8 (ts'.length + 1) c8) = w9 at *
                          have hres : BncS W5 W5.heap.size gf cf.q X2 X3 (nums ts) (k + 1) w9 := ⟨A8, c8, ts' ++ [⟨D, dd, t.xs⟩], B', d', us', C', k', hb9, hO9, by rw [hev.1, if_pos he, ← hW]; simp [nums], by rw [hev.2, if_pos he, ← hR], hz9⟩
                          go_wp2_with fail
                          exact ⟨⟨k + 1, by omega, by go_num, Lib.hid hres⟩, by simp [intOf]; omega⟩
                        exact AllReadyH.nil
                      exact AllReadyH.nil
                    exact AllReadyH.nil
                  refine AllReadyH.cons rfl (fun K hK => ?_) ?_
                  · go_simp
                    replace hbx := hbx.alloc (.cells #[.slice D t.xs.length dd] 25)
                    have hp8 := hp.alloc hp.size (.cells #[.slice D t.xs.length dd] 25)
                    replace hq5 := hz.trans (hp8.mono hsz0)
                    refine hK.out _ _ ?_ (fun hHeld => ?_)
                    · first | exact SS.out _ hz9 | exact SS.out _ hq5
                    clear hK K
                    try simp only [Act.put, List.setIfInBounds_toArray, List.set_cons_zero, List.set_cons_succ]
                    refine wpAnyH_ready (rs := [1]) (by kernel_rfl) (by simp) ?_
                    refine AllReadyH.cons rfl (fun K hK => ?_) ?_
                    · have xf := hbx.cell 3
                      go_simp
                      clear xf
                      refine hK.out _ _ ?_ (fun hHeld => ?_)
                      · first | exact SS.out _ hz9 | exact SS.out _ hq5
                      clear hK K
                      try simp only [Act.put, List.setIfInBounds_toArray, List.set_cons_zero, List.set_cons_succ]
                      refine wpAnyH_ready (rs := [11]) (by kernel_rfl) (by simp) ?_
                      refine AllReadyH.cons rfl (fun K hK => ?_) ?_
                      · rw [if_pos (by rfl)]
                        have hsz := hp8.size
                        refine wp_append_Own (.tmp 106) (.tmp 115) rfl elII (lo := W5.heap.size) rfl ((hO.below hp8).1.1) rfl (Rd.new1 W7 _ _) (by simp [Value.oneCell']) (by omega) (by simp only [maxLen]; omega) (by omega) ?_
                        intro A8 c8 w8 ho8 hg8 hw8
                        replace hq5 := (((hO.below hp8).1.1)).below_of hq5 hg8 (by omega)
                        replace hbx := hbx.growt ((hO.below hp8).1.1) hg8 (by decide)
                        refine hK.out _ _ ?_ (fun hHeld => ?_)
                        · first | exact SS.out _ hz9 | exact SS.out _ hq5
                        clear hK K
                        try simp only [Act.put, List.setIfInBounds_toArray]
                        refine wpAnyH_take (i := 12) (v := ?_) rfl (by kernel_rfl) (by kernel_rfl) (by kernel_rfl) (fun _ _ _ h => h) (Or.inl ⟨by rfl, ?_⟩) (by assumption) ?_
                        rotate_left
                        · intro w hSw
                          try dsimp only at hSw
                          go_simp
                          try with_reducible rfl
                        try simp only [Act.put]
                        refine wpAnyH_ready (rs := [13]) (by kernel_rfl) (by simp) ?_
                        refine AllReadyH.cons rfl (fun K hK => ?_) ?_
                        · have xf := hbx.cell 3
                          have ff := hbx.frozen 3
                          go_simp
                          have hb9 : Blk (w8.setCell ⟨gf, 3, none⟩ (.slice A8 (ts'.length + 1) c8)) gf 32 #[.int .i64 cf.q, .int .i64 X2, .int .i64 X3, .slice A8 (ts' ++ [(⟨D, dd, t.xs⟩ : Sl)]).length c8, .slice B' us'.length d', .slice C' us'.length k'] := by
                            rw [List.length_append]
                            exact hbx.set_ 3 _
                          have hO8 := hO.snocW (u := ⟨D, dd, t.xs⟩) hp8 ho8 hg8 hw8.1 (oD.alloc (.cells #[.slice D t.xs.length dd] 25)) hk7 (Nat.le_trans hsz0 hk7)
                          have hO9 := hO8.far (w' := w8.setCell ⟨gf, 3, none⟩ (.slice A8 (ts'.length + 1) c8)) hbx (by decide) (by decide) (fun b hb => Below.heap_setCell _ _ _ _ hb)
                          have hz9 : Below W5.heap.size W5 (w8.setCell ⟨gf, 3, none⟩ (.slice A8 (ts'.length + 1) c8)) := hq5.setCell hgf _
                          refine hK.out _ _ ?_ (fun hHeld => ?_)
                          · first | exact SS.out _ hz9 | exact SS.out _ hq5
                          clear hK K
                          try simp only [Act.put, List.setIfInBounds_toArray]
                          refine wpAnyH_done (by kernel_rfl) ?_ _
                          generalize w8.setCell ⟨gf, 3, none⟩ (.slice A8 (ts'.length + 1) c8) = w9 at *
                          have hres : BncS W5 W5.heap.size gf cf.q X2 X3 (nums ts) (k + 1) w9 := ⟨A8, c8, ts' ++ [⟨D, dd, t.xs⟩], B', d', us', C', k', hb9, hO9, by rw [hev.1, if_pos he, ← hW]; simp [nums], by rw [hev.2, if_pos he, ← hR], hz9⟩
                          go_wp2_with fail
                          exact ⟨⟨k + 1, by omega, by go_num, Lib.hid hres⟩, by simp [intOf]; omega⟩
                        exact AllReadyH.nil
                      exact AllReadyH.nil
                    exact AllReadyH.nil
                  exact AllReadyH.nil
                exact AllReadyH.nil
              · have e2 : (k : Int).tmod 2 = 1 := by rw [Int.tmod_eq_emod_of_nonneg i1]; omega
                go_upto_region 14 with fail
                have hp : Below wr.heap.size wr wr.drew := below_drewN (Below.refl _ _) 1
                have hbx := hb.below' hp
                have hq5 := hz.trans (hp.mono hsz0)
                refine wp_region_held_drew (S := (fun w' => w'.cell? ⟨gp, 2, none⟩ = some (.slice (some ⟨bb, off, none⟩) m d) ∧ w'.cell? ⟨bb, off + k, none⟩ = some (.slice t.A t.xs.length t.c))) (by kernel_rfl) ?_ (fun hHeld => ?_)
                · exact SS.out _ hq5
                generalize wr.drew = Wc at *
                refine wpAnyH_take (i := 0) (v := ?_) rfl (by kernel_rfl) (by kernel_rfl) (by kernel_rfl) (fun _ _ _ h => h) (Or.inl ⟨by rfl, ?_⟩) (by assumption) ?_
                rotate_left
                · intro w hSw
                  try dsimp only at hSw
                  go_simp
                  try with_reducible rfl
                try simp only [Act.put, List.setIfInBounds_toArray]
                refine wpAnyH_take (i := 2) (v := ?_) rfl (by kernel_rfl) (by kernel_rfl) (by kernel_rfl) (fun _ _ _ h => h) (Or.inl ⟨by rfl, ?_⟩) (by assumption) ?_
                rotate_left
                · intro w hSw
                  try dsimp only at hSw
                  go_simp
                  try with_reducible rfl
                try simp only [Act.put]
                refine wpAnyH_take (i := 3) (v := ?_) rfl (by kernel_rfl) (by kernel_rfl) (by kernel_rfl) (fun _ _ _ h => h) (Or.inl ⟨by rfl, ?_⟩) (by assumption) ?_
                rotate_left
                · intro w hSw
                  try dsimp only at hSw
                  go_simp
                  try with_reducible rfl
                try simp only [Act.put]
                refine wpAnyH_take (i := 4) (v := ?_) rfl (by kernel_rfl) (by kernel_rfl) (by kernel_rfl) (fun _ _ _ h => h) (Or.inl ⟨by rfl, ?_⟩) (by assumption) ?_
                rotate_left
                · intro w hSw
                  try dsimp only at hSw
                  go_simp
                  try with_reducible rfl
                try simp only [Act.put]
                refine wpAnyH_take (i := 5) (v := ?_) rfl (by kernel_rfl) (by kernel_rfl) (by kernel_rfl) (fun _ _ _ h => h) (Or.inl ⟨by rfl, ?_⟩) (by assumption) ?_
                rotate_left
                · intro w hSw
                  try dsimp only at hSw
                  obtain ⟨h0_, h1_⟩ := hSw
                  go_simp
                  try with_reducible rfl
                try simp only [Act.put]
                refine wpAnyH_take (i := 6) (v := ?_) rfl (by kernel_rfl) (by kernel_rfl) (by kernel_rfl) (fun _ _ _ h => h) (Or.inl ⟨by rfl, ?_⟩) (by assumption) ?_
                rotate_left
                · intro w hSw
                  try dsimp only at hSw
                  go_simp
                  try with_reducible rfl
                try simp only [Act.put]
                refine wpAnyH_take (i := 7) (v := ?_) rfl (by kernel_rfl) (by kernel_rfl) (by kernel_rfl) (fun _ _ _ h => h) (Or.inl ⟨by rfl, ?_⟩) (by assumption) ?_
                rotate_left
                · intro w hSw
                  try dsimp only at hSw
                  go_simp
                  try with_reducible rfl
                try simp only [Act.put]
                refine wpAnyH_take (i := 8) (v := ?_) rfl (by kernel_rfl) (by kernel_rfl) (by kernel_rfl) (fun _ _ _ h => h) (Or.inl ⟨by rfl, ?_⟩) (by assumption) ?_
                rotate_left
                · intro w hSw
                  try dsimp only at hSw
                  obtain ⟨h0_, h1_⟩ := hSw
                  go_simp
                  try with_reducible rfl
                try simp only [Act.put]
                refine wpAnyH_ready (rs := [1, 9]) (by kernel_rfl) (by simp) ?_
                refine AllReadyH.cons rfl (fun K hK => ?_) ?_
                · have xf := hbx.cell 4
                  go_simp
                  clear xf
                  refine hK.out _ _ ?_ (fun hHeld => ?_)
                  · first | exact SS.out _ hz9 | exact SS.out _ hq5
                  clear hK K
                  try simp only [Act.put, List.setIfInBounds_toArray, List.set_cons_zero, List.set_cons_succ]
                  refine wpAnyH_ready (rs := [9]) (by kernel_rfl) (by simp) ?_
                  refine AllReadyH.cons rfl (fun K hK => ?_) ?_
                  · go_simp
                    refine (l00Own_any _ _ _ t.xs _ (HROW.out.below hp) hnt).mono ?_
                    rintro e W7 ⟨D, dd, rfl, oD, z7⟩
                    have hk7 := hp.size
                    replace hp := hp.trans (z7.mono hp.size)
                    replace hq5 := hz.trans (hp.mono hsz0)
                    replace hbx := hbx.below' z7
                    refine hK.out _ _ ?_ (fun hHeld => ?_)
                    · first | exact SS.out _ hz9 | exact SS.out _ hq5
                    clear hK K
                    try simp only [Act.put, List.setIfInBounds_toArray, List.set_cons_zero, List.set_cons_succ]
                    refine wpAnyH_ready (rs := [10]) (by kernel_rfl) (by simp) ?_
                    refine AllReadyH.cons rfl (fun K hK => ?_) ?_
                    · go_simp
                      replace hbx := hbx.alloc (.cells #[.slice D t.xs.length dd] 25)
                      have hp8 := hp.alloc hp.size (.cells #[.slice D t.xs.length dd] 25)
                      replace hq5 := hz.trans (hp8.mono hsz0)
                      refine hK.out _ _ ?_ (fun hHeld => ?_)
                      · first | exact SS.out _ hz9 | exact SS.out _ hq5
                      clear hK K
                      try simp only [Act.put, List.setIfInBounds_toArray, List.set_cons_zero, List.set_cons_succ]
                      refine wpAnyH_ready (rs := [11]) (by kernel_rfl) (by simp) ?_
                      refine AllReadyH.cons rfl (fun K hK => ?_) ?_
                      · rw [if_pos (by rfl)]
                        have hsz := hp8.size
                        refine wp_append_Own (.tmp 119) (.tmp 128) rfl elII (lo := W5.heap.size) rfl ((hO.below hp8).2.1.1) rfl (Rd.new1 W7 _ _) (by simp [Value.oneCell']) (by omega) (by simp only [maxLen]; omega) (by omega) ?_
                        intro A8 c8 w8 ho8 hg8 hw8
                        replace hq5 := (((hO.below hp8).2.1.1)).below_of hq5 hg8 (by omega)
                        replace hbx := hbx.growt ((hO.below hp8).2.1.1) hg8 (by decide)
                        refine hK.out _ _ ?_ (fun hHeld => ?_)
                        · first | exact SS.out _ hz9 | exact SS.out _ hq5
                        clear hK K
                        try simp only [Act.put, List.setIfInBounds_toArray]
                        refine wpAnyH_take (i := 12) (v := ?_) rfl (by kernel_rfl) (by kernel_rfl) (by kernel_rfl) (fun _ _ _ h => h) (Or.inl ⟨by rfl, ?_⟩) (by assumption) ?_
                        rotate_left
                        · intro w hSw
                          try dsimp only at hSw
                          go_simp
                          try with_reducible rfl
                        try simp only [Act.put]
                        refine wpAnyH_ready (rs := [13]) (by kernel_rfl) (by simp) ?_
                        refine AllReadyH.cons rfl (fun K hK => ?_) ?_
                        · have xf := hbx.cell 4
                          have ff := hbx.frozen 4
                          go_simp
                          have hb9 : Blk (w8.setCell ⟨gf, 4, none⟩ (.slice A8 (us'.length + 1) c8)) gf 32 #[.int .i64 cf.q, .int .i64 X2, .int .i64 X3, .slice A' ts'.length c', .slice A8 (us' ++ [(⟨D, dd, t.xs⟩ : Sl)]).length c8, .slice C' us'.length k'] := by
                            rw [List.length_append]
                            exact hbx.set_ 4 _
                          have hO8 := hO.snocR (u := ⟨D, dd, t.xs⟩) hp8 ho8 hg8 hw8.1 (oD.alloc (.cells #[.slice D t.xs.length dd] 25)) hk7 (Nat.le_trans hsz0 hk7)
                          have hO9 := hO8.far (w' := w8.setCell ⟨gf, 4, none⟩ (.slice A8 (us'.length + 1) c8)) hbx (by decide) (by decide) (fun b hb => Below.heap_setCell _ _ _ _ hb)
                          have hz9 : Below W5.heap.size W5 (w8.setCell ⟨gf, 4, none⟩ (.slice A8 (us'.length + 1) c8)) := hq5.setCell hgf _
                          refine hK.out _ _ ?_ (fun hHeld => ?_)
                          · first | exact SS.out _ hz9 | exact SS.out _ hq5
                          clear hK K
                          try simp only [Act.put, List.setIfInBounds_toArray]
                          refine wpAnyH_done (by kernel_rfl) ?_ _
                          generalize w8.setCell ⟨gf, 4, none⟩ (.slice A8 (us'.length + 1) c8) = w9 at *
                          have hb9r : Blk w9 gf 32 #[.int .i64 cf.q, .int .i64 X2, .int .i64 X3, .slice A' ts'.length c', .slice A8 (us'.length + 1) c8, .slice C' us'.length k'] := by rw [List.length_append] at hb9; exact hb9
                          have ho9 : Own w9 W5.heap.size 2 1 C' us'.length k' (ints (List.replicate us'.length 0)) := by have h := hO9.2.2.1; rwa [List.length_replicate] at h
                          have hs9 := hz9.size
                          have q5 : w9.cell? ⟨gf, 5, none⟩ = some (.slice C' us'.length k') := hb9r.cell 5
                          have q5f := hb9r.frozen 5
                          clear hb9 hbx hp hq5 xf ff
                          go_wp2_with (at_builtin; refine wpList_append_Own rfl (.tmp 132) (.tmp 133) rfl elI (lo := W5.heap.size) rfl (ho9.alloc _) rfl (Rd.new1 w9 _ _) (by simp [Value.oneCell']) (by omega) (by simp only [maxLen]; omega) (by simp; omega) ?_; intro A6 c6 w10 ho6 hg6 hw6; have hbz := (hb9r.alloc (.cells #[.int .i64 0] 2)).growt (ho9.alloc (.cells #[.int .i64 0] 2)) hg6 (by decide); have z5c : w10.cell? ⟨gf, 5, none⟩ = some (.slice C' us'.length k') := hbz.cell 5; have z5f := hbz.frozen 5)
                          have hF10 := hO9.snocO (x := 0) ((Below.refl w9.heap.size w9).alloc (Nat.le_refl _) (.cells #[.int .i64 0] 2)) (by rw [List.length_replicate]; exact ho6) hg6 hw6.1
                          have hF11 := hF10.far (w' := w10.setCell ⟨gf, 5, none⟩ (.slice A6 (us'.length + 1) c6)) hbz (by decide) (by decide) (fun b hb => Below.heap_setCell _ _ _ _ hb)
                          have hb11 : Blk (w10.setCell ⟨gf, 5, none⟩ (.slice A6 (us'.length + 1) c6)) gf 32 #[.int .i64 cf.q, .int .i64 X2, .int .i64 X3, .slice A' ts'.length c', .slice A8 (us' ++ [(⟨D, dd, t.xs⟩ : Sl)]).length c8, .slice A6 (us' ++ [(⟨D, dd, t.xs⟩ : Sl)]).length c6] := by
                            rw [List.length_append]
                            exact hbz.set_ 5 _
                          have hz11 : Below W5.heap.size W5 (w10.setCell ⟨gf, 5, none⟩ (.slice A6 (us'.length + 1) c6)) := ((ho9.alloc (.cells #[.int .i64 0] 2)).below_of (hz9.alloc hs9 (.cells #[.int .i64 0] 2)) hg6 (by simp; omega)).setCell hgf _
                          have e9 : List.replicate (us' ++ [(⟨D, dd, t.xs⟩ : Sl)]).length (0 : Int) = List.replicate us'.length 0 ++ [0] := by rw [List.length_append]; exact List.replicate_succ'
                          have hres : BncS W5 W5.heap.size gf cf.q X2 X3 (nums ts) (k + 1) (w10.setCell ⟨gf, 5, none⟩ (.slice A6 (us'.length + 1) c6)) := ⟨A', c', ts', A8, c8, us' ++ [⟨D, dd, t.xs⟩], A6, c6, hb11, by rw [e9]; exact hF11, by rw [hev.1, if_neg he, ← hW], by rw [hev.2, if_neg he, ← hR]; simp [nums], hz11⟩
                          exact ⟨⟨k + 1, by omega, by go_num, Lib.hid hres⟩, by simp [intOf]; omega⟩
                        exact AllReadyH.nil
                      exact AllReadyH.nil
                    exact AllReadyH.nil
                  exact AllReadyH.nil
                refine AllReadyH.cons rfl (fun K hK => ?_) ?_
                · go_simp
                  refine (l00Own_any _ _ _ t.xs _ (HROW.out.below hp) hnt).mono ?_
                  rintro e W7 ⟨D, dd, rfl, oD, z7⟩
                  have hk7 := hp.size
                  replace hp := hp.trans (z7.mono hp.size)
                  replace hq5 := hz.trans (hp.mono hsz0)
                  replace hbx := hbx.below' z7
                  refine hK.out _ _ ?_ (fun hHeld => ?_)
                  · first | exact SS.out _ hz9 | exact SS.out _ hq5
                  clear hK K
                  try simp only [Act.put, List.setIfInBounds_toArray, List.set_cons_zero, List.set_cons_succ]
                  refine wpAnyH_ready (rs := [1, 10]) (by kernel_rfl) (by simp) ?_
                  refine AllReadyH.cons rfl (fun K hK => ?_) ?_
                  · have xf := hbx.cell 4
                    go_simp
                    clear xf
                    refine hK.out _ _ ?_ (fun hHeld => ?_)
                    · first | exact SS.out _ hz9 | exact SS.out _ hq5
                    clear hK K
                    try simp only [Act.put, List.setIfInBounds_toArray, List.set_cons_zero, List.set_cons_succ]
                    refine wpAnyH_ready (rs := [10]) (by kernel_rfl) (by simp) ?_
                    refine AllReadyH.cons rfl (fun K hK => ?_) ?_
                    · go_simp
                      replace hbx := hbx.alloc (.cells #[.slice D t.xs.length dd] 25)
                      have hp8 := hp.alloc hp.size (.cells #[.slice D t.xs.length dd] 25)
                      replace hq5 := hz.trans (hp8.mono hsz0)
                      refine hK.out _ _ ?_ (fun hHeld => ?_)
                      · first | exact SS.out _ hz9 | exact SS.out _ hq5
                      clear hK K
                      try simp only [Act.put, List.setIfInBounds_toArray, List.set_cons_zero, List.set_cons_succ]
                      refine wpAnyH_ready (rs := [11]) (by kernel_rfl) (by simp) ?_
                      refine AllReadyH.cons rfl (fun K hK => ?_) ?_
                      · rw [if_pos (by rfl)]
                        have hsz := hp8.size
                        refine wp_append_Own (.tmp 119) (.tmp 128) rfl elII (lo := W5.heap.size) rfl ((hO.below hp8).2.1.1) rfl (Rd.new1 W7 _ _) (by simp [Value.oneCell']) (by omega) (by simp only [maxLen]; omega) (by omega) ?_
                        intro A8 c8 w8 ho8 hg8 hw8
                        replace hq5 := (((hO.below hp8).2.1.1)).below_of hq5 hg8 (by omega)
                        replace hbx := hbx.growt ((hO.below hp8).2.1.1) hg8 (by decide)
                        refine hK.out _ _ ?_ (fun hHeld => ?_)
                        · first | exact SS.out _ hz9 | exact SS.out _ hq5
                        clear hK K
                        try simp only [Act.put, List.setIfInBounds_toArray]
                        refine wpAnyH_take (i := 12) (v := ?_) rfl (by kernel_rfl) (by kernel_rfl) (by kernel_rfl) (fun _ _ _ h => h) (Or.inl ⟨by rfl, ?_⟩) (by assumption) ?_
                        rotate_left
                        · intro w hSw
                          try dsimp only at hSw
                          go_simp
                          try with_reducible rfl
                        try simp only [Act.put]
                        refine wpAnyH_ready (rs := [13]) (by kernel_rfl) (by simp) ?_
                        refine AllReadyH.cons rfl (fun K hK => ?_) ?_
                        · have xf := hbx.cell 4
                          have ff := hbx.frozen 4
                          go_simp
                          have hb9 : Blk (w8.setCell ⟨gf, 4, none⟩ (.slice A8 (us'.length + 1) c8)) gf 32 #[.int .i64 cf.q, .int .i64 X2, .int .i64 X3, .slice A' ts'.length c', .slice A8 (us' ++ [(⟨D, dd, t.xs⟩ : Sl)]).length c8, .slice C' us'.length k'] := by
                            rw [List.length_append]
                            exact hbx.set_ 4 _
                          have hO8 := hO.snocR (u := ⟨D, dd, t.xs⟩) hp8 ho8 hg8 hw8.1 (oD.alloc (.cells #[.slice D t.xs.length dd] 25)) hk7 (Nat.le_trans hsz0 hk7)
                          have hO9 := hO8.far (w' := w8.setCell ⟨gf, 4, none⟩ (.slice A8 (us'.length + 1) c8)) hbx (by decide) (by decide) (fun b hb => Below.heap_setCell _ _ _ _ hb)
                          have hz9 : Below W5.heap.size W5 (w8.setCell ⟨gf, 4, none⟩ (.slice A8 (us'.length + 1) c8)) := hq5.setCell hgf _
                          refine hK.out _ _ ?_ (fun hHeld => ?_)
                          · first | exact SS.out _ hz9 | exact SS.out _ hq5
                          clear hK K
                          try simp only [Act.put, List.setIfInBounds_toArray]
                          refine wpAnyH_done (by kernel_rfl) ?_ _
                          generalize w8.setCell ⟨gf, 4, none⟩ (.slice A8 (us'.length + 1) c8) = w9 at *
                          have hb9r : Blk w9 gf 32 #[.int .i64 cf.q, .int .i64 X2, .int .i64 X3, .slice A' ts'.length c', .slice A8 (us'.length + 1) c8, .slice C' us'.length k'] := by rw [List.length_append] at hb9; exact hb9
                          have ho9 : Own w9 W5.heap.size 2 1 C' us'.length k' (ints (List.replicate us'.length 0)) := by have h := hO9.2.2.1; rwa [List.length_replicate] at h
                          have hs9 := hz9.size
                          have q5 : w9.cell? ⟨gf, 5, none⟩ = some (.slice C' us'.length k') := hb9r.cell 5
                          have q5f := hb9r.frozen 5
                          clear hb9 hbx hp hq5 xf ff
                          go_wp2_with (at_builtin; refine wpList_append_Own rfl (.tmp 132) (.tmp 133) rfl elI (lo := W5.heap.size) rfl (ho9.alloc _) rfl (Rd.new1 w9 _ _) (by simp [Value.oneCell']) (by omega) (by simp only [maxLen]; omega) (by simp; omega) ?_; intro A6 c6 w10 ho6 hg6 hw6; have hbz := (hb9r.alloc (.cells #[.int .i64 0] 2)).growt (ho9.alloc (.cells #[.int .i64 0] 2)) hg6 (by decide); have z5c : w10.cell? ⟨gf, 5, none⟩ = some (.slice C' us'.length k') := hbz.cell 5; have z5f := hbz.frozen 5)
                          have hF10 := hO9.snocO (x := 0) ((Below.refl w9.heap.size w9).alloc (Nat.le_refl _) (.cells #[.int .i64 0] 2)) (by rw [List.length_replicate]; exact ho6) hg6 hw6.1
                          have hF11 := hF10.far (w' := w10.setCell ⟨gf, 5, none⟩ (.slice A6 (us'.length + 1) c6)) hbz (by decide) (by decide) (fun b hb => Below.heap_setCell _ _ _ _ hb)
                          have hb11 : Blk (w10.setCell ⟨gf, 5, none⟩ (.slice A6 (us'.length + 1) c6)) gf 32 #[.int .i64 cf.q, .int .i64 X2, .int .i64 X3, .slice A' ts'.length c', .slice A8 (us' ++ [(⟨D, dd, t.xs⟩ : Sl)]).length c8, .slice A6 (us' ++ [(⟨D, dd, t.xs⟩ : Sl)]).length c6] := by
                            rw [List.length_append]
                            exact hbz.set_ 5 _
                          have hz11 : Below W5.heap.size W5 (w10.setCell ⟨gf, 5, none⟩ (.slice A6 (us'.length + 1) c6)) := ((ho9.alloc (.cells #[.int .i64 0] 2)).below_of (hz9.alloc hs9 (.cells #[.int .i64 0] 2)) hg6 (by simp; omega)).setCell hgf _
                          have e9 : List.replicate (us' ++ [(⟨D, dd, t.xs⟩ : Sl)]).length (0 : Int) = List.replicate us'.length 0 ++ [0] := by rw [List.length_append]; exact List.replicate_succ'
                          have hres : BncS W5 W5.heap.size gf cf.q X2 X3 (nums ts) (k + 1) (w10.setCell ⟨gf, 5, none⟩ (.slice A6 (us'.length + 1) c6)) := ⟨A', c', ts', A8, c8, us' ++ [⟨D, dd, t.xs⟩], A6, c6, hb11, by rw [e9]; exact hF11, by rw [hev.1, if_neg he, ← hW], by rw [hev.2, if_neg he, ← hR]; simp [nums], hz11⟩
                          exact ⟨⟨k + 1, by omega, by go_num, Lib.hid hres⟩, by simp [intOf]; omega⟩
                        exact AllReadyH.nil
                      exact AllReadyH.nil
                    exact AllReadyH.nil
                  refine AllReadyH.cons rfl (fun K hK => ?_) ?_
                  · go_simp
                    replace hbx := hbx.alloc (.cells #[.slice D t.xs.length dd] 25)
                    have hp8 := hp.alloc hp.size (.cells #[.slice D t.xs.length dd] 25)
                    replace hq5 := hz.trans (hp8.mono hsz0)
                    refine hK.out _ _ ?_ (fun hHeld => ?_)
                    · first | exact SS.out _ hz9 | exact SS.out _ hq5
                    clear hK K
                    try simp only [Act.put, List.setIfInBounds_toArray, List.set_cons_zero, List.set_cons_succ]
                    refine wpAnyH_ready (rs := [1]) (by kernel_rfl) (by simp) ?_
                    refine AllReadyH.cons rfl (fun K hK => ?_) ?_
                    · have xf := hbx.cell 4
                      go_simp
                      clear xf
                      refine hK.out _ _ ?_ (fun hHeld => ?_)
                      · first | exact SS.out _ hz9 | exact SS.out _ hq5
                      clear hK K
                      try simp only [Act.put, List.setIfInBounds_toArray, List.set_cons_zero, List.set_cons_succ]
                      refine wpAnyH_ready (rs := [11]) (by kernel_rfl) (by simp) ?_
                      refine AllReadyH.cons rfl (fun K hK => ?_) ?_
                      · rw [if_pos (by rfl)]
                        have hsz := hp8.size
                        refine wp_append_Own (.tmp 119) (.tmp 128) rfl elII (lo := W5.heap.size) rfl ((hO.below hp8).2.1.1) rfl (Rd.new1 W7 _ _) (by simp [Value.oneCell']) (by omega) (by simp only [maxLen]; omega) (by omega) ?_
                        intro A8 c8 w8 ho8 hg8 hw8
                        replace hq5 := (((hO.below hp8).2.1.1)).below_of hq5 hg8 (by omega)
                        replace hbx := hbx.growt ((hO.below hp8).2.1.1) hg8 (by decide)
                        refine hK.out _ _ ?_ (fun hHeld => ?_)
                        · first | exact SS.out _ hz9 | exact SS.out _ hq5
                        clear hK K
                        try simp only [Act.put, List.setIfInBounds_toArray]
                        refine wpAnyH_take (i := 12) (v := ?_) rfl (by kernel_rfl) (by kernel_rfl) (by kernel_rfl) (fun _ _ _ h => h) (Or.inl ⟨by rfl, ?_⟩) (by assumption) ?_
                        rotate_left
                        · intro w hSw
                          try dsimp only at hSw
                          go_simp
                          try with_reducible rfl
                        try simp only [Act.put]
                        refine wpAnyH_ready (rs := [13]) (by kernel_rfl) (by simp) ?_
                        refine AllReadyH.cons rfl (fun K hK => ?_) ?_
                        · have xf := hbx.cell 4
                          have ff := hbx.frozen 4
                          go_simp
                          have hb9 : Blk (w8.setCell ⟨gf, 4, none⟩ (.slice A8 (us'.length + 1) c8)) gf 32 #[.int .i64 cf.q, .int .i64 X2, .int .i64 X3, .slice A' ts'.length c', .slice A8 (us' ++ [(⟨D, dd, t.xs⟩ : Sl)]).length c8, .slice C' us'.length k'] := by
                            rw [List.length_append]
                            exact hbx.set_ 4 _
                          have hO8 := hO.snocR (u := ⟨D, dd, t.xs⟩) hp8 ho8 hg8 hw8.1 (oD.alloc (.cells #[.slice D t.xs.length dd] 25)) hk7 (Nat.le_trans hsz0 hk7)
                          have hO9 := hO8.far (w' := w8.setCell ⟨gf, 4, none⟩ (.slice A8 (us'.length + 1) c8)) hbx (by decide) (by decide) (fun b hb => Below.heap_setCell _ _ _ _ hb)
                          have hz9 : Below W5.heap.size W5 (w8.setCell ⟨gf, 4, none⟩ (.slice A8 (us'.length + 1) c8)) := hq5.setCell hgf _
                          refine hK.out _ _ ?_ (fun hHeld => ?_)
                          · first | exact SS.out _ hz9 | exact SS.out _ hq5
                          clear hK K
                          try simp only [Act.put, List.setIfInBounds_toArray]
                          refine wpAnyH_done (by kernel_rfl) ?_ _
                          generalize w8.setCell ⟨gf, 4, none⟩ (.slice A8 (us'.length + 1) c8) = w9 at *
                          have hb9r : Blk w9 gf 32 #[.int .i64 cf.q, .int .i64 X2, .int .i64 X3, .slice A' ts'.length c', .slice A8 (us'.length + 1) c8, .slice C' us'.length k'] := by rw [List.length_append] at hb9; exact hb9
                          have ho9 : Own w9 W5.heap.size 2 1 C' us'.length k' (ints (List.replicate us'.length 0)) := by have h := hO9.2.2.1; rwa [List.length_replicate] at h
                          have hs9 := hz9.size
                          have q5 : w9.cell? ⟨gf, 5, none⟩ = some (.slice C' us'.length k') := hb9r.cell 5
                          have q5f := hb9r.frozen 5
                          clear hb9 hbx hp hq5 xf ff
                          go_wp2_with (at_builtin; refine wpList_append_Own rfl (.tmp 132) (.tmp 133) rfl elI (lo := W5.heap.size) rfl (ho9.alloc _) rfl (Rd.new1 w9 _ _) (by simp [Value.oneCell']) (by omega) (by simp only [maxLen]; omega) (by simp; omega) ?_; intro A6 c6 w10 ho6 hg6 hw6; have hbz := (hb9r.alloc (.cells #[.int .i64 0] 2)).growt (ho9.alloc (.cells #[.int .i64 0] 2)) hg6 (by decide); have z5c : w10.cell? ⟨gf, 5, none⟩ = some (.slice C' us'.length k') := hbz.cell 5; have z5f := hbz.frozen 5)
                          have hF10 := hO9.snocO (x := 0) ((Below.refl w9.heap.size w9).alloc (Nat.le_refl _) (.cells #[.int .i64 0] 2)) (by rw [List.length_replicate]; exact ho6) hg6 hw6.1
                          have hF11 := hF10.far (w' := w10.setCell ⟨gf, 5, none⟩ (.slice A6 (us'.length + 1) c6)) hbz (by decide) (by decide) (fun b hb => Below.heap_setCell _ _ _ _ hb)
                          have hb11 : Blk (w10.setCell ⟨gf, 5, none⟩ (.slice A6 (us'.length + 1) c6)) gf 32 #[.int .i64 cf.q, .int .i64 X2, .int .i64 X3, .slice A' ts'.length c', .slice A8 (us' ++ [(⟨D, dd, t.xs⟩ : Sl)]).length c8, .slice A6 (us' ++ [(⟨D, dd, t.xs⟩ : Sl)]).length c6] := by
                            rw [List.length_append]
                            exact hbz.set_ 5 _
                          have hz11 : Below W5.heap.size W5 (w10.setCell ⟨gf, 5, none⟩ (.slice A6 (us'.length + 1) c6)) := ((ho9.alloc (.cells #[.int .i64 0] 2)).below_of (hz9.alloc hs9 (.cells #[.int .i64 0] 2)) hg6 (by simp; omega)).setCell hgf _
                          have e9 : List.replicate (us' ++ [(⟨D, dd, t.xs⟩ : Sl)]).length (0 : Int) = List.replicate us'.length 0 ++ [0] := by rw [List.length_append]; exact List.replicate_succ'
                          have hres : BncS W5 W5.heap.size gf cf.q X2 X3 (nums ts) (k + 1) (w10.setCell ⟨gf, 5, none⟩ (.slice A6 (us'.length + 1) c6)) := ⟨A', c', ts', A8, c8, us' ++ [⟨D, dd, t.xs⟩], A6, c6, hb11, by rw [e9]; exact hF11, by rw [hev.1, if_neg he, ← hW], by rw [hev.2, if_neg he, ← hR]; simp [nums], hz11⟩
                          exact ⟨⟨k + 1, by omega, by go_num, Lib.hid hres⟩, by simp [intOf]; omega⟩
                        exact AllReadyH.nil
                      exact AllReadyH.nil
                    exact AllReadyH.nil
                  exact AllReadyH.nil
                exact AllReadyH.nil
            · obtain rfl : k = m := by omega
              have i2 : ¬ (k : Int) < (k : Int) := by omega
              rw [List.take_of_length_le (by rw [HTL.out]; omega)] at hW hR
              have hul : us'.length = r := by have h1 := congrArg List.length hR; rw [nums_len, (evens_len _).2, HTL.out, HMR.out] at h1; omega
              have HBF : Hid ((⟨cf.q, X2, X3, nums ts', nums us', List.replicate us'.length 0⟩ : Fm) = buildF (itC sy rs blankC X0.toNat).q X2 X3 (nums ts) r) := Lib.hid (by unfold buildF; rw [hW, hR, hul, HCF.out])
              have y4 : Below w.heap.size w wr := y5.trans (hz.mono y5.size)
              have z58 : Below W.heap.size W wr := z5.trans (hz.mono z5.size)
              have d4 := b4.below' z58
              have d5 := b5.below' z58
              have HM4 := Lib.hid (HM.out.below z58)
              have HFA : Hid (FmAt wr gf ⟨cf.q, X2, X3, nums ts', nums us', List.replicate us'.length 0⟩ A' ts'.length c' B' us'.length d' C' us'.length k') := Lib.hid (hb.fmAt _ _ _)
              obtain ⟨s1, s2, s3, s4⟩ := machB_bounds HMB.out
              have hk7 : k ≤ 7 := by have := HMR.out; omega
              have hle : ts'.length ≤ 1048576 := by have h1 := congrArg List.length hW; rw [nums_len, (evens_len _).1, HTL.out] at h1; omega
              have hle' : us'.length ≤ 1048576 := by omega
              have HRW : Hid (∀ t ∈ ts', t.xs.length ≤ 1048576) := Lib.hid (fun t ht => by
                have h1 : t.xs ∈ nums ts' := List.mem_map.2 ⟨t, ht, rfl⟩
                rw [hW] at h1
                obtain ⟨u, hu, e⟩ := List.mem_map.1 (evens_mem.1 h1)
                rw [← e]; exact HNS.out u hu)
              have HRR : Hid (∀ t ∈ us', t.xs.length ≤ 1048576) := Lib.hid (fun t ht => by
                have h1 : t.xs ∈ nums us' := List.mem_map.2 ⟨t, ht, rfl⟩
                rw [hR] at h1
                obtain ⟨u, hu, e⟩ := List.mem_map.1 (evens_mem.2 h1)
                rw [← e]; exact HNS.out u hu)
              have HOO := Lib.hid hO
              have HOC : Hid (SI wr C' us'.length (List.replicate us'.length 0)) := Lib.hid (by have h := hO.2.2.1.asI; rwa [List.length_replicate] at h)
              have HB5r := Lib.hid (HB5.out.below' hz)
              have HBQ := Lib.hid hb
              have v0 : wr.cell? ⟨gf, 0, none⟩ = some (.int .i64 cf.q) := hb.cell 0
              have v1 : wr.cell? ⟨gf, 1, none⟩ = some (.int .i64 X2) := hb.cell 1
              have v2 : wr.cell? ⟨gf, 2, none⟩ = some (.int .i64 X3) := hb.cell 2
              have v3 : wr.cell? ⟨gf, 3, none⟩ = some (.slice A' ts'.length c') := hb.cell 3
              have v4 : wr.cell? ⟨gf, 4, none⟩ = some (.slice B' us'.length d') := hb.cell 4
              have v5 : wr.cell? ⟨gf, 5, none⟩ = some (.slice C' us'.length k') := hb.cell 5
              clear hW hR hO hb HB hul z58 hz
              cases a2 : fmB sy st ⟨cf.q, X2, X3, nums ts', nums us', List.replicate us'.length 0⟩
              · have A2 := Lib.hid a2
                clear a2
                obtain rfl : res = (Fm.zero, 9) := by rw [HRES2.out, A1.out, HA.out, ← HBF.out, A2.out]; rfl
                have HC : Hid (∀ dz oz, Calls Try.prog 96 #[.pointer (some ⟨g, 0, none⟩), .pointer (some ⟨gf, 0, none⟩)] (grow (redrawn wr dz) oz) fun e w' => e = .returned (.bool false) ∧ ∃ p : Regrown, w' = grow (redrawn wr p.d) p.os) :=
                  fun dz oz => Calls.regrown_of ((l27Is_any g gf sy st A0 n0 k0 _ _ _ _ _ _ ts' _ _ _ us' _ _ _ (List.replicate us'.length 0) _ (HM4.out.below (below_regrown wr dz oz)) (HFA.out.below (below_regrown wr dz oz)) (HOO.out.1.sii.below (below_regrown wr dz oz)) (HOO.out.2.1.sii.below (below_regrown wr dz oz)) (HOC.out.below (below_regrown wr dz oz)) hle hle' hle' HRW.out HRR.out s1 s2 s3 s4).mono fun _ _ ⟨he, hw⟩ => ⟨by rw [he, A2.out], hw⟩)
                go_wp2_with fail
                have m1 := cell_regrown v1
                have m2 := cell_regrown v2
                have m3 := cell_regrown v3
                refine wp_region_quiet_below (by kernel_rfl) (by kernel_rfl) ?_
                repeat (go_big_quiet_step ((go_at_call 96; exact HC.out _ _)))
                refine wpQuiet_nil ?_
                intro _ hw'
                obtain ⟨⟨dq, osq⟩, hw''⟩ := hw'
                subst hw''
                have z8 := below_regrown wr dq osq
                clear m1 m2 m3
                generalize grow (redrawn wr dq) osq = W8 at *
                have d4 := d4.below' z8
                have d5 := d5.below' z8
                have y8 := y4.trans (z8.mono y4.size)
                have x0 : W8.cell? ⟨w.heap.size, 0, none⟩ = some (.int .i64 0) := d4.cell 0
                have x1 : W8.cell? ⟨w.heap.size, 1, none⟩ = some (.int .i64 0) := d4.cell 1
                have x2 : W8.cell? ⟨w.heap.size, 2, none⟩ = some (.int .i64 0) := d4.cell 2
                have x3 : W8.cell? ⟨w.heap.size, 3, none⟩ = some (.slice none 0 0) := d4.cell 3
                have x4 : W8.cell? ⟨w.heap.size, 4, none⟩ = some (.slice none 0 0) := d4.cell 4
                have x5 : W8.cell? ⟨w.heap.size, 5, none⟩ = some (.slice none 0 0) := d4.cell 5
                have y_0 : W8.cell? ⟨(w.heap.size + 1), 0, none⟩ = some (.int .i64 0) := d5.cell 0
                have y_1 : W8.cell? ⟨(w.heap.size + 1), 1, none⟩ = some (.slice none 0 0) := d5.cell 1
                have y_2 : W8.cell? ⟨(w.heap.size + 1), 2, none⟩ = some (.slice none 0 0) := d5.cell 2
                have f0 := d4.frozen 0
                have f1 := d4.frozen 1
                have f2 := d4.frozen 2
                have f3 := d4.frozen 3
                have f4 := d4.frozen 4
                have f5 := d4.frozen 5
                have e0 := d5.frozen 0
                have e1 := d5.frozen 1
                have e2 := d5.frozen 2
                go_wp2_with fail
                clear x0 x1 x2 x3 x4 x5 y_0 y_1 y_2
                have dB : Blk ((((((W8.setCell ⟨w.heap.size, 0, none⟩ (.int .i64 0)).setCell ⟨w.heap.size, 1, none⟩ (.int .i64 0)).setCell ⟨w.heap.size, 2, none⟩ (.int .i64 0)).setCell ⟨w.heap.size, 3, none⟩ (.slice none 0 0)).setCell ⟨w.heap.size, 4, none⟩ (.slice none 0 0)).setCell ⟨w.heap.size, 5, none⟩ (.slice none 0 0)) w.heap.size 32 #[.int .i64 0, .int .i64 0, .int .i64 0, .slice none 0 0, .slice none 0 0, .slice none 0 0] := fm_set d4 (.int .i64 0) (.int .i64 0) (.int .i64 0) (.slice none 0 0) (.slice none 0 0) (.slice none 0 0)
                have yS : ∀ (lo : Nat) (w0 : World), Below lo w0 W8 → lo ≤ w.heap.size → Below lo w0 ((((((W8.setCell ⟨w.heap.size, 0, none⟩ (.int .i64 0)).setCell ⟨w.heap.size, 1, none⟩ (.int .i64 0)).setCell ⟨w.heap.size, 2, none⟩ (.int .i64 0)).setCell ⟨w.heap.size, 3, none⟩ (.slice none 0 0)).setCell ⟨w.heap.size, 4, none⟩ (.slice none 0 0)).setCell ⟨w.heap.size, 5, none⟩ (.slice none 0 0)) := fun lo w0 h hl => fm_below h hl (.int .i64 0) (.int .i64 0) (.int .i64 0) (.slice none 0 0) (.slice none 0 0) (.slice none 0 0)
                have kS : ∀ k, k ≠ w.heap.size → ((((((W8.setCell ⟨w.heap.size, 0, none⟩ (.int .i64 0)).setCell ⟨w.heap.size, 1, none⟩ (.int .i64 0)).setCell ⟨w.heap.size, 2, none⟩ (.int .i64 0)).setCell ⟨w.heap.size, 3, none⟩ (.slice none 0 0)).setCell ⟨w.heap.size, 4, none⟩ (.slice none 0 0)).setCell ⟨w.heap.size, 5, none⟩ (.slice none 0 0)).heap[k]? = W8.heap[k]? := fun k hk => fm_kept (.int .i64 0) (.int .i64 0) (.int .i64 0) (.slice none 0 0) (.slice none 0 0) (.slice none 0 0) k hk
                generalize (((((W8.setCell ⟨w.heap.size, 0, none⟩ (.int .i64 0)).setCell ⟨w.heap.size, 1, none⟩ (.int .i64 0)).setCell ⟨w.heap.size, 2, none⟩ (.int .i64 0)).setCell ⟨w.heap.size, 3, none⟩ (.slice none 0 0)).setCell ⟨w.heap.size, 4, none⟩ (.slice none 0 0)).setCell ⟨w.heap.size, 5, none⟩ (.slice none 0 0) = wf at *
                have c5_ : Blk wf (w.heap.size + 1) 59 #[.int .i64 0, .slice none 0 0, .slice none 0 0] := (kS _ (by omega)).trans d5
                have dB2 : Blk (((wf.setCell ⟨(w.heap.size + 1), 0, none⟩ (.int .i64 0)).setCell ⟨(w.heap.size + 1), 1, none⟩ (.slice none 0 0)).setCell ⟨(w.heap.size + 1), 2, none⟩ (.slice none 0 0)) (w.heap.size + 1) 59 #[.int .i64 0, .slice none 0 0, .slice none 0 0] := (((c5_).set_ 0 (.int .i64 0)).set_ 1 (.slice none 0 0)).set_ 2 (.slice none 0 0)
                have yS2 : ∀ (lo : Nat) (w0 : World), Below lo w0 wf → lo ≤ (w.heap.size + 1) → Below lo w0 (((wf.setCell ⟨(w.heap.size + 1), 0, none⟩ (.int .i64 0)).setCell ⟨(w.heap.size + 1), 1, none⟩ (.slice none 0 0)).setCell ⟨(w.heap.size + 1), 2, none⟩ (.slice none 0 0)) := fun lo w0 h hl => (((h.setCell hl _).setCell hl _).setCell hl _)
                have kS2 : ∀ k, k ≠ (w.heap.size + 1) → (((wf.setCell ⟨(w.heap.size + 1), 0, none⟩ (.int .i64 0)).setCell ⟨(w.heap.size + 1), 1, none⟩ (.slice none 0 0)).setCell ⟨(w.heap.size + 1), 2, none⟩ (.slice none 0 0)).heap[k]? = wf.heap[k]? := fun k hk => ((Below.heap_setCell _ _ _ _ hk).trans ((Below.heap_setCell _ _ _ _ hk).trans (Below.heap_setCell _ _ _ _ hk)))
                generalize ((wf.setCell ⟨(w.heap.size + 1), 0, none⟩ (.int .i64 0)).setCell ⟨(w.heap.size + 1), 1, none⟩ (.slice none 0 0)).setCell ⟨(w.heap.size + 1), 2, none⟩ (.slice none 0 0) = wf2 at *
                have c4_ : Blk wf2 w.heap.size 32 #[.int .i64 0, .int .i64 0, .int .i64 0, .slice none 0 0, .slice none 0 0, .slice none 0 0] := (kS2 _ (by omega)).trans dB
                have x0 : wf2.cell? ⟨w.heap.size, 0, none⟩ = some (.int .i64 0) := c4_.cell 0
                have x1 : wf2.cell? ⟨w.heap.size, 1, none⟩ = some (.int .i64 0) := c4_.cell 1
                have x2 : wf2.cell? ⟨w.heap.size, 2, none⟩ = some (.int .i64 0) := c4_.cell 2
                have x3 : wf2.cell? ⟨w.heap.size, 3, none⟩ = some (.slice none 0 0) := c4_.cell 3
                have x4 : wf2.cell? ⟨w.heap.size, 4, none⟩ = some (.slice none 0 0) := c4_.cell 4
                have x5 : wf2.cell? ⟨w.heap.size, 5, none⟩ = some (.slice none 0 0) := c4_.cell 5
                have y_0 : wf2.cell? ⟨(w.heap.size + 1), 0, none⟩ = some (.int .i64 0) := dB2.cell 0
                have y_1 : wf2.cell? ⟨(w.heap.size + 1), 1, none⟩ = some (.slice none 0 0) := dB2.cell 1
                have y_2 : wf2.cell? ⟨(w.heap.size + 1), 2, none⟩ = some (.slice none 0 0) := dB2.cell 2
                exact bodyPost_ret (v := .tuple #[.agg #[.int .i64 0, .int .i64 0, .int .i64 0, .slice none 0 0, .slice none 0 0, .slice none 0 0], .agg #[.int .i64 0, .slice none 0 0, .slice none 0 0], .int .i64 9]) (by simp [results, Try.results81, go_sem, x0, x1, x2, x3, x4, x5, y_0, y_1, y_2]) rfl (newFmS_zero (yS2 _ _ (yS _ _ y8 (by omega)) (by omega)))
              have A2 := Lib.hid a2
              obtain ⟨e0, e1, e2, e3, e4, e5, e6, e7, _, _⟩ := fmB_parts a2
              have HOQ := Lib.hid (onB_eq a2)
              clear a2
              obtain ⟨hN, rfl⟩ : ∃ hN : Nat, X2 = (hN : Int) := ⟨X2.toNat, by have : 0 ≤ X2 := e0; omega⟩
              have e1' : hN ≤ us'.length := by have h1 : (hN : Int) ≤ ((nums us').length : Int) := e1; rw [nums_len] at h1; omega
              have e2' : ts'.length = us'.length + 1 := by have h1 : (nums ts').length = (nums us').length + 1 := e2; rw [nums_len, nums_len] at h1; exact h1
              obtain ⟨t, bb, off, hT, htm, hA', hbl, hc, _⟩ := HOO.out.1.sii.pick (k := hN) (by omega)
              have hnt := HRW.out t htm
              have HON : Hid (onB ⟨cf.q, (hN : Int), X3, nums ts', nums us', List.replicate us'.length 0⟩ = !(decide (X3 < 0) || decide (X3 = (t.xs.length : Int)))) := Lib.hid (by
                rw [HOQ.out]
                show (!(decide (X3 < 0) || decide (X3 = ((rowAt (nums ts') (hN : Int)).length : Int)))) = _
                rw [rowAt_eq hT.out])
              clear e0 e1 e2 e3 e4 e5 e6 e7 hT HOQ
              subst hA'
              have i3 : (0 : Int) ≤ (hN : Int) := by omega
              have i4 : (hN : Int) < (ts'.length : Int) := by omega
              have i5 : hN < ts'.length := by omega
              clear e1' e2'
              have hcase : (decide (X3 < 0) = true) ∨ (decide (X3 < 0) = false ∧ X3 = (t.xs.length : Int)) ∨ (decide (X3 < 0) = false ∧ ¬ X3 = (t.xs.length : Int)) := by simp; omega
              rcases hcase with h9 | ⟨h9, h10⟩ | ⟨h9, h10⟩
              · obtain rfl : res = (Fm.zero, 9) := by rw [HRES2.out, A1.out, HA.out, ← HBF.out, A2.out, HON.out, h9]; rfl
                have HC : Hid (∀ dz oz, Calls Try.prog 96 #[.pointer (some ⟨g, 0, none⟩), .pointer (some ⟨gf, 0, none⟩)] (grow (redrawn wr dz) oz) fun e w' => e = .returned (.bool true) ∧ ∃ p : Regrown, w' = grow (redrawn wr p.d) p.os) :=
                  fun dz oz => Calls.regrown_of ((l27Is_any g gf sy st A0 n0 k0 _ _ _ _ _ _ ts' _ _ _ us' _ _ _ (List.replicate us'.length 0) _ (HM4.out.below (below_regrown wr dz oz)) (HFA.out.below (below_regrown wr dz oz)) (HOO.out.1.sii.below (below_regrown wr dz oz)) (HOO.out.2.1.sii.below (below_regrown wr dz oz)) (HOC.out.below (below_regrown wr dz oz)) hle hle' hle' HRW.out HRR.out s1 s2 s3 s4).mono fun _ _ ⟨he, hw⟩ => ⟨by rw [he, A2.out], hw⟩)
                go_wp2_with fail
                have m1 := cell_regrown v1
                have m2 := cell_regrown v2
                have m3 := cell_regrown v3
                have n0_ := cell_regrown hc
                refine wp_region_quiet_below (by kernel_rfl) (by kernel_rfl) ?_
                repeat (go_big_quiet_step ((go_at_call 96; exact HC.out _ _)))
                refine wpQuiet_nil ?_
                intro _ hw'
                obtain ⟨⟨dq, osq⟩, hw''⟩ := hw'
                subst hw''
                have z8 := below_regrown wr dq osq
                clear m1 m2 m3 n0_
                generalize grow (redrawn wr dq) osq = W8 at *
                have d4 := d4.below' z8
                have d5 := d5.below' z8
                have y8 := y4.trans (z8.mono y4.size)
                have x0 : W8.cell? ⟨w.heap.size, 0, none⟩ = some (.int .i64 0) := d4.cell 0
                have x1 : W8.cell? ⟨w.heap.size, 1, none⟩ = some (.int .i64 0) := d4.cell 1
                have x2 : W8.cell? ⟨w.heap.size, 2, none⟩ = some (.int .i64 0) := d4.cell 2
                have x3 : W8.cell? ⟨w.heap.size, 3, none⟩ = some (.slice none 0 0) := d4.cell 3
                have x4 : W8.cell? ⟨w.heap.size, 4, none⟩ = some (.slice none 0 0) := d4.cell 4
                have x5 : W8.cell? ⟨w.heap.size, 5, none⟩ = some (.slice none 0 0) := d4.cell 5
                have y_0 : W8.cell? ⟨(w.heap.size + 1), 0, none⟩ = some (.int .i64 0) := d5.cell 0
                have y_1 : W8.cell? ⟨(w.heap.size + 1), 1, none⟩ = some (.slice none 0 0) := d5.cell 1
                have y_2 : W8.cell? ⟨(w.heap.size + 1), 2, none⟩ = some (.slice none 0 0) := d5.cell 2
                have f0 := d4.frozen 0
                have f1 := d4.frozen 1
                have f2 := d4.frozen 2
                have f3 := d4.frozen 3
                have f4 := d4.frozen 4
                have f5 := d4.frozen 5
                have e0 := d5.frozen 0
                have e1 := d5.frozen 1
                have e2 := d5.frozen 2
                go_wp2_with fail
                clear x0 x1 x2 x3 x4 x5 y_0 y_1 y_2
                have dB : Blk ((((((W8.setCell ⟨w.heap.size, 0, none⟩ (.int .i64 0)).setCell ⟨w.heap.size, 1, none⟩ (.int .i64 0)).setCell ⟨w.heap.size, 2, none⟩ (.int .i64 0)).setCell ⟨w.heap.size, 3, none⟩ (.slice none 0 0)).setCell ⟨w.heap.size, 4, none⟩ (.slice none 0 0)).setCell ⟨w.heap.size, 5, none⟩ (.slice none 0 0)) w.heap.size 32 #[.int .i64 0, .int .i64 0, .int .i64 0, .slice none 0 0, .slice none 0 0, .slice none 0 0] := fm_set d4 (.int .i64 0) (.int .i64 0) (.int .i64 0) (.slice none 0 0) (.slice none 0 0) (.slice none 0 0)
                have yS : ∀ (lo : Nat) (w0 : World), Below lo w0 W8 → lo ≤ w.heap.size → Below lo w0 ((((((W8.setCell ⟨w.heap.size, 0, none⟩ (.int .i64 0)).setCell ⟨w.heap.size, 1, none⟩ (.int .i64 0)).setCell ⟨w.heap.size, 2, none⟩ (.int .i64 0)).setCell ⟨w.heap.size, 3, none⟩ (.slice none 0 0)).setCell ⟨w.heap.size, 4, none⟩ (.slice none 0 0)).setCell ⟨w.heap.size, 5, none⟩ (.slice none 0 0)) := fun lo w0 h hl => fm_below h hl (.int .i64 0) (.int .i64 0) (.int .i64 0) (.slice none 0 0) (.slice none 0 0) (.slice none 0 0)
                have kS : ∀ k, k ≠ w.heap.size → ((((((W8.setCell ⟨w.heap.size, 0, none⟩ (.int .i64 0)).setCell ⟨w.heap.size, 1, none⟩ (.int .i64 0)).setCell ⟨w.heap.size, 2, none⟩ (.int .i64 0)).setCell ⟨w.heap.size, 3, none⟩ (.slice none 0 0)).setCell ⟨w.heap.size, 4, none⟩ (.slice none 0 0)).setCell ⟨w.heap.size, 5, none⟩ (.slice none 0 0)).heap[k]? = W8.heap[k]? := fun k hk => fm_kept (.int .i64 0) (.int .i64 0) (.int .i64 0) (.slice none 0 0) (.slice none 0 0) (.slice none 0 0) k hk
                generalize (((((W8.setCell ⟨w.heap.size, 0, none⟩ (.int .i64 0)).setCell ⟨w.heap.size, 1, none⟩ (.int .i64 0)).setCell ⟨w.heap.size, 2, none⟩ (.int .i64 0)).setCell ⟨w.heap.size, 3, none⟩ (.slice none 0 0)).setCell ⟨w.heap.size, 4, none⟩ (.slice none 0 0)).setCell ⟨w.heap.size, 5, none⟩ (.slice none 0 0) = wf at *
                have c5_ : Blk wf (w.heap.size + 1) 59 #[.int .i64 0, .slice none 0 0, .slice none 0 0] := (kS _ (by omega)).trans d5
                have dB2 : Blk (((wf.setCell ⟨(w.heap.size + 1), 0, none⟩ (.int .i64 0)).setCell ⟨(w.heap.size + 1), 1, none⟩ (.slice none 0 0)).setCell ⟨(w.heap.size + 1), 2, none⟩ (.slice none 0 0)) (w.heap.size + 1) 59 #[.int .i64 0, .slice none 0 0, .slice none 0 0] := (((c5_).set_ 0 (.int .i64 0)).set_ 1 (.slice none 0 0)).set_ 2 (.slice none 0 0)
                have yS2 : ∀ (lo : Nat) (w0 : World), Below lo w0 wf → lo ≤ (w.heap.size + 1) → Below lo w0 (((wf.setCell ⟨(w.heap.size + 1), 0, none⟩ (.int .i64 0)).setCell ⟨(w.heap.size + 1), 1, none⟩ (.slice none 0 0)).setCell ⟨(w.heap.size + 1), 2, none⟩ (.slice none 0 0)) := fun lo w0 h hl => (((h.setCell hl _).setCell hl _).setCell hl _)
                have kS2 : ∀ k, k ≠ (w.heap.size + 1) → (((wf.setCell ⟨(w.heap.size + 1), 0, none⟩ (.int .i64 0)).setCell ⟨(w.heap.size + 1), 1, none⟩ (.slice none 0 0)).setCell ⟨(w.heap.size + 1), 2, none⟩ (.slice none 0 0)).heap[k]? = wf.heap[k]? := fun k hk => ((Below.heap_setCell _ _ _ _ hk).trans ((Below.heap_setCell _ _ _ _ hk).trans (Below.heap_setCell _ _ _ _ hk)))
                generalize ((wf.setCell ⟨(w.heap.size + 1), 0, none⟩ (.int .i64 0)).setCell ⟨(w.heap.size + 1), 1, none⟩ (.slice none 0 0)).setCell ⟨(w.heap.size + 1), 2, none⟩ (.slice none 0 0) = wf2 at *
                have c4_ : Blk wf2 w.heap.size 32 #[.int .i64 0, .int .i64 0, .int .i64 0, .slice none 0 0, .slice none 0 0, .slice none 0 0] := (kS2 _ (by omega)).trans dB
                have x0 : wf2.cell? ⟨w.heap.size, 0, none⟩ = some (.int .i64 0) := c4_.cell 0
                have x1 : wf2.cell? ⟨w.heap.size, 1, none⟩ = some (.int .i64 0) := c4_.cell 1
                have x2 : wf2.cell? ⟨w.heap.size, 2, none⟩ = some (.int .i64 0) := c4_.cell 2
                have x3 : wf2.cell? ⟨w.heap.size, 3, none⟩ = some (.slice none 0 0) := c4_.cell 3
                have x4 : wf2.cell? ⟨w.heap.size, 4, none⟩ = some (.slice none 0 0) := c4_.cell 4
                have x5 : wf2.cell? ⟨w.heap.size, 5, none⟩ = some (.slice none 0 0) := c4_.cell 5
                have y_0 : wf2.cell? ⟨(w.heap.size + 1), 0, none⟩ = some (.int .i64 0) := dB2.cell 0
                have y_1 : wf2.cell? ⟨(w.heap.size + 1), 1, none⟩ = some (.slice none 0 0) := dB2.cell 1
                have y_2 : wf2.cell? ⟨(w.heap.size + 1), 2, none⟩ = some (.slice none 0 0) := dB2.cell 2
                exact bodyPost_ret (v := .tuple #[.agg #[.int .i64 0, .int .i64 0, .int .i64 0, .slice none 0 0, .slice none 0 0, .slice none 0 0], .agg #[.int .i64 0, .slice none 0 0, .slice none 0 0], .int .i64 9]) (by simp [results, Try.results81, go_sem, x0, x1, x2, x3, x4, x5, y_0, y_1, y_2]) rfl (newFmS_zero (yS2 _ _ (yS _ _ y8 (by omega)) (by omega)))
              · have h11 : (X3 == (t.xs.length : Int)) = true := by simpa using h10
                obtain rfl : res = (Fm.zero, 9) := by rw [HRES2.out, A1.out, HA.out, ← HBF.out, A2.out, HON.out, h9, decide_eq_true h10]; rfl
                clear h10
                have HC : Hid (∀ dz oz, Calls Try.prog 96 #[.pointer (some ⟨g, 0, none⟩), .pointer (some ⟨gf, 0, none⟩)] (grow (redrawn wr dz) oz) fun e w' => e = .returned (.bool true) ∧ ∃ p : Regrown, w' = grow (redrawn wr p.d) p.os) :=
                  fun dz oz => Calls.regrown_of ((l27Is_any g gf sy st A0 n0 k0 _ _ _ _ _ _ ts' _ _ _ us' _ _ _ (List.replicate us'.length 0) _ (HM4.out.below (below_regrown wr dz oz)) (HFA.out.below (below_regrown wr dz oz)) (HOO.out.1.sii.below (below_regrown wr dz oz)) (HOO.out.2.1.sii.below (below_regrown wr dz oz)) (HOC.out.below (below_regrown wr dz oz)) hle hle' hle' HRW.out HRR.out s1 s2 s3 s4).mono fun _ _ ⟨he, hw⟩ => ⟨by rw [he, A2.out], hw⟩)
                go_wp2_with fail
                have m1 := cell_regrown v1
                have m2 := cell_regrown v2
                have m3 := cell_regrown v3
                have n0_ := cell_regrown hc
                refine wp_region_quiet_below (by kernel_rfl) (by kernel_rfl) ?_
                repeat (go_big_quiet_step ((go_at_call 96; exact HC.out _ _)))
                refine wpQuiet_nil ?_
                intro _ hw'
                obtain ⟨⟨dq, osq⟩, hw''⟩ := hw'
                subst hw''
                have z8 := below_regrown wr dq osq
                clear m1 m2 m3 n0_
                generalize grow (redrawn wr dq) osq = W8 at *
                have d4 := d4.below' z8
                have d5 := d5.below' z8
                have y8 := y4.trans (z8.mono y4.size)
                have x0 : W8.cell? ⟨w.heap.size, 0, none⟩ = some (.int .i64 0) := d4.cell 0
                have x1 : W8.cell? ⟨w.heap.size, 1, none⟩ = some (.int .i64 0) := d4.cell 1
                have x2 : W8.cell? ⟨w.heap.size, 2, none⟩ = some (.int .i64 0) := d4.cell 2
                have x3 : W8.cell? ⟨w.heap.size, 3, none⟩ = some (.slice none 0 0) := d4.cell 3
                have x4 : W8.cell? ⟨w.heap.size, 4, none⟩ = some (.slice none 0 0) := d4.cell 4
                have x5 : W8.cell? ⟨w.heap.size, 5, none⟩ = some (.slice none 0 0) := d4.cell 5
                have y_0 : W8.cell? ⟨(w.heap.size + 1), 0, none⟩ = some (.int .i64 0) := d5.cell 0
                have y_1 : W8.cell? ⟨(w.heap.size + 1), 1, none⟩ = some (.slice none 0 0) := d5.cell 1
                have y_2 : W8.cell? ⟨(w.heap.size + 1), 2, none⟩ = some (.slice none 0 0) := d5.cell 2
                have f0 := d4.frozen 0
                have f1 := d4.frozen 1
                have f2 := d4.frozen 2
                have f3 := d4.frozen 3
                have f4 := d4.frozen 4
                have f5 := d4.frozen 5
                have e0 := d5.frozen 0
                have e1 := d5.frozen 1
                have e2 := d5.frozen 2
                go_wp2_with fail
                clear x0 x1 x2 x3 x4 x5 y_0 y_1 y_2
                have dB : Blk ((((((W8.setCell ⟨w.heap.size, 0, none⟩ (.int .i64 0)).setCell ⟨w.heap.size, 1, none⟩ (.int .i64 0)).setCell ⟨w.heap.size, 2, none⟩ (.int .i64 0)).setCell ⟨w.heap.size, 3, none⟩ (.slice none 0 0)).setCell ⟨w.heap.size, 4, none⟩ (.slice none 0 0)).setCell ⟨w.heap.size, 5, none⟩ (.slice none 0 0)) w.heap.size 32 #[.int .i64 0, .int .i64 0, .int .i64 0, .slice none 0 0, .slice none 0 0, .slice none 0 0] := fm_set d4 (.int .i64 0) (.int .i64 0) (.int .i64 0) (.slice none 0 0) (.slice none 0 0) (.slice none 0 0)
                have yS : ∀ (lo : Nat) (w0 : World), Below lo w0 W8 → lo ≤ w.heap.size → Below lo w0 ((((((W8.setCell ⟨w.heap.size, 0, none⟩ (.int .i64 0)).setCell ⟨w.heap.size, 1, none⟩ (.int .i64 0)).setCell ⟨w.heap.size, 2, none⟩ (.int .i64 0)).setCell ⟨w.heap.size, 3, none⟩ (.slice none 0 0)).setCell ⟨w.heap.size, 4, none⟩ (.slice none 0 0)).setCell ⟨w.heap.size, 5, none⟩ (.slice none 0 0)) := fun lo w0 h hl => fm_below h hl (.int .i64 0) (.int .i64 0) (.int .i64 0) (.slice none 0 0) (.slice none 0 0) (.slice none 0 0)
                have kS : ∀ k, k ≠ w.heap.size → ((((((W8.setCell ⟨w.heap.size, 0, none⟩ (.int .i64 0)).setCell ⟨w.heap.size, 1, none⟩ (.int .i64 0)).setCell ⟨w.heap.size, 2, none⟩ (.int .i64 0)).setCell ⟨w.heap.size, 3, none⟩ (.slice none 0 0)).setCell ⟨w.heap.size, 4, none⟩ (.slice none 0 0)).setCell ⟨w.heap.size, 5, none⟩ (.slice none 0 0)).heap[k]? = W8.heap[k]? := fun k hk => fm_kept (.int .i64 0) (.int .i64 0) (.int .i64 0) (.slice none 0 0) (.slice none 0 0) (.slice none 0 0) k hk
                generalize (((((W8.setCell ⟨w.heap.size, 0, none⟩ (.int .i64 0)).setCell ⟨w.heap.size, 1, none⟩ (.int .i64 0)).setCell ⟨w.heap.size, 2, none⟩ (.int .i64 0)).setCell ⟨w.heap.size, 3, none⟩ (.slice none 0 0)).setCell ⟨w.heap.size, 4, none⟩ (.slice none 0 0)).setCell ⟨w.heap.size, 5, none⟩ (.slice none 0 0) = wf at *
                have c5_ : Blk wf (w.heap.size + 1) 59 #[.int .i64 0, .slice none 0 0, .slice none 0 0] := (kS _ (by omega)).trans d5
                have dB2 : Blk (((wf.setCell ⟨(w.heap.size + 1), 0, none⟩ (.int .i64 0)).setCell ⟨(w.heap.size + 1), 1, none⟩ (.slice none 0 0)).setCell ⟨(w.heap.size + 1), 2, none⟩ (.slice none 0 0)) (w.heap.size + 1) 59 #[.int .i64 0, .slice none 0 0, .slice none 0 0] := (((c5_).set_ 0 (.int .i64 0)).set_ 1 (.slice none 0 0)).set_ 2 (.slice none 0 0)
                have yS2 : ∀ (lo : Nat) (w0 : World), Below lo w0 wf → lo ≤ (w.heap.size + 1) → Below lo w0 (((wf.setCell ⟨(w.heap.size + 1), 0, none⟩ (.int .i64 0)).setCell ⟨(w.heap.size + 1), 1, none⟩ (.slice none 0 0)).setCell ⟨(w.heap.size + 1), 2, none⟩ (.slice none 0 0)) := fun lo w0 h hl => (((h.setCell hl _).setCell hl _).setCell hl _)
                have kS2 : ∀ k, k ≠ (w.heap.size + 1) → (((wf.setCell ⟨(w.heap.size + 1), 0, none⟩ (.int .i64 0)).setCell ⟨(w.heap.size + 1), 1, none⟩ (.slice none 0 0)).setCell ⟨(w.heap.size + 1), 2, none⟩ (.slice none 0 0)).heap[k]? = wf.heap[k]? := fun k hk => ((Below.heap_setCell _ _ _ _ hk).trans ((Below.heap_setCell _ _ _ _ hk).trans (Below.heap_setCell _ _ _ _ hk)))
                generalize ((wf.setCell ⟨(w.heap.size + 1), 0, none⟩ (.int .i64 0)).setCell ⟨(w.heap.size + 1), 1, none⟩ (.slice none 0 0)).setCell ⟨(w.heap.size + 1), 2, none⟩ (.slice none 0 0) = wf2 at *
                have c4_ : Blk wf2 w.heap.size 32 #[.int .i64 0, .int .i64 0, .int .i64 0, .slice none 0 0, .slice none 0 0, .slice none 0 0] := (kS2 _ (by omega)).trans dB
                have x0 : wf2.cell? ⟨w.heap.size, 0, none⟩ = some (.int .i64 0) := c4_.cell 0
                have x1 : wf2.cell? ⟨w.heap.size, 1, none⟩ = some (.int .i64 0) := c4_.cell 1
                have x2 : wf2.cell? ⟨w.heap.size, 2, none⟩ = some (.int .i64 0) := c4_.cell 2
                have x3 : wf2.cell? ⟨w.heap.size, 3, none⟩ = some (.slice none 0 0) := c4_.cell 3
                have x4 : wf2.cell? ⟨w.heap.size, 4, none⟩ = some (.slice none 0 0) := c4_.cell 4
                have x5 : wf2.cell? ⟨w.heap.size, 5, none⟩ = some (.slice none 0 0) := c4_.cell 5
                have y_0 : wf2.cell? ⟨(w.heap.size + 1), 0, none⟩ = some (.int .i64 0) := dB2.cell 0
                have y_1 : wf2.cell? ⟨(w.heap.size + 1), 1, none⟩ = some (.slice none 0 0) := dB2.cell 1
                have y_2 : wf2.cell? ⟨(w.heap.size + 1), 2, none⟩ = some (.slice none 0 0) := dB2.cell 2
                exact bodyPost_ret (v := .tuple #[.agg #[.int .i64 0, .int .i64 0, .int .i64 0, .slice none 0 0, .slice none 0 0, .slice none 0 0], .agg #[.int .i64 0, .slice none 0 0, .slice none 0 0], .int .i64 9]) (by simp [results, Try.results81, go_sem, x0, x1, x2, x3, x4, x5, y_0, y_1, y_2]) rfl (newFmS_zero (yS2 _ _ (yS _ _ y8 (by omega)) (by omega)))
              · have h11 : (X3 == (t.xs.length : Int)) = false := by simpa using h10
                obtain rfl : res = (⟨cf.q, (hN : Int), X3, nums ts', nums us', List.replicate us'.length 0⟩, 0) := by rw [HRES2.out, A1.out, HA.out, ← HBF.out, A2.out, HON.out, h9, decide_eq_false h10]; rfl
                clear h10
                have HC : Hid (∀ dz oz, Calls Try.prog 96 #[.pointer (some ⟨g, 0, none⟩), .pointer (some ⟨gf, 0, none⟩)] (grow (redrawn wr dz) oz) fun e w' => e = .returned (.bool true) ∧ ∃ p : Regrown, w' = grow (redrawn wr p.d) p.os) :=
                  fun dz oz => Calls.regrown_of ((l27Is_any g gf sy st A0 n0 k0 _ _ _ _ _ _ ts' _ _ _ us' _ _ _ (List.replicate us'.length 0) _ (HM4.out.below (below_regrown wr dz oz)) (HFA.out.below (below_regrown wr dz oz)) (HOO.out.1.sii.below (below_regrown wr dz oz)) (HOO.out.2.1.sii.below (below_regrown wr dz oz)) (HOC.out.below (below_regrown wr dz oz)) hle hle' hle' HRW.out HRR.out s1 s2 s3 s4).mono fun _ _ ⟨he, hw⟩ => ⟨by rw [he, A2.out], hw⟩)
                go_wp2_with fail
                have m1 := cell_regrown v1
                have m2 := cell_regrown v2
                have m3 := cell_regrown v3
                have n0_ := cell_regrown hc
                refine wp_region_quiet_below (by kernel_rfl) (by kernel_rfl) ?_
                repeat (go_big_quiet_step ((go_at_call 96; exact HC.out _ _)))
                refine wpQuiet_nil ?_
                intro _ hw'
                obtain ⟨⟨dq, osq⟩, hw''⟩ := hw'
                subst hw''
                have z8 := below_regrown wr dq osq
                clear m1 m2 m3 n0_
                generalize grow (redrawn wr dq) osq = W8 at *
                have d4 := d4.below' z8
                have d5 := d5.below' z8
                have y8 := y4.trans (z8.mono y4.size)
                have hz8 := z8.size
                have z8d : Below W8.heap.size W8 W8.drew := below_drewN (Below.refl _ _) 1
                have d4c := d4.below' z8d
                have d5c := d5.below' z8d
                have hgf := (HBQ.out.below' z8).below' z8d
                have hg5 := (HB5r.out.below' z8).below' z8d
                have hOc := (HOO.out.below z8).below z8d
                have y8d := y8.trans (z8d.mono y8.size)
                have hlo : w.heap.size ≤ W5.heap.size := y5.size
                have hbl5 := b5.lt
                have hgw5 := z5.size
                have g5n : g5 ≠ w.heap.size := by omega
                have g5m : g5 ≠ w.heap.size + 1 := by omega
                have gfn : gf ≠ w.heap.size := by omega
                have gfm : gf ≠ w.heap.size + 1 := by omega
                clear hbl5 hgw5
                go_upto_region 18 with fail
                clear v0 v1 v2 v3 v4 v5 hc
                refine wp_region_noPanic ?_
                refine wp_region_held_drew (S := (fun w' => w'.cell? ⟨gf, 0, none⟩ = some (.int .i64 cf.q) ∧ w'.cell? ⟨gf, 1, none⟩ = some (.int .i64 (hN : Int)) ∧ w'.cell? ⟨gf, 2, none⟩ = some (.int .i64 X3) ∧ w'.cell? ⟨gf, 3, none⟩ = some (.slice (some ⟨bb, off, none⟩) ts'.length c') ∧ w'.cell? ⟨gf, 4, none⟩ = some (.slice B' us'.length d') ∧ w'.cell? ⟨gf, 5, none⟩ = some (.slice C' us'.length k') ∧ w'.cell? ⟨g5, 0, none⟩ = some (.int .i64 cf.q) ∧ w'.cell? ⟨g5, 1, none⟩ = some (.slice L5 cf.xs.length aL) ∧ w'.cell? ⟨g5, 2, none⟩ = some (.slice R5 cf.ys.length dR))) (by kernel_rfl) ?_ (fun hHeld => ?_)
                · exact ⟨hgf.cell 0, hgf.cell 1, hgf.cell 2, hgf.cell 3, hgf.cell 4, hgf.cell 5, hg5.cell 0, hg5.cell 1, hg5.cell 2⟩
                generalize W8.drew = Wx at *
                refine wpAnyH_take (i := 0) (v := ?_) rfl (by kernel_rfl) (by kernel_rfl) (by kernel_rfl) (fun _ _ _ h => h) (Or.inl ⟨by rfl, ?_⟩) (by assumption) ?_
                rotate_left
                · intro w hSw
                  try dsimp only at hSw
                  obtain ⟨v0, v1, v2, v3, v4, v5, u0, u1, u2⟩ := hSw
                  go_simp
                  try with_reducible rfl
                try simp only [Act.put, List.setIfInBounds_toArray]
                refine wpAnyH_take (i := 1) (v := ?_) rfl (by kernel_rfl) (by kernel_rfl) (by kernel_rfl) (fun _ _ _ h => h) (Or.inl ⟨by rfl, ?_⟩) (by assumption) ?_
                rotate_left
                · intro w hSw
                  try dsimp only at hSw
                  obtain ⟨v0, v1, v2, v3, v4, v5, u0, u1, u2⟩ := hSw
                  go_simp
                  try with_reducible rfl
                try simp only [Act.put]
                refine wpAnyH_ready (rs := [2]) (by kernel_rfl) (by simp) ?_
                refine AllReadyH.cons rfl (fun K hK => ?_) ?_
                · skip
                  have x0 : Wx.cell? ⟨w.heap.size, 0, none⟩ = some (.int .i64 0) := d4c.cell 0
                  have x1 : Wx.cell? ⟨w.heap.size, 1, none⟩ = some (.int .i64 0) := d4c.cell 1
                  have x2 : Wx.cell? ⟨w.heap.size, 2, none⟩ = some (.int .i64 0) := d4c.cell 2
                  have x3 : Wx.cell? ⟨w.heap.size, 3, none⟩ = some (.slice none 0 0) := d4c.cell 3
                  have x4 : Wx.cell? ⟨w.heap.size, 4, none⟩ = some (.slice none 0 0) := d4c.cell 4
                  have x5 : Wx.cell? ⟨w.heap.size, 5, none⟩ = some (.slice none 0 0) := d4c.cell 5
                  have f0 := d4c.frozen 0
                  have f1 := d4c.frozen 1
                  have f2 := d4c.frozen 2
                  have f3 := d4c.frozen 3
                  have f4 := d4c.frozen 4
                  have f5 := d4c.frozen 5
                  go_simp
                  clear x0 x1 x2 x3 x4 x5 f0 f1 f2 f3 f4 f5
                  have dB : Blk ((((((Wx.setCell ⟨w.heap.size, 0, none⟩ (.int .i64 cf.q)).setCell ⟨w.heap.size, 1, none⟩ (.int .i64 (hN : Int))).setCell ⟨w.heap.size, 2, none⟩ (.int .i64 X3)).setCell ⟨w.heap.size, 3, none⟩ (.slice (some ⟨bb, off, none⟩) ts'.length c')).setCell ⟨w.heap.size, 4, none⟩ (.slice B' us'.length d')).setCell ⟨w.heap.size, 5, none⟩ (.slice C' us'.length k')) w.heap.size 32 #[.int .i64 cf.q, .int .i64 (hN : Int), .int .i64 X3, .slice (some ⟨bb, off, none⟩) ts'.length c', .slice B' us'.length d', .slice C' us'.length k'] := fm_set d4c (.int .i64 cf.q) (.int .i64 (hN : Int)) (.int .i64 X3) (.slice (some ⟨bb, off, none⟩) ts'.length c') (.slice B' us'.length d') (.slice C' us'.length k')
                  have yS : ∀ (lo : Nat) (w0 : World), Below lo w0 Wx → lo ≤ w.heap.size → Below lo w0 ((((((Wx.setCell ⟨w.heap.size, 0, none⟩ (.int .i64 cf.q)).setCell ⟨w.heap.size, 1, none⟩ (.int .i64 (hN : Int))).setCell ⟨w.heap.size, 2, none⟩ (.int .i64 X3)).setCell ⟨w.heap.size, 3, none⟩ (.slice (some ⟨bb, off, none⟩) ts'.length c')).setCell ⟨w.heap.size, 4, none⟩ (.slice B' us'.length d')).setCell ⟨w.heap.size, 5, none⟩ (.slice C' us'.length k')) := fun lo w0 h hl => fm_below h hl (.int .i64 cf.q) (.int .i64 (hN : Int)) (.int .i64 X3) (.slice (some ⟨bb, off, none⟩) ts'.length c') (.slice B' us'.length d') (.slice C' us'.length k')
                  have kS : ∀ k, k ≠ w.heap.size → ((((((Wx.setCell ⟨w.heap.size, 0, none⟩ (.int .i64 cf.q)).setCell ⟨w.heap.size, 1, none⟩ (.int .i64 (hN : Int))).setCell ⟨w.heap.size, 2, none⟩ (.int .i64 X3)).setCell ⟨w.heap.size, 3, none⟩ (.slice (some ⟨bb, off, none⟩) ts'.length c')).setCell ⟨w.heap.size, 4, none⟩ (.slice B' us'.length d')).setCell ⟨w.heap.size, 5, none⟩ (.slice C' us'.length k')).heap[k]? = Wx.heap[k]? := fun k hk => fm_kept (.int .i64 cf.q) (.int .i64 (hN : Int)) (.int .i64 X3) (.slice (some ⟨bb, off, none⟩) ts'.length c') (.slice B' us'.length d') (.slice C' us'.length k') k hk
                  generalize (((((Wx.setCell ⟨w.heap.size, 0, none⟩ (.int .i64 cf.q)).setCell ⟨w.heap.size, 1, none⟩ (.int .i64 (hN : Int))).setCell ⟨w.heap.size, 2, none⟩ (.int .i64 X3)).setCell ⟨w.heap.size, 3, none⟩ (.slice (some ⟨bb, off, none⟩) ts'.length c')).setCell ⟨w.heap.size, 4, none⟩ (.slice B' us'.length d')).setCell ⟨w.heap.size, 5, none⟩ (.slice C' us'.length k') = Wy at *
                  have d5d := d5c.keptH (kS (w.heap.size + 1) (by omega))
                  have hgfd := hgf.keptH (kS gf gfn)
                  have hg5d := hg5.keptH (kS g5 g5n)
                  have hOd := hOc.far d4c (by decide) (by decide) kS
                  have yd := yS _ _ y8d (Nat.le_refl _)
                  clear yS
                  refine hK.out _ _ ?_ (fun hHeld => ?_)
                  · first
                      | exact ⟨hgfe.cell 0, hgfe.cell 1, hgfe.cell 2, hgfe.cell 3, hgfe.cell 4, hgfe.cell 5, hg5e.cell 0, hg5e.cell 1, hg5e.cell 2⟩
                      | exact ⟨hgfd.cell 0, hgfd.cell 1, hgfd.cell 2, hgfd.cell 3, hgfd.cell 4, hgfd.cell 5, hg5d.cell 0, hg5d.cell 1, hg5d.cell 2⟩
                  clear hK K
                  try simp only [Act.put, List.setIfInBounds_toArray]
                  refine wpAnyH_ready (rs := [3]) (by kernel_rfl) (by simp) ?_
                  refine AllReadyH.cons rfl (fun K hK => ?_) ?_
                  · skip
                    have x0 : Wy.cell? ⟨(w.heap.size + 1), 0, none⟩ = some (.int .i64 0) := d5d.cell 0
                    have x1 : Wy.cell? ⟨(w.heap.size + 1), 1, none⟩ = some (.slice none 0 0) := d5d.cell 1
                    have x2 : Wy.cell? ⟨(w.heap.size + 1), 2, none⟩ = some (.slice none 0 0) := d5d.cell 2
                    have f0 := d5d.frozen 0
                    have f1 := d5d.frozen 1
                    have f2 := d5d.frozen 2
                    go_simp
                    clear x0 x1 x2 f0 f1 f2
                    have dB2 : Blk (((Wy.setCell ⟨(w.heap.size + 1), 0, none⟩ (.int .i64 cf.q)).setCell ⟨(w.heap.size + 1), 1, none⟩ (.slice L5 cf.xs.length aL)).setCell ⟨(w.heap.size + 1), 2, none⟩ (.slice R5 cf.ys.length dR)) (w.heap.size + 1) 59 #[.int .i64 cf.q, .slice L5 cf.xs.length aL, .slice R5 cf.ys.length dR] := (((d5d).set_ 0 (.int .i64 cf.q)).set_ 1 (.slice L5 cf.xs.length aL)).set_ 2 (.slice R5 cf.ys.length dR)
                    have yS2 : ∀ (lo : Nat) (w0 : World), Below lo w0 Wy → lo ≤ (w.heap.size + 1) → Below lo w0 (((Wy.setCell ⟨(w.heap.size + 1), 0, none⟩ (.int .i64 cf.q)).setCell ⟨(w.heap.size + 1), 1, none⟩ (.slice L5 cf.xs.length aL)).setCell ⟨(w.heap.size + 1), 2, none⟩ (.slice R5 cf.ys.length dR)) := fun lo w0 h hl => (((h.setCell hl _).setCell hl _).setCell hl _)
                    have kS2 : ∀ k, k ≠ (w.heap.size + 1) → (((Wy.setCell ⟨(w.heap.size + 1), 0, none⟩ (.int .i64 cf.q)).setCell ⟨(w.heap.size + 1), 1, none⟩ (.slice L5 cf.xs.length aL)).setCell ⟨(w.heap.size + 1), 2, none⟩ (.slice R5 cf.ys.length dR)).heap[k]? = Wy.heap[k]? := fun k hk => ((Below.heap_setCell _ _ _ _ hk).trans ((Below.heap_setCell _ _ _ _ hk).trans (Below.heap_setCell _ _ _ _ hk)))
                    generalize ((Wy.setCell ⟨(w.heap.size + 1), 0, none⟩ (.int .i64 cf.q)).setCell ⟨(w.heap.size + 1), 1, none⟩ (.slice L5 cf.xs.length aL)).setCell ⟨(w.heap.size + 1), 2, none⟩ (.slice R5 cf.ys.length dR) = wf at *
                    have dB1 : Blk wf w.heap.size 32 #[.int .i64 cf.q, .int .i64 (hN : Int), .int .i64 X3, .slice (some ⟨bb, off, none⟩) ts'.length c', .slice B' us'.length d', .slice C' us'.length k'] := (kS2 w.heap.size (by omega)).trans dB
                    have hOf := hOd.far d5d (by decide) (by decide) kS2
                    have yf := yS2 _ _ yd (by omega)
                    have hgfe := hgfd.keptH (kS2 gf gfm)
                    have hg5e := hg5d.keptH (kS2 g5 g5m)
                    refine hK.out _ _ ?_ (fun hHeld => ?_)
                    · first
                        | exact ⟨hgfe.cell 0, hgfe.cell 1, hgfe.cell 2, hgfe.cell 3, hgfe.cell 4, hgfe.cell 5, hg5e.cell 0, hg5e.cell 1, hg5e.cell 2⟩
                        | exact ⟨hgfd.cell 0, hgfd.cell 1, hgfd.cell 2, hgfd.cell 3, hgfd.cell 4, hgfd.cell 5, hg5d.cell 0, hg5d.cell 1, hg5d.cell 2⟩
                    clear hK K
                    try simp only [Act.put, List.setIfInBounds_toArray]
                    refine wpAnyH_ready (rs := [4]) (by kernel_rfl) (by simp) ?_
                    refine AllReadyH.cons rfl (fun K hK => ?_) ?_
                    · go_simp
                      refine hK.out _ _ ?_ (fun hHeld => ?_)
                      · first
                          | exact ⟨hgfe.cell 0, hgfe.cell 1, hgfe.cell 2, hgfe.cell 3, hgfe.cell 4, hgfe.cell 5, hg5e.cell 0, hg5e.cell 1, hg5e.cell 2⟩
                          | exact ⟨hgfd.cell 0, hgfd.cell 1, hgfd.cell 2, hgfd.cell 3, hgfd.cell 4, hgfd.cell 5, hg5d.cell 0, hg5d.cell 1, hg5d.cell 2⟩
                      clear hK K
                      try simp only [Act.put, List.setIfInBounds_toArray, List.set_cons_zero, List.set_cons_succ]
                      refine wpAnyH_done (by kernel_rfl) ?_ _
                      refine NoPanic.normal ?_
                      have x0 : wf.cell? ⟨w.heap.size, 0, none⟩ = some (.int .i64 cf.q) := dB1.cell 0
                      have x1 : wf.cell? ⟨w.heap.size, 1, none⟩ = some (.int .i64 (hN : Int)) := dB1.cell 1
                      have x2 : wf.cell? ⟨w.heap.size, 2, none⟩ = some (.int .i64 X3) := dB1.cell 2
                      have x3 : wf.cell? ⟨w.heap.size, 3, none⟩ = some (.slice (some ⟨bb, off, none⟩) ts'.length c') := dB1.cell 3
                      have x4 : wf.cell? ⟨w.heap.size, 4, none⟩ = some (.slice B' us'.length d') := dB1.cell 4
                      have x5 : wf.cell? ⟨w.heap.size, 5, none⟩ = some (.slice C' us'.length k') := dB1.cell 5
                      have y_0 : wf.cell? ⟨(w.heap.size + 1), 0, none⟩ = some (.int .i64 cf.q) := dB2.cell 0
                      have y_1 : wf.cell? ⟨(w.heap.size + 1), 1, none⟩ = some (.slice L5 cf.xs.length aL) := dB2.cell 1
                      have y_2 : wf.cell? ⟨(w.heap.size + 1), 2, none⟩ = some (.slice R5 cf.ys.length dR) := dB2.cell 2
                      have hres : NewFmS w (⟨cf.q, (hN : Int), X3, nums ts', nums us', List.replicate us'.length 0⟩, 0) (.returned (.tuple #[.agg #[.int .i64 cf.q, .int .i64 (hN : Int), .int .i64 X3, .slice (some ⟨bb, off, none⟩) ts'.length c', .slice B' us'.length d', .slice C' us'.length k'], .agg #[.int .i64 cf.q, .slice L5 cf.xs.length aL, .slice R5 cf.ys.length dR], .int .i64 0])) wf := ⟨some ⟨bb, off, none⟩, c', ts', B', d', us', C', k', cf.q, L5, _, aL, R5, _, dR, by rw [List.length_replicate], ⟨hOf.mono hlo, rfl, rfl⟩, yf⟩
                      go_wp2_with fail
                      exact bodyPost_ret (v := .tuple #[.agg #[.int .i64 cf.q, .int .i64 (hN : Int), .int .i64 X3, .slice (some ⟨bb, off, none⟩) ts'.length c', .slice B' us'.length d', .slice C' us'.length k'], .agg #[.int .i64 cf.q, .slice L5 cf.xs.length aL, .slice R5 cf.ys.length dR], .int .i64 0]) (by simp [results, Try.results81, go_sem, x0, x1, x2, x3, x4, x5, y_0, y_1, y_2]) rfl hres
                    exact AllReadyH.nil
                  exact AllReadyH.nil
                exact AllReadyH.nil
  all_goals
    have HB := Lib.hid (HFL.out (by first | omega | (have h5 := HT.out; have h6 := HRV.out; omega)))
    obtain rfl : res = (Fm.zero, 2) := by rw [HRES.out, HB.out]; rfl
    go_enter Try.func81, Try.ntmps81
    go_upto_region 1 with fail
    rw [← HW.out]
    go_wp2_with fail
    clear x0 x1 x2 x3 x4 x5 y_0 y_1 y_2
    have dB : Blk ((((((W.setCell ⟨w.heap.size, 0, none⟩ (.int .i64 0)).setCell ⟨w.heap.size, 1, none⟩ (.int .i64 0)).setCell ⟨w.heap.size, 2, none⟩ (.int .i64 0)).setCell ⟨w.heap.size, 3, none⟩ (.slice none 0 0)).setCell ⟨w.heap.size, 4, none⟩ (.slice none 0 0)).setCell ⟨w.heap.size, 5, none⟩ (.slice none 0 0)) w.heap.size 32 #[.int .i64 0, .int .i64 0, .int .i64 0, .slice none 0 0, .slice none 0 0, .slice none 0 0] := fm_set b4 (.int .i64 0) (.int .i64 0) (.int .i64 0) (.slice none 0 0) (.slice none 0 0) (.slice none 0 0)
    have yS : ∀ (lo : Nat) (w0 : World), Below lo w0 W → lo ≤ w.heap.size → Below lo w0 ((((((W.setCell ⟨w.heap.size, 0, none⟩ (.int .i64 0)).setCell ⟨w.heap.size, 1, none⟩ (.int .i64 0)).setCell ⟨w.heap.size, 2, none⟩ (.int .i64 0)).setCell ⟨w.heap.size, 3, none⟩ (.slice none 0 0)).setCell ⟨w.heap.size, 4, none⟩ (.slice none 0 0)).setCell ⟨w.heap.size, 5, none⟩ (.slice none 0 0)) := fun lo w0 h hl => fm_below h hl (.int .i64 0) (.int .i64 0) (.int .i64 0) (.slice none 0 0) (.slice none 0 0) (.slice none 0 0)
    have kS : ∀ k, k ≠ w.heap.size → ((((((W.setCell ⟨w.heap.size, 0, none⟩ (.int .i64 0)).setCell ⟨w.heap.size, 1, none⟩ (.int .i64 0)).setCell ⟨w.heap.size, 2, none⟩ (.int .i64 0)).setCell ⟨w.heap.size, 3, none⟩ (.slice none 0 0)).setCell ⟨w.heap.size, 4, none⟩ (.slice none 0 0)).setCell ⟨w.heap.size, 5, none⟩ (.slice none 0 0)).heap[k]? = W.heap[k]? := fun k hk => fm_kept (.int .i64 0) (.int .i64 0) (.int .i64 0) (.slice none 0 0) (.slice none 0 0) (.slice none 0 0) k hk
    generalize (((((W.setCell ⟨w.heap.size, 0, none⟩ (.int .i64 0)).setCell ⟨w.heap.size, 1, none⟩ (.int .i64 0)).setCell ⟨w.heap.size, 2, none⟩ (.int .i64 0)).setCell ⟨w.heap.size, 3, none⟩ (.slice none 0 0)).setCell ⟨w.heap.size, 4, none⟩ (.slice none 0 0)).setCell ⟨w.heap.size, 5, none⟩ (.slice none 0 0) = wf at *
    have c5_ : Blk wf (w.heap.size + 1) 59 #[.int .i64 0, .slice none 0 0, .slice none 0 0] := (kS _ (by omega)).trans b5
    have dB2 : Blk (((wf.setCell ⟨(w.heap.size + 1), 0, none⟩ (.int .i64 0)).setCell ⟨(w.heap.size + 1), 1, none⟩ (.slice none 0 0)).setCell ⟨(w.heap.size + 1), 2, none⟩ (.slice none 0 0)) (w.heap.size + 1) 59 #[.int .i64 0, .slice none 0 0, .slice none 0 0] := (((c5_).set_ 0 (.int .i64 0)).set_ 1 (.slice none 0 0)).set_ 2 (.slice none 0 0)
    have yS2 : ∀ (lo : Nat) (w0 : World), Below lo w0 wf → lo ≤ (w.heap.size + 1) → Below lo w0 (((wf.setCell ⟨(w.heap.size + 1), 0, none⟩ (.int .i64 0)).setCell ⟨(w.heap.size + 1), 1, none⟩ (.slice none 0 0)).setCell ⟨(w.heap.size + 1), 2, none⟩ (.slice none 0 0)) := fun lo w0 h hl => (((h.setCell hl _).setCell hl _).setCell hl _)
    have kS2 : ∀ k, k ≠ (w.heap.size + 1) → (((wf.setCell ⟨(w.heap.size + 1), 0, none⟩ (.int .i64 0)).setCell ⟨(w.heap.size + 1), 1, none⟩ (.slice none 0 0)).setCell ⟨(w.heap.size + 1), 2, none⟩ (.slice none 0 0)).heap[k]? = wf.heap[k]? := fun k hk => ((Below.heap_setCell _ _ _ _ hk).trans ((Below.heap_setCell _ _ _ _ hk).trans (Below.heap_setCell _ _ _ _ hk)))
    generalize ((wf.setCell ⟨(w.heap.size + 1), 0, none⟩ (.int .i64 0)).setCell ⟨(w.heap.size + 1), 1, none⟩ (.slice none 0 0)).setCell ⟨(w.heap.size + 1), 2, none⟩ (.slice none 0 0) = wf2 at *
    have c4_ : Blk wf2 w.heap.size 32 #[.int .i64 0, .int .i64 0, .int .i64 0, .slice none 0 0, .slice none 0 0, .slice none 0 0] := (kS2 _ (by omega)).trans dB
    have x0 : wf2.cell? ⟨w.heap.size, 0, none⟩ = some (.int .i64 0) := c4_.cell 0
    have x1 : wf2.cell? ⟨w.heap.size, 1, none⟩ = some (.int .i64 0) := c4_.cell 1
    have x2 : wf2.cell? ⟨w.heap.size, 2, none⟩ = some (.int .i64 0) := c4_.cell 2
    have x3 : wf2.cell? ⟨w.heap.size, 3, none⟩ = some (.slice none 0 0) := c4_.cell 3
    have x4 : wf2.cell? ⟨w.heap.size, 4, none⟩ = some (.slice none 0 0) := c4_.cell 4
    have x5 : wf2.cell? ⟨w.heap.size, 5, none⟩ = some (.slice none 0 0) := c4_.cell 5
    have y_0 : wf2.cell? ⟨(w.heap.size + 1), 0, none⟩ = some (.int .i64 0) := dB2.cell 0
    have y_1 : wf2.cell? ⟨(w.heap.size + 1), 1, none⟩ = some (.slice none 0 0) := dB2.cell 1
    have y_2 : wf2.cell? ⟨(w.heap.size + 1), 2, none⟩ = some (.slice none 0 0) := dB2.cell 2
    exact bodyPost_ret (v := .tuple #[.agg #[.int .i64 0, .int .i64 0, .int .i64 0, .slice none 0 0, .slice none 0 0, .slice none 0 0], .agg #[.int .i64 0, .slice none 0 0, .slice none 0 0], .int .i64 2]) (by simp [results, Try.results81, go_sem, x0, x1, x2, x3, x4, x5, y_0, y_1, y_2]) rfl (newFmS_zero (yS2 _ _ (yS _ _ y0 (by omega)) (by omega)))
end Go.Proofs.Ytpnkelmmfcmijaa
