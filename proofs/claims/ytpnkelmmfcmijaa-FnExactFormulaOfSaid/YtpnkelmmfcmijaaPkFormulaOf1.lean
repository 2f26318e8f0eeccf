/-
  Contracts of impl.bounceOf and impl.FormulaOf.
-/
import Derived.Test.YtpnkelmmfcmijaaPbHelpFB8
import Derived.Test.YtpnkelmmfcmijaaPkFormulaOf0
namespace Go.Proofs.Ytpnkelmmfcmijaa
open Go.RowKit Go.Sort

theorem SI.four {w : World} {A : Option Addr} {n : Nat} {xs : List Int} (h : SI w A n xs) (hn : 4 < n) : ∃ b off, A = some ⟨b, off, none⟩ ∧ b < w.heap.size ∧ w.cell? ⟨b, off, none⟩ = some (.int .i64 (xs.getD 0 0)) ∧ w.cell? ⟨b, off + 1, none⟩ = some (.int .i64 (xs.getD 1 0)) ∧ w.cell? ⟨b, off + 2, none⟩ = some (.int .i64 (xs.getD 2 0)) ∧ w.cell? ⟨b, off + 3, none⟩ = some (.int .i64 (xs.getD 3 0)) := by
  obtain ⟨b, off, rfl, hb, h0⟩ := h.at_ (k := 0) (by omega)
  obtain ⟨b', off', e, _, h1⟩ := h.at_ (k := 1) (by omega)
  cases e
  obtain ⟨b', off', e, _, h2⟩ := h.at_ (k := 2) (by omega)
  cases e
  obtain ⟨b', off', e, _, h3⟩ := h.at_ (k := 3) (by omega)
  cases e
  have hl := h.len
  refine ⟨b, off, rfl, hb, ?_, ?_, ?_, ?_⟩
  · rw [show off = off + 0 from rfl, h0]; congr 2; simp [List.getD_eq_getElem?_getD, List.getElem?_eq_getElem (show 0 < xs.length by omega)]
  · rw [h1]; congr 2; simp [List.getD_eq_getElem?_getD, List.getElem?_eq_getElem (show 1 < xs.length by omega)]
  · rw [h2]; congr 2; simp [List.getD_eq_getElem?_getD, List.getElem?_eq_getElem (show 2 < xs.length by omega)]
  · rw [h3]; congr 2; simp [List.getD_eq_getElem?_getD, List.getElem?_eq_getElem (show 3 < xs.length by omega)]

theorem SI.uponF {w : World} {A : Option Addr} {n c k : Nat} {xs : List Int} (h : SI w A n xs) (hk : k ≤ n) (hc : n ≤ c) : SI w (if c = k then A else A.map (fun x => x.add k)) (n - k) (xs.drop k) := by
  have h2 := Rd.from_ (k := k) h hk hc
  show Rd w 1 _ (n - k) (ints (xs.drop k))
  rw [← ints_drop]
  exact h2
def NewBnc (w : World) (r : Fm × Int) (e : Ending) (w' : World) : Prop :=
  ∃ x A c ts B d us C k D m l cq L a i R b j, e = .returned (.tuple #[.agg #[.int .i64 x, .int .i64 r.1.q, .int .i64 r.1.h, .int .i64 r.1.a, .slice A ts.length c, .slice B us.length d, .slice C r.1.O.length k, .slice D m l, .int .i64 cq, .slice L a i, .slice R b j], .int .i64 r.2]) ∧ FmR w' w.heap.size r.1 A c ts B d us C k ∧ Below w.heap.size w w'
/-- Behind a build of zero. -/
theorem newBnc_zero {w w' : World} {code : Int} (z : Below w.heap.size w w') : NewBnc w (Fm.zero, code) (.returned (.tuple #[.agg #[.int .i64 0, .int .i64 0, .int .i64 0, .int .i64 0, .slice none 0 0, .slice none 0 0, .slice none 0 0, .slice none 0 0, .int .i64 0, .slice none 0 0, .slice none 0 0], .int .i64 code])) w' :=
  ⟨0, none, 0, [], none, 0, [], none, 0, none, 0, 0, 0, none, 0, 0, none, 0, 0, rfl, FmR.zero _ _, z⟩

/-- What was built of the words so far. -/
def BncTo (w : World) (lo g : Nat) (q h a : Int) (r : Nat) (xss : List (List Int)) (i : Nat) (wr : World) : Prop :=
  ∃ A c ts B d us C k, Blk wr g 32 #[.int .i64 q, .int .i64 h, .int .i64 a, .slice A ts.length c, .slice B us.length d, .slice C r k] ∧ FmO wr lo A c ts B d us C k (List.replicate r 0) ∧ nums ts = evens (xss.take i) ∧ nums us = odds (xss.take i) ∧ Below w.heap.size w wr

set_option maxRecDepth 100000 in
set_option maxHeartbeats 8000000 in
theorem bounceOf_any (sy st : Int) (A0 : Option Addr) (n0 k0 : Nat) (rs : List R3) (q : Int) (A : Option Addr) (n c : Nat) (xs : List Int) (B : Option Addr) (m d : Nat) (ts : List Sl) (w : World) (hr : S3 w A0 n0 rs) (hx : SI w A n xs) (hy : SII w B m ts) (hn0 : n0 ≤ 1048576) (hn : n ≤ 1048576) (hm : m ≤ 1048576) (hns : ∀ t ∈ ts, t.xs.length ≤ 1048576) (hmb : machB sy st rs = true) (hcn : n ≤ c) :
    Calls Try.prog 87 #[.agg #[.int .i64 sy, .int .i64 st, .slice A0 n0 k0], .agg #[.int .i64 q, .slice A n c, .slice B m d]] w (NewBnc w (if bounceB q xs (nums ts) then bounceF sy st rs xs (nums ts) else (Fm.zero, 2))) := by
  obtain ⟨res, hres⟩ : ∃ res, res = (if bounceB q xs (nums ts) then bounceF sy st rs xs (nums ts) else (Fm.zero, 2)) := ⟨_, rfl⟩
  rw [← hres]
  have HRES := Lib.hid hres
  have HXL := Lib.hid hx.len
  have HTL : Hid ((nums ts).length = m) := Lib.hid (by rw [nums_len]; exact hy.len)
  clear hres
  have HMB := Lib.hid hmb
  have HNS := Lib.hid hns
  clear hmb hns
  obtain ⟨W, hW_⟩ : ∃ W, W = ((w.alloc (.cells #[.int .i64 sy, .int .i64 st, .slice A0 n0 k0] 37)).alloc (.cells #[.int .i64 q, .slice A n c, .slice B m d] 39)).alloc (.cells #[.int .i64 0, .int .i64 0, .int .i64 0, .int .i64 0, .slice none 0 0, .slice none 0 0, .slice none 0 0, .slice none 0 0, .int .i64 0, .slice none 0 0, .slice none 0 0] 131) := ⟨_, rfl⟩
  have s_1 : (w.alloc (.cells #[.int .i64 sy, .int .i64 st, .slice A0 n0 k0] 37)).heap.size = w.heap.size + 1 := by simp
  have s_2 : ((w.alloc (.cells #[.int .i64 sy, .int .i64 st, .slice A0 n0 k0] 37)).alloc (.cells #[.int .i64 q, .slice A n c, .slice B m d] 39)).heap.size = w.heap.size + 1 + 1 := by simp
  have b0 : Blk W w.heap.size 37 #[.int .i64 sy, .int .i64 st, .slice A0 n0 k0] := by rw [hW_]; exact ((Blk.new w _ _).alloc _).alloc _
  have b1 : Blk W (w.heap.size + 1) 39 #[.int .i64 q, .slice A n c, .slice B m d] := by rw [hW_, ← s_1]; exact (Blk.new _ _ _).alloc _
  have b2 : Blk W (w.heap.size + 1 + 1) 131 #[.int .i64 0, .int .i64 0, .int .i64 0, .int .i64 0, .slice none 0 0, .slice none 0 0, .slice none 0 0, .slice none 0 0, .int .i64 0, .slice none 0 0, .slice none 0 0] := by rw [hW_, ← s_2]; exact Blk.new _ _ _
  have y0 : Below w.heap.size w W := by rw [hW_]; exact (((Below.refl _ _).alloc (Nat.le_refl _) _).alloc (by simp) _).alloc (by simp; omega) _
  have HW := Lib.hid hW_
  clear hW_ s_1 s_2
  have v0 : W.cell? ⟨(w.heap.size + 1), 0, none⟩ = some (.int .i64 q) := b1.cell 0
  have v1 : W.cell? ⟨(w.heap.size + 1), 1, none⟩ = some (.slice A n c) := b1.cell 1
  have v2 : W.cell? ⟨(w.heap.size + 1), 2, none⟩ = some (.slice B m d) := b1.cell 2
  have x0 : W.cell? ⟨(w.heap.size + 1 + 1), 0, none⟩ = some (.int .i64 0) := b2.cell 0
  have x1 : W.cell? ⟨(w.heap.size + 1 + 1), 1, none⟩ = some (.int .i64 0) := b2.cell 1
  have x2 : W.cell? ⟨(w.heap.size + 1 + 1), 2, none⟩ = some (.int .i64 0) := b2.cell 2
  have x3 : W.cell? ⟨(w.heap.size + 1 + 1), 3, none⟩ = some (.int .i64 0) := b2.cell 3
  have x4 : W.cell? ⟨(w.heap.size + 1 + 1), 4, none⟩ = some (.slice none 0 0) := b2.cell 4
  have x5 : W.cell? ⟨(w.heap.size + 1 + 1), 5, none⟩ = some (.slice none 0 0) := b2.cell 5
  have x6 : W.cell? ⟨(w.heap.size + 1 + 1), 6, none⟩ = some (.slice none 0 0) := b2.cell 6
  have x7 : W.cell? ⟨(w.heap.size + 1 + 1), 7, none⟩ = some (.slice none 0 0) := b2.cell 7
  have x8 : W.cell? ⟨(w.heap.size + 1 + 1), 8, none⟩ = some (.int .i64 0) := b2.cell 8
  have x9 : W.cell? ⟨(w.heap.size + 1 + 1), 9, none⟩ = some (.slice none 0 0) := b2.cell 9
  have x10 : W.cell? ⟨(w.heap.size + 1 + 1), 10, none⟩ = some (.slice none 0 0) := b2.cell 10
  have f0 := b2.frozen 0
  have f1 := b2.frozen 1
  have f2 := b2.frozen 2
  have f3 := b2.frozen 3
  have f4 := b2.frozen 4
  have f5 := b2.frozen 5
  have f6 := b2.frozen 6
  have f7 := b2.frozen 7
  have f8 := b2.frozen 8
  have f9 := b2.frozen 9
  have f10 := b2.frozen 10
  have hcase : ((¬ q = 6) ∧ (q != 6) = true) ∨ (q = 6 ∧ (n : Int) - 4 < 1) ∨ (q = 6 ∧ 5 ≤ n ∧ 3 < (n : Int) - 4) ∨ (q = 6 ∧ 5 ≤ n ∧ n ≤ 7 ∧ ¬ (m : Int) = 2 * ((n : Int) - 4) + 1) ∨ (q = 6 ∧ 5 ≤ n ∧ n ≤ 7 ∧ m + 7 = 2 * n) := by
    by_cases hq : q = 6
    · omega
    · exact .inl ⟨hq, by simpa using hq⟩
  have HFL : (¬ (q = 6 ∧ 5 ≤ n ∧ n ≤ 7 ∧ m + 7 = 2 * n)) → bounceB q xs (nums ts) = false := by
    intro h
    unfold bounceB
    rw [HXL.out, HTL.out]
    rw [Bool.eq_false_iff]
    intro h2
    simp only [Bool.and_eq_true, decide_eq_true_eq] at h2
    exact h ⟨h2.1.1.1.1, h2.1.1.1.2, h2.1.1.2, h2.1.2⟩
  have HFL := Lib.hid HFL
  rcases hcase with ⟨h, h'⟩ | ⟨rfl, h⟩ | ⟨rfl, h, h'⟩ | ⟨rfl, h, h', h''⟩ | ⟨rfl, h, h', h''⟩
  rotate_right
  · obtain ⟨r, hnr⟩ : ∃ r, n = r + 4 := ⟨n - 4, by omega⟩
    have hr1 : 1 ≤ r := by omega
    have hr3 : r ≤ 3 := by omega
    have HNR := Lib.hid hnr
    have HMR : Hid (m = 2 * r + 1) := Lib.hid (by omega)
    obtain ⟨pb, po, rfl, hpb, hc0, hc1, hc2, hc3⟩ := (hx.below y0).four (by omega)
    have hpb0 : pb < w.heap.size := by
      obtain ⟨b', off', e, h1, _⟩ := hx.at_ (k := 0) (by omega)
      cases e; exact h1
    have HPB0 := Lib.hid hpb0
    clear hpb0
    obtain ⟨X0, hX0⟩ : ∃ x, x = xs.getD 0 0 := ⟨_, rfl⟩
    obtain ⟨X1, hX1⟩ : ∃ x, x = xs.getD 1 0 := ⟨_, rfl⟩
    obtain ⟨X2, hX2⟩ : ∃ x, x = xs.getD 2 0 := ⟨_, rfl⟩
    obtain ⟨X3, hX3⟩ : ∃ x, x = xs.getD 3 0 := ⟨_, rfl⟩
    rw [← hX0] at hc0
    rw [← hX1] at hc1
    rw [← hX2] at hc2
    rw [← hX3] at hc3
    have HRES2 : Hid (res = if inB X0 0 20000 then (if aliveB sy rs blankC X0.toNat then (if fmB sy st (buildF (itC sy rs blankC X0.toNat).q X2 X3 (nums ts) r) && onB (buildF (itC sy rs blankC X0.toNat).q X2 X3 (nums ts) r) then (buildF (itC sy rs blankC X0.toNat).q X2 X3 (nums ts) r, 0) else (Fm.zero, 9)) else (Fm.zero, 6)) else (Fm.zero, 2)) := Lib.hid (by
      rw [HRES.out]
      unfold bounceB bounceF
      rw [HXL.out, HTL.out, ← hX0, ← hX2, ← hX3, decide_eq_true (show (6 : Int) = 6 from rfl), decide_eq_true h, decide_eq_true h', decide_eq_true h'', show n - 4 = r by have := HNR.out; omega]
      rfl)
    clear hX0 hX1 hX2 hX3 HRES HFL
    have wr1 : IntKind.i64.wrap ((n : Int) - 4) = (r : Int) := by rw [IntWalk.i64_in _ (by omega)]; omega
    have hm2 : ((m : Int) != 2 * (r : Int) + 1) = false := by simp; omega
    clear hnr h h' h''
    have hn5 : 5 ≤ n := by have := HNR.out; omega
    have nb0 : 0 < n := by omega
    have nb2 : 2 < n := by omega
    have nb3 : 3 < n := by omega
    have ib0 : (0 : Int) < (n : Int) := by omega
    have ib2 : (2 : Int) < (n : Int) := by omega
    have ib3 : (3 : Int) < (n : Int) := by omega
    cases a1 : inB X0 0 20000
    · have A1 := Lib.hid a1
      obtain rfl : res = (Fm.zero, 2) := by rw [HRES2.out, A1.out]; rfl
      clear a1
      go_enter Try.func87, Try.ntmps87
      go_upto_region 1 with fail
      rw [← HW.out]
      go_wp2_with (go_at_call 103; refine (within_is A1.out _).mono ?_; rintro e w' ⟨rfl, rfl⟩)
      clear x0 x1 x2 x3 x4 x5 x6 x7 x8 x9 x10
      have dB : Blk (((((((((((W.setCell ⟨(w.heap.size + 1 + 1), 0, none⟩ (.int .i64 0)).setCell ⟨(w.heap.size + 1 + 1), 1, none⟩ (.int .i64 0)).setCell ⟨(w.heap.size + 1 + 1), 2, none⟩ (.int .i64 0)).setCell ⟨(w.heap.size + 1 + 1), 3, none⟩ (.int .i64 0)).setCell ⟨(w.heap.size + 1 + 1), 4, none⟩ (.slice none 0 0)).setCell ⟨(w.heap.size + 1 + 1), 5, none⟩ (.slice none 0 0)).setCell ⟨(w.heap.size + 1 + 1), 6, none⟩ (.slice none 0 0)).setCell ⟨(w.heap.size + 1 + 1), 7, none⟩ (.slice none 0 0)).setCell ⟨(w.heap.size + 1 + 1), 8, none⟩ (.int .i64 0)).setCell ⟨(w.heap.size + 1 + 1), 9, none⟩ (.slice none 0 0)).setCell ⟨(w.heap.size + 1 + 1), 10, none⟩ (.slice none 0 0)) (w.heap.size + 1 + 1) 131 #[.int .i64 0, .int .i64 0, .int .i64 0, .int .i64 0, .slice none 0 0, .slice none 0 0, .slice none 0 0, .slice none 0 0, .int .i64 0, .slice none 0 0, .slice none 0 0] := bn_set b2 (.int .i64 0) (.int .i64 0) (.int .i64 0) (.int .i64 0) (.slice none 0 0) (.slice none 0 0) (.slice none 0 0) (.slice none 0 0) (.int .i64 0) (.slice none 0 0) (.slice none 0 0)
      have yS : ∀ (lo : Nat) (w0 : World), Below lo w0 W → lo ≤ (w.heap.size + 1 + 1) → Below lo w0 (((((((((((W.setCell ⟨(w.heap.size + 1 + 1), 0, none⟩ (.int .i64 0)).setCell ⟨(w.heap.size + 1 + 1), 1, none⟩ (.int .i64 0)).setCell ⟨(w.heap.size + 1 + 1), 2, none⟩ (.int .i64 0)).setCell ⟨(w.heap.size + 1 + 1), 3, none⟩ (.int .i64 0)).setCell ⟨(w.heap.size + 1 + 1), 4, none⟩ (.slice none 0 0)).setCell ⟨(w.heap.size + 1 + 1), 5, none⟩ (.slice none 0 0)).setCell ⟨(w.heap.size + 1 + 1), 6, none⟩ (.slice none 0 0)).setCell ⟨(w.heap.size + 1 + 1), 7, none⟩ (.slice none 0 0)).setCell ⟨(w.heap.size + 1 + 1), 8, none⟩ (.int .i64 0)).setCell ⟨(w.heap.size + 1 + 1), 9, none⟩ (.slice none 0 0)).setCell ⟨(w.heap.size + 1 + 1), 10, none⟩ (.slice none 0 0)) := fun lo w0 h hl => bn_below h hl (.int .i64 0) (.int .i64 0) (.int .i64 0) (.int .i64 0) (.slice none 0 0) (.slice none 0 0) (.slice none 0 0) (.slice none 0 0) (.int .i64 0) (.slice none 0 0) (.slice none 0 0)
      have kS : ∀ k, k ≠ (w.heap.size + 1 + 1) → (((((((((((W.setCell ⟨(w.heap.size + 1 + 1), 0, none⟩ (.int .i64 0)).setCell ⟨(w.heap.size + 1 + 1), 1, none⟩ (.int .i64 0)).setCell ⟨(w.heap.size + 1 + 1), 2, none⟩ (.int .i64 0)).setCell ⟨(w.heap.size + 1 + 1), 3, none⟩ (.int .i64 0)).setCell ⟨(w.heap.size + 1 + 1), 4, none⟩ (.slice none 0 0)).setCell ⟨(w.heap.size + 1 + 1), 5, none⟩ (.slice none 0 0)).setCell ⟨(w.heap.size + 1 + 1), 6, none⟩ (.slice none 0 0)).setCell ⟨(w.heap.size + 1 + 1), 7, none⟩ (.slice none 0 0)).setCell ⟨(w.heap.size + 1 + 1), 8, none⟩ (.int .i64 0)).setCell ⟨(w.heap.size + 1 + 1), 9, none⟩ (.slice none 0 0)).setCell ⟨(w.heap.size + 1 + 1), 10, none⟩ (.slice none 0 0)).heap[k]? = W.heap[k]? := fun k hk => bn_kept (.int .i64 0) (.int .i64 0) (.int .i64 0) (.int .i64 0) (.slice none 0 0) (.slice none 0 0) (.slice none 0 0) (.slice none 0 0) (.int .i64 0) (.slice none 0 0) (.slice none 0 0) k hk
      generalize ((((((((((W.setCell ⟨(w.heap.size + 1 + 1), 0, none⟩ (.int .i64 0)).setCell ⟨(w.heap.size + 1 + 1), 1, none⟩ (.int .i64 0)).setCell ⟨(w.heap.size + 1 + 1), 2, none⟩ (.int .i64 0)).setCell ⟨(w.heap.size + 1 + 1), 3, none⟩ (.int .i64 0)).setCell ⟨(w.heap.size + 1 + 1), 4, none⟩ (.slice none 0 0)).setCell ⟨(w.heap.size + 1 + 1), 5, none⟩ (.slice none 0 0)).setCell ⟨(w.heap.size + 1 + 1), 6, none⟩ (.slice none 0 0)).setCell ⟨(w.heap.size + 1 + 1), 7, none⟩ (.slice none 0 0)).setCell ⟨(w.heap.size + 1 + 1), 8, none⟩ (.int .i64 0)).setCell ⟨(w.heap.size + 1 + 1), 9, none⟩ (.slice none 0 0)).setCell ⟨(w.heap.size + 1 + 1), 10, none⟩ (.slice none 0 0) = wf at *
      have x0 : wf.cell? ⟨(w.heap.size + 1 + 1), 0, none⟩ = some (.int .i64 0) := dB.cell 0
      have x1 : wf.cell? ⟨(w.heap.size + 1 + 1), 1, none⟩ = some (.int .i64 0) := dB.cell 1
      have x2 : wf.cell? ⟨(w.heap.size + 1 + 1), 2, none⟩ = some (.int .i64 0) := dB.cell 2
      have x3 : wf.cell? ⟨(w.heap.size + 1 + 1), 3, none⟩ = some (.int .i64 0) := dB.cell 3
      have x4 : wf.cell? ⟨(w.heap.size + 1 + 1), 4, none⟩ = some (.slice none 0 0) := dB.cell 4
      have x5 : wf.cell? ⟨(w.heap.size + 1 + 1), 5, none⟩ = some (.slice none 0 0) := dB.cell 5
      have x6 : wf.cell? ⟨(w.heap.size + 1 + 1), 6, none⟩ = some (.slice none 0 0) := dB.cell 6
      have x7 : wf.cell? ⟨(w.heap.size + 1 + 1), 7, none⟩ = some (.slice none 0 0) := dB.cell 7
      have x8 : wf.cell? ⟨(w.heap.size + 1 + 1), 8, none⟩ = some (.int .i64 0) := dB.cell 8
      have x9 : wf.cell? ⟨(w.heap.size + 1 + 1), 9, none⟩ = some (.slice none 0 0) := dB.cell 9
      have x10 : wf.cell? ⟨(w.heap.size + 1 + 1), 10, none⟩ = some (.slice none 0 0) := dB.cell 10
      exact bodyPost_ret (v := .tuple #[.agg #[.int .i64 0, .int .i64 0, .int .i64 0, .int .i64 0, .slice none 0 0, .slice none 0 0, .slice none 0 0, .slice none 0 0, .int .i64 0, .slice none 0 0, .slice none 0 0], .int .i64 2]) (by simp [results, Try.results87, go_sem, x0, x1, x2, x3, x4, x5, x6, x7, x8, x9, x10]) rfl (newBnc_zero (yS _ _ y0 (by omega)))
    have A1 := Lib.hid a1
    have hx0 := (inB_iff _ _ _).1 a1
    clear a1
    have u0 : W.cell? ⟨w.heap.size, 0, none⟩ = some (.int .i64 sy) := b0.cell 0
    have u1 : W.cell? ⟨w.heap.size, 1, none⟩ = some (.int .i64 st) := b0.cell 1
    have u2 : W.cell? ⟨w.heap.size, 2, none⟩ = some (.slice A0 n0 k0) := b0.cell 2
    go_enter Try.func87, Try.ntmps87
    go_upto_region 1 with fail
    rw [← HW.out]
    go_wp2_with (go_at_call 103; refine (within_is A1.out _).mono ?_; rintro e w' ⟨rfl, rfl⟩)
    have HGC : Hid (goodC sy st rs blankC) := Lib.hid (by show validConfB sy st rs 0 [] [] = true; rw [blank_good]; exact HMB.out)
    have KEEP : Hid (∀ cur, Below W.heap.size W cur → cur.cell? ⟨w.heap.size, 0, none⟩ = some (.int .i64 sy) ∧ cur.cell? ⟨w.heap.size, 1, none⟩ = some (.int .i64 st) ∧ cur.cell? ⟨w.heap.size, 2, none⟩ = some (.slice A0 n0 k0) ∧ cur.cell? ⟨w.heap.size + 1, 1, none⟩ = some (.slice (some ⟨pb, po, none⟩) n c) ∧ cur.cell? ⟨pb, po, none⟩ = some (.int .i64 X0)) := fun cur h =>
      ⟨(b0.below' h).cell 0, (b0.below' h).cell 1, (b0.below' h).cell 2, (b1.below' h).cell 1, (h.cell (p := ⟨pb, po, none⟩) hpb).trans hc0⟩
    go_region_held3 (fun w' => w'.cell? ⟨w.heap.size, 0, none⟩ = some (.int .i64 sy) ∧ w'.cell? ⟨w.heap.size, 1, none⟩ = some (.int .i64 st) ∧ w'.cell? ⟨w.heap.size, 2, none⟩ = some (.slice A0 n0 k0) ∧ w'.cell? ⟨w.heap.size + 1, 1, none⟩ = some (.slice (some ⟨pb, po, none⟩) n c) ∧ w'.cell? ⟨pb, po, none⟩ = some (.int .i64 X0))
      (first
        | (go_keep; done)
        | (exact KEEP.out _ z2))
      (first
        | (go_at_call 174; refine (afterSteps_int _ _ _ _ _ rs X0 _ ((hr.below y0).drewN 1) hn0 HGC.out (by omega) (by omega)).mono ?_; rintro e W2 ⟨g, v, rfl, hgl, hv1, hv2, z2'⟩; have z2 : Below W.heap.size W W2 := below_undrew z2'))
    have y2 := y0.trans (z2.mono y0.size)
    have HV1 := Lib.hid hv1
    have HV2 := Lib.hid hv2
    have c1 := b1.below' z2
    have c2 := b2.below' z2
    have hq2 := (z2.cell (p := ⟨pb, po + 2, none⟩) hpb).trans hc2
    have hq3 := (z2.cell (p := ⟨pb, po + 3, none⟩) hpb).trans hc3
    have HC1 := Lib.hid hc1
    clear u0 u1 u2 v0 v1 v2 hc0 hc1 hc2 hc3 hv1 hv2 z2' KEEP
    clear x0 x1 x2 x3 x4 x5 x6 x7 x8 x9 x10 f0 f1 f2 f3 f4 f5 f6 f7 f8 f9 f10
    have HX := Lib.hid (hx.below y0)
    have HY := Lib.hid (hy.below y2)
    have HRS := Lib.hid (hr.below y2)
    have HYL := Lib.hid hy.len
    clear hx hy hr
    cases v with
    | false =>
      have HA := Lib.hid (aliveB_false (HV2.out rfl))
      obtain rfl : res = (Fm.zero, 6) := by rw [HRES2.out, A1.out, HA.out]; rfl
      have x0 : W2.cell? ⟨(w.heap.size + 1 + 1), 0, none⟩ = some (.int .i64 0) := c2.cell 0
      have x1 : W2.cell? ⟨(w.heap.size + 1 + 1), 1, none⟩ = some (.int .i64 0) := c2.cell 1
      have x2 : W2.cell? ⟨(w.heap.size + 1 + 1), 2, none⟩ = some (.int .i64 0) := c2.cell 2
      have x3 : W2.cell? ⟨(w.heap.size + 1 + 1), 3, none⟩ = some (.int .i64 0) := c2.cell 3
      have x4 : W2.cell? ⟨(w.heap.size + 1 + 1), 4, none⟩ = some (.slice none 0 0) := c2.cell 4
      have x5 : W2.cell? ⟨(w.heap.size + 1 + 1), 5, none⟩ = some (.slice none 0 0) := c2.cell 5
      have x6 : W2.cell? ⟨(w.heap.size + 1 + 1), 6, none⟩ = some (.slice none 0 0) := c2.cell 6
      have x7 : W2.cell? ⟨(w.heap.size + 1 + 1), 7, none⟩ = some (.slice none 0 0) := c2.cell 7
      have x8 : W2.cell? ⟨(w.heap.size + 1 + 1), 8, none⟩ = some (.int .i64 0) := c2.cell 8
      have x9 : W2.cell? ⟨(w.heap.size + 1 + 1), 9, none⟩ = some (.slice none 0 0) := c2.cell 9
      have x10 : W2.cell? ⟨(w.heap.size + 1 + 1), 10, none⟩ = some (.slice none 0 0) := c2.cell 10
      have f0 := c2.frozen 0
      have f1 := c2.frozen 1
      have f2 := c2.frozen 2
      have f3 := c2.frozen 3
      have f4 := c2.frozen 4
      have f5 := c2.frozen 5
      have f6 := c2.frozen 6
      have f7 := c2.frozen 7
      have f8 := c2.frozen 8
      have f9 := c2.frozen 9
      have f10 := c2.frozen 10
      go_wp2_with fail
      clear x0 x1 x2 x3 x4 x5 x6 x7 x8 x9 x10
      have dB : Blk (((((((((((W2.setCell ⟨(w.heap.size + 1 + 1), 0, none⟩ (.int .i64 0)).setCell ⟨(w.heap.size + 1 + 1), 1, none⟩ (.int .i64 0)).setCell ⟨(w.heap.size + 1 + 1), 2, none⟩ (.int .i64 0)).setCell ⟨(w.heap.size + 1 + 1), 3, none⟩ (.int .i64 0)).setCell ⟨(w.heap.size + 1 + 1), 4, none⟩ (.slice none 0 0)).setCell ⟨(w.heap.size + 1 + 1), 5, none⟩ (.slice none 0 0)).setCell ⟨(w.heap.size + 1 + 1), 6, none⟩ (.slice none 0 0)).setCell ⟨(w.heap.size + 1 + 1), 7, none⟩ (.slice none 0 0)).setCell ⟨(w.heap.size + 1 + 1), 8, none⟩ (.int .i64 0)).setCell ⟨(w.heap.size + 1 + 1), 9, none⟩ (.slice none 0 0)).setCell ⟨(w.heap.size + 1 + 1), 10, none⟩ (.slice none 0 0)) (w.heap.size + 1 + 1) 131 #[.int .i64 0, .int .i64 0, .int .i64 0, .int .i64 0, .slice none 0 0, .slice none 0 0, .slice none 0 0, .slice none 0 0, .int .i64 0, .slice none 0 0, .slice none 0 0] := bn_set c2 (.int .i64 0) (.int .i64 0) (.int .i64 0) (.int .i64 0) (.slice none 0 0) (.slice none 0 0) (.slice none 0 0) (.slice none 0 0) (.int .i64 0) (.slice none 0 0) (.slice none 0 0)
      have yS : ∀ (lo : Nat) (w0 : World), Below lo w0 W2 → lo ≤ (w.heap.size + 1 + 1) → Below lo w0 (((((((((((W2.setCell ⟨(w.heap.size + 1 + 1), 0, none⟩ (.int .i64 0)).setCell ⟨(w.heap.size + 1 + 1), 1, none⟩ (.int .i64 0)).setCell ⟨(w.heap.size + 1 + 1), 2, none⟩ (.int .i64 0)).setCell ⟨(w.heap.size + 1 + 1), 3, none⟩ (.int .i64 0)).setCell ⟨(w.heap.size + 1 + 1), 4, none⟩ (.slice none 0 0)).setCell ⟨(w.heap.size + 1 + 1), 5, none⟩ (.slice none 0 0)).setCell ⟨(w.heap.size + 1 + 1), 6, none⟩ (.slice none 0 0)).setCell ⟨(w.heap.size + 1 + 1), 7, none⟩ (.slice none 0 0)).setCell ⟨(w.heap.size + 1 + 1), 8, none⟩ (.int .i64 0)).setCell ⟨(w.heap.size + 1 + 1), 9, none⟩ (.slice none 0 0)).setCell ⟨(w.heap.size + 1 + 1), 10, none⟩ (.slice none 0 0)) := fun lo w0 h hl => bn_below h hl (.int .i64 0) (.int .i64 0) (.int .i64 0) (.int .i64 0) (.slice none 0 0) (.slice none 0 0) (.slice none 0 0) (.slice none 0 0) (.int .i64 0) (.slice none 0 0) (.slice none 0 0)
      have kS : ∀ k, k ≠ (w.heap.size + 1 + 1) → (((((((((((W2.setCell ⟨(w.heap.size + 1 + 1), 0, none⟩ (.int .i64 0)).setCell ⟨(w.heap.size + 1 + 1), 1, none⟩ (.int .i64 0)).setCell ⟨(w.heap.size + 1 + 1), 2, none⟩ (.int .i64 0)).setCell ⟨(w.heap.size + 1 + 1), 3, none⟩ (.int .i64 0)).setCell ⟨(w.heap.size + 1 + 1), 4, none⟩ (.slice none 0 0)).setCell ⟨(w.heap.size + 1 + 1), 5, none⟩ (.slice none 0 0)).setCell ⟨(w.heap.size + 1 + 1), 6, none⟩ (.slice none 0 0)).setCell ⟨(w.heap.size + 1 + 1), 7, none⟩ (.slice none 0 0)).setCell ⟨(w.heap.size + 1 + 1), 8, none⟩ (.int .i64 0)).setCell ⟨(w.heap.size + 1 + 1), 9, none⟩ (.slice none 0 0)).setCell ⟨(w.heap.size + 1 + 1), 10, none⟩ (.slice none 0 0)).heap[k]? = W2.heap[k]? := fun k hk => bn_kept (.int .i64 0) (.int .i64 0) (.int .i64 0) (.int .i64 0) (.slice none 0 0) (.slice none 0 0) (.slice none 0 0) (.slice none 0 0) (.int .i64 0) (.slice none 0 0) (.slice none 0 0) k hk
      generalize ((((((((((W2.setCell ⟨(w.heap.size + 1 + 1), 0, none⟩ (.int .i64 0)).setCell ⟨(w.heap.size + 1 + 1), 1, none⟩ (.int .i64 0)).setCell ⟨(w.heap.size + 1 + 1), 2, none⟩ (.int .i64 0)).setCell ⟨(w.heap.size + 1 + 1), 3, none⟩ (.int .i64 0)).setCell ⟨(w.heap.size + 1 + 1), 4, none⟩ (.slice none 0 0)).setCell ⟨(w.heap.size + 1 + 1), 5, none⟩ (.slice none 0 0)).setCell ⟨(w.heap.size + 1 + 1), 6, none⟩ (.slice none 0 0)).setCell ⟨(w.heap.size + 1 + 1), 7, none⟩ (.slice none 0 0)).setCell ⟨(w.heap.size + 1 + 1), 8, none⟩ (.int .i64 0)).setCell ⟨(w.heap.size + 1 + 1), 9, none⟩ (.slice none 0 0)).setCell ⟨(w.heap.size + 1 + 1), 10, none⟩ (.slice none 0 0) = wf at *
      have x0 : wf.cell? ⟨(w.heap.size + 1 + 1), 0, none⟩ = some (.int .i64 0) := dB.cell 0
      have x1 : wf.cell? ⟨(w.heap.size + 1 + 1), 1, none⟩ = some (.int .i64 0) := dB.cell 1
      have x2 : wf.cell? ⟨(w.heap.size + 1 + 1), 2, none⟩ = some (.int .i64 0) := dB.cell 2
      have x3 : wf.cell? ⟨(w.heap.size + 1 + 1), 3, none⟩ = some (.int .i64 0) := dB.cell 3
      have x4 : wf.cell? ⟨(w.heap.size + 1 + 1), 4, none⟩ = some (.slice none 0 0) := dB.cell 4
      have x5 : wf.cell? ⟨(w.heap.size + 1 + 1), 5, none⟩ = some (.slice none 0 0) := dB.cell 5
      have x6 : wf.cell? ⟨(w.heap.size + 1 + 1), 6, none⟩ = some (.slice none 0 0) := dB.cell 6
      have x7 : wf.cell? ⟨(w.heap.size + 1 + 1), 7, none⟩ = some (.slice none 0 0) := dB.cell 7
      have x8 : wf.cell? ⟨(w.heap.size + 1 + 1), 8, none⟩ = some (.int .i64 0) := dB.cell 8
      have x9 : wf.cell? ⟨(w.heap.size + 1 + 1), 9, none⟩ = some (.slice none 0 0) := dB.cell 9
      have x10 : wf.cell? ⟨(w.heap.size + 1 + 1), 10, none⟩ = some (.slice none 0 0) := dB.cell 10
      exact bodyPost_ret (v := .tuple #[.agg #[.int .i64 0, .int .i64 0, .int .i64 0, .int .i64 0, .slice none 0 0, .slice none 0 0, .slice none 0 0, .slice none 0 0, .int .i64 0, .slice none 0 0, .slice none 0 0], .int .i64 6]) (by simp [results, Try.results87, go_sem, x0, x1, x2, x3, x4, x5, x6, x7, x8, x9, x10]) rfl (newBnc_zero (yS _ _ y2 (by omega)))
    | true =>
      obtain ⟨ha, hrc⟩ := HV1.out rfl
      have HA := Lib.hid (aliveB_true ha)
      obtain ⟨L, cL, R, cR, hRA, _, _, _, _, _⟩ := id hrc
      have HRC := Lib.hid hrc
      obtain ⟨cf, hcf⟩ : ∃ cf, cf = itC sy rs blankC X0.toNat := ⟨_, rfl⟩
      have hcl : cf.xs.length ≤ 200 ∧ cf.ys.length ≤ 200 := by rw [hcf]; exact conf_len (ha.good HGC.out)
      rw [← hcf] at hRA HRES2 HRC
      clear ha
      have hRA : Blk W2 g 242 #[.int .i64 sy, .int .i64 st, .slice A0 n0 k0, .int .i64 cf.q, .slice L cf.xs.reverse.length cL, .slice R cf.ys.reverse.length cR] := hRA
      clear hcf HV1 HV2 hrc
      have HSS := Lib.hid (fun W' (h : Below W2.heap.size W2 W') => (⟨(hRA.below' h).cell 3, (c1.below' h).cell 1, (h.cell (p := ⟨pb, po + 2, none⟩) (Nat.lt_of_lt_of_le hpb z2.size)).trans hq2, (h.cell (p := ⟨pb, po + 3, none⟩) (Nat.lt_of_lt_of_le hpb z2.size)).trans hq3⟩ : W'.cell? ⟨g, 3, none⟩ = some (.int .i64 cf.q) ∧ W'.cell? ⟨w.heap.size + 1, 1, none⟩ = some (.slice (some ⟨pb, po, none⟩) n c) ∧ W'.cell? ⟨pb, po + 2, none⟩ = some (.int .i64 X2) ∧ W'.cell? ⟨pb, po + 3, none⟩ = some (.int .i64 X3)))
      clear hq2 hq3
      go_upto_region 7 with fail
      have hp : Below W2.heap.size W2 W2.drew := below_drewN (Below.refl _ _) 1
      go_cut [9] (fun s9 wx => ∃ (gf : Nat) (C : Option Addr), s9 = .pointer (some ⟨gf, 0, none⟩) ∧ Blk wx gf 32 #[.int .i64 cf.q, .int .i64 X2, .int .i64 X3, .slice none 0 0, .slice none 0 0, .slice C r r] ∧ Hid (Own wx W2.heap.size 2 1 C r r (ints (List.replicate r 0))) ∧ W2.heap.size ≤ gf ∧ Hid (Below W2.heap.size W2 wx))
      case first =>
        refine wp_region_noPanic ?_
        refine wp_region_held_drew (S := (fun w' => w'.cell? ⟨g, 3, none⟩ = some (.int .i64 cf.q) ∧ w'.cell? ⟨w.heap.size + 1, 1, none⟩ = some (.slice (some ⟨pb, po, none⟩) n c) ∧ w'.cell? ⟨pb, po + 2, none⟩ = some (.int .i64 X2) ∧ w'.cell? ⟨pb, po + 3, none⟩ = some (.int .i64 X3))) (by kernel_rfl) ?_ (fun hHeld => ?_)
        · exact HSS.out _ hp
        generalize W2.drew = Wc at *
        refine wpAnyH_take (i := 0) (v := ?_) rfl (by kernel_rfl) (by kernel_rfl) (by kernel_rfl) (fun _ _ _ h => h) (Or.inl ⟨by rfl, ?_⟩) (by assumption) ?_
        rotate_left
        · intro w hSw
          try dsimp only at hSw
          go_simp
          try with_reducible rfl
        try simp only [Act.put, List.setIfInBounds_toArray]
        refine wpAnyH_take (i := 1) (v := ?_) rfl (by kernel_rfl) (by kernel_rfl) (by kernel_rfl) (fun _ _ _ h => h) (Or.inl ⟨by rfl, ?_⟩) (by assumption) ?_
        rotate_left
        · intro w hSw
          try dsimp only at hSw
          go_simp
          try with_reducible rfl
        try simp only [Act.put]
        refine wpAnyH_take (i := 2) (v := ?_) rfl (by kernel_rfl) (by kernel_rfl) (by kernel_rfl) (fun _ _ _ h => h) (Or.inl ⟨by rfl, ?_⟩) (by assumption) ?_
        rotate_left
        · intro w hSw
          try dsimp only at hSw
          go_simp
          try with_reducible rfl
        try simp only [Act.put]
        refine wpAnyH_take (i := 3) (v := ?_) rfl (by kernel_rfl) (by kernel_rfl) (by kernel_rfl) (fun _ _ _ h => h) (Or.inl ⟨by rfl, ?_⟩) (by assumption) ?_
        rotate_left
        · intro w hSw
          try dsimp only at hSw
          obtain ⟨h0_, h1_, h2_, h3_⟩ := hSw
          go_simp
          try with_reducible rfl
        try simp only [Act.put]
        refine wpAnyH_take (i := 4) (v := ?_) rfl (by kernel_rfl) (by kernel_rfl) (by kernel_rfl) (fun _ _ _ h => h) (Or.inl ⟨by rfl, ?_⟩) (by assumption) ?_
        rotate_left
        · intro w hSw
          try dsimp only at hSw
          go_simp
          try with_reducible rfl
        try simp only [Act.put]
        refine wpAnyH_take (i := 5) (v := ?_) rfl (by kernel_rfl) (by kernel_rfl) (by kernel_rfl) (fun _ _ _ h => h) (Or.inl ⟨by rfl, ?_⟩) (by assumption) ?_
        rotate_left
        · intro w hSw
          try dsimp only at hSw
          obtain ⟨h0_, h1_, h2_, h3_⟩ := hSw
          go_simp
          try with_reducible rfl
        try simp only [Act.put]
        refine wpAnyH_take (i := 6) (v := ?_) rfl (by kernel_rfl) (by kernel_rfl) (by kernel_rfl) (fun _ _ _ h => h) (Or.inl ⟨by rfl, ?_⟩) (by assumption) ?_
        rotate_left
        · intro w hSw
          try dsimp only at hSw
          go_simp
          try with_reducible rfl
        try simp only [Act.put]
        refine wpAnyH_take (i := 7) (v := ?_) rfl (by kernel_rfl) (by kernel_rfl) (by kernel_rfl) (fun _ _ _ h => h) (Or.inl ⟨by rfl, ?_⟩) (by assumption) ?_
        rotate_left
        · intro w hSw
          try dsimp only at hSw
          obtain ⟨h0_, h1_, h2_, h3_⟩ := hSw
          go_simp
          try with_reducible rfl
        try simp only [Act.put]
        refine wpAnyH_take (i := 8) (v := ?_) rfl (by kernel_rfl) (by kernel_rfl) (by kernel_rfl) (fun _ _ _ h => h) (Or.inl ⟨by rfl, ?_⟩) (by assumption) ?_
        rotate_left
        · intro w hSw
          try dsimp only at hSw
          go_simp
          try with_reducible rfl
        try simp only [Act.put]
        refine wpAnyH_take (i := 9) (v := ?_) rfl (by kernel_rfl) (by kernel_rfl) (by kernel_rfl) (fun _ _ _ h => h) (Or.inl ⟨by rfl, ?_⟩) (by assumption) ?_
        rotate_left
        · intro w hSw
          try dsimp only at hSw
          obtain ⟨h0_, h1_, h2_, h3_⟩ := hSw
          go_simp
          try with_reducible rfl
        try simp only [Act.put]
        refine wpAnyH_take (i := 10) (v := ?_) rfl (by kernel_rfl) (by kernel_rfl) (by kernel_rfl) (fun _ _ _ h => h) (Or.inl ⟨by rfl, ?_⟩) (by assumption) ?_
        rotate_left
        · intro w hSw
          try dsimp only at hSw
          go_simp
          try with_reducible rfl
        try simp only [Act.put]
        refine wpAnyH_take (i := 11) (v := ?_) rfl (by kernel_rfl) (by kernel_rfl) (by kernel_rfl) (fun _ _ _ h => h) (Or.inl ⟨by rfl, ?_⟩) (by assumption) ?_
        rotate_left
        · intro w hSw
          try dsimp only at hSw
          obtain ⟨h0_, h1_, h2_, h3_⟩ := hSw
          go_simp
          try with_reducible rfl
        try simp only [Act.put]
        refine wpAnyH_ready (rs := [12, 15]) (by kernel_rfl) (by simp) ?_
        refine AllReadyH.cons rfl (fun K hK => ?_) ?_
        · go_simp
          refine hK.out _ _ ?_ (fun hHeld => ?_)
          · first | exact HSS.out _ hf | exact HSS.out _ hp
          clear hK K
          try simp only [Act.put, List.setIfInBounds_toArray, List.set_cons_zero, List.set_cons_succ]
          refine wpAnyH_ready (rs := [13, 15]) (by kernel_rfl) (by simp) ?_
          refine AllReadyH.cons rfl (fun K hK => ?_) ?_
          · rw [if_pos (by rfl)]
            refine wp_make_OwnM (.tmp 69) (.tmp 69) rfl elI (n := r) (lo := W2.heap.size) rfl rfl (by omega) (by simp only [maxLen]; omega) hp.size ?_
            intro ub Wm hub hu z
            clear hub
            rw [made_zerosM] at hu
            replace hp := hp.trans (z.mono hp.size)
            try replace hbt := hbt.below' z
            try replace hge := hge
            refine hK.out _ _ ?_ (fun hHeld => ?_)
            · first | exact HSS.out _ hf | exact HSS.out _ hp
            clear hK K
            try simp only [Act.put, List.setIfInBounds_toArray]
            refine wpAnyH_take (i := 14) (v := ?_) rfl (by kernel_rfl) (by kernel_rfl) (by kernel_rfl) (fun _ _ _ h => h) (Or.inl ⟨by rfl, ?_⟩) (by assumption) ?_
            rotate_left
            · intro w hSw
              try dsimp only at hSw
              go_simp
              try with_reducible rfl
            try simp only [Act.put]
            refine wpAnyH_ready (rs := [15]) (by kernel_rfl) (by simp) ?_
            refine AllReadyH.cons rfl (fun K hK => ?_) ?_
            · go_simp
              first
                | (have hu0 := hu; have hp0 : Below W2.heap.size W2 Wm := hp; replace hp := hp.alloc hp.size (.cells #[.int .i64 0, .int .i64 0, .int .i64 0, .slice none 0 0, .slice none 0 0, .slice none 0 0] 32); have hbt : Blk (Wm.alloc (.cells #[.int .i64 0, .int .i64 0, .int .i64 0, .slice none 0 0, .slice none 0 0, .slice none 0 0] 32)) Wm.heap.size 32 #[.int .i64 0, .int .i64 0, .int .i64 0, .slice none 0 0, .slice none 0 0, .slice none 0 0] := Blk.new _ _ _; have hge := hp0.size; replace hu := hu.alloc (.cells #[.int .i64 0, .int .i64 0, .int .i64 0, .slice none 0 0, .slice none 0 0, .slice none 0 0] 32))
                | (have hp0 : Below W2.heap.size W2 Wc := hp; replace hp := hp.alloc hp.size (.cells #[.int .i64 0, .int .i64 0, .int .i64 0, .slice none 0 0, .slice none 0 0, .slice none 0 0] 32); have hbt : Blk (Wc.alloc (.cells #[.int .i64 0, .int .i64 0, .int .i64 0, .slice none 0 0, .slice none 0 0, .slice none 0 0] 32)) Wc.heap.size 32 #[.int .i64 0, .int .i64 0, .int .i64 0, .slice none 0 0, .slice none 0 0, .slice none 0 0] := Blk.new _ _ _; have hge := hp0.size)
              refine hK.out _ _ ?_ (fun hHeld => ?_)
              · first | exact HSS.out _ hf | exact HSS.out _ hp
              clear hK K
              try simp only [Act.put, List.setIfInBounds_toArray, List.set_cons_zero, List.set_cons_succ]
              refine wpAnyH_ready (rs := [16]) (by kernel_rfl) (by simp) ?_
              refine AllReadyH.cons rfl (fun K hK => ?_) ?_
              · have x0 := hbt.cell 0
                have x1 := hbt.cell 1
                have x2 := hbt.cell 2
                have x3 := hbt.cell 3
                have x4 := hbt.cell 4
                have x5 := hbt.cell 5
                have f0 := hbt.frozen 0
                have f1 := hbt.frozen 1
                have f2 := hbt.frozen 2
                have f3 := hbt.frozen 3
                have f4 := hbt.frozen 4
                have f5 := hbt.frozen 5
                go_simp
                first
                  | (have hf : Below W2.heap.size W2 (Wm.alloc (.cells #[.int .i64 cf.q, .int .i64 X2, .int .i64 X3, .slice none 0 0, .slice none 0 0, .slice (some ⟨ub, 0, none⟩) r r] 32)) := hp0.alloc hp0.size _; have hbf : Blk (Wm.alloc (.cells #[.int .i64 cf.q, .int .i64 X2, .int .i64 X3, .slice none 0 0, .slice none 0 0, .slice (some ⟨ub, 0, none⟩) r r] 32)) Wm.heap.size 32 #[.int .i64 cf.q, .int .i64 X2, .int .i64 X3, .slice none 0 0, .slice none 0 0, .slice (some ⟨ub, 0, none⟩) r r] := Blk.new _ _ _; have of := hu0.alloc (.cells #[.int .i64 cf.q, .int .i64 X2, .int .i64 X3, .slice none 0 0, .slice none 0 0, .slice (some ⟨ub, 0, none⟩) r r] 32))
                  | (have hf := fm_below hp hge (.int .i64 cf.q) (.int .i64 X2) (.int .i64 X3) (.slice none 0 0) (.slice none 0 0) (.slice (some ⟨ub, 0, none⟩) r r); have hbf := fm_set hbt (.int .i64 cf.q) (.int .i64 X2) (.int .i64 X3) (.slice none 0 0) (.slice none 0 0) (.slice (some ⟨ub, 0, none⟩) r r); have of := hu.kept (fun b hb _ _ => fm_kept (.int .i64 cf.q) (.int .i64 X2) (.int .i64 X3) (.slice none 0 0) (.slice none 0 0) (.slice (some ⟨ub, 0, none⟩) r r) b (own_ne_blk hbt hu (by decide) b hb)))
                refine hK.out _ _ ?_ (fun hHeld => ?_)
                · first | exact HSS.out _ hf | exact HSS.out _ hp
                clear hK K
                try simp only [Act.put, List.setIfInBounds_toArray]
                refine wpAnyH_done (by kernel_rfl) ?_ _
                refine NoPanic.normal ?_
                go_wp2_with fail
                go_meet
                exact ⟨_, some ⟨ub, 0, none⟩, rfl, hbf, Lib.hid of, hge, Lib.hid hf⟩
              exact AllReadyH.nil
            exact AllReadyH.nil
          refine AllReadyH.cons rfl (fun K hK => ?_) ?_
          · go_simp
            first
              | (have hu0 := hu; have hp0 : Below W2.heap.size W2 Wm := hp; replace hp := hp.alloc hp.size (.cells #[.int .i64 0, .int .i64 0, .int .i64 0, .slice none 0 0, .slice none 0 0, .slice none 0 0] 32); have hbt : Blk (Wm.alloc (.cells #[.int .i64 0, .int .i64 0, .int .i64 0, .slice none 0 0, .slice none 0 0, .slice none 0 0] 32)) Wm.heap.size 32 #[.int .i64 0, .int .i64 0, .int .i64 0, .slice none 0 0, .slice none 0 0, .slice none 0 0] := Blk.new _ _ _; have hge := hp0.size; replace hu := hu.alloc (.cells #[.int .i64 0, .int .i64 0, .int .i64 0, .slice none 0 0, .slice none 0 0, .slice none 0 0] 32))
              | (have hp0 : Below W2.heap.size W2 Wc := hp; replace hp := hp.alloc hp.size (.cells #[.int .i64 0, .int .i64 0, .int .i64 0, .slice none 0 0, .slice none 0 0, .slice none 0 0] 32); have hbt : Blk (Wc.alloc (.cells #[.int .i64 0, .int .i64 0, .int .i64 0, .slice none 0 0, .slice none 0 0, .slice none 0 0] 32)) Wc.heap.size 32 #[.int .i64 0, .int .i64 0, .int .i64 0, .slice none 0 0, .slice none 0 0, .slice none 0 0] := Blk.new _ _ _; have hge := hp0.size)
            refine hK.out _ _ ?_ (fun hHeld => ?_)
            · first | exact HSS.out _ hf | exact HSS.out _ hp
            clear hK K
            try simp only [Act.put, List.setIfInBounds_toArray, List.set_cons_zero, List.set_cons_succ]
            refine wpAnyH_ready (rs := [13]) (by kernel_rfl) (by simp) ?_
            refine AllReadyH.cons rfl (fun K hK => ?_) ?_
            · rw [if_pos (by rfl)]
              refine wp_make_OwnM (.tmp 69) (.tmp 69) rfl elI (n := r) (lo := W2.heap.size) rfl rfl (by omega) (by simp only [maxLen]; omega) hp.size ?_
              intro ub Wm hub hu z
              clear hub
              rw [made_zerosM] at hu
              replace hp := hp.trans (z.mono hp.size)
              try replace hbt := hbt.below' z
              try replace hge := hge
              refine hK.out _ _ ?_ (fun hHeld => ?_)
              · first | exact HSS.out _ hf | exact HSS.out _ hp
              clear hK K
              try simp only [Act.put, List.setIfInBounds_toArray]
              refine wpAnyH_take (i := 14) (v := ?_) rfl (by kernel_rfl) (by kernel_rfl) (by kernel_rfl) (fun _ _ _ h => h) (Or.inl ⟨by rfl, ?_⟩) (by assumption) ?_
              rotate_left
              · intro w hSw
                try dsimp only at hSw
                go_simp
                try with_reducible rfl
              try simp only [Act.put]
              refine wpAnyH_ready (rs := [16]) (by kernel_rfl) (by simp) ?_
              refine AllReadyH.cons rfl (fun K hK => ?_) ?_
              · have x0 := hbt.cell 0
                have x1 := hbt.cell 1
                have x2 := hbt.cell 2
                have x3 := hbt.cell 3
                have x4 := hbt.cell 4
                have x5 := hbt.cell 5
                have f0 := hbt.frozen 0
                have f1 := hbt.frozen 1
                have f2 := hbt.frozen 2
                have f3 := hbt.frozen 3
                have f4 := hbt.frozen 4
                have f5 := hbt.frozen 5
                go_simp
                first
                  | (have hf : Below W2.heap.size W2 (Wm.alloc (.cells #[.int .i64 cf.q, .int .i64 X2, .int .i64 X3, .slice none 0 0, .slice none 0 0, .slice (some ⟨ub, 0, none⟩) r r] 32)) := hp0.alloc hp0.size _; have hbf : Blk (Wm.alloc (.cells #[.int .i64 cf.q, .int .i64 X2, .int .i64 X3, .slice none 0 0, .slice none 0 0, .slice (some ⟨ub, 0, none⟩) r r] 32)) Wm.heap.size 32 #[.int .i64 cf.q, .int .i64 X2, .int .i64 X3, .slice none 0 0, .slice none 0 0, .slice (some ⟨ub, 0, none⟩) r r] := Blk.new _ _ _; have of := hu0.alloc (.cells #[.int .i64 cf.q, .int .i64 X2, .int .i64 X3, .slice none 0 0, .slice none 0 0, .slice (some ⟨ub, 0, none⟩) r r] 32))
                  | (have hf := fm_below hp hge (.int .i64 cf.q) (.int .i64 X2) (.int .i64 X3) (.slice none 0 0) (.slice none 0 0) (.slice (some ⟨ub, 0, none⟩) r r); have hbf := fm_set hbt (.int .i64 cf.q) (.int .i64 X2) (.int .i64 X3) (.slice none 0 0) (.slice none 0 0) (.slice (some ⟨ub, 0, none⟩) r r); have of := hu.kept (fun b hb _ _ => fm_kept (.int .i64 cf.q) (.int .i64 X2) (.int .i64 X3) (.slice none 0 0) (.slice none 0 0) (.slice (some ⟨ub, 0, none⟩) r r) b (own_ne_blk hbt hu (by decide) b hb)))
                refine hK.out _ _ ?_ (fun hHeld => ?_)
                · first | exact HSS.out _ hf | exact HSS.out _ hp
                clear hK K
                try simp only [Act.put, List.setIfInBounds_toArray]
                refine wpAnyH_done (by kernel_rfl) ?_ _
                refine NoPanic.normal ?_
                go_wp2_with fail
                go_meet
                exact ⟨_, some ⟨ub, 0, none⟩, rfl, hbf, Lib.hid of, hge, Lib.hid hf⟩
              exact AllReadyH.nil
            exact AllReadyH.nil
          exact AllReadyH.nil
        refine AllReadyH.cons rfl (fun K hK => ?_) ?_
        · go_simp
          first
            | (have hu0 := hu; have hp0 : Below W2.heap.size W2 Wm := hp; replace hp := hp.alloc hp.size (.cells #[.int .i64 0, .int .i64 0, .int .i64 0, .slice none 0 0, .slice none 0 0, .slice none 0 0] 32); have hbt : Blk (Wm.alloc (.cells #[.int .i64 0, .int .i64 0, .int .i64 0, .slice none 0 0, .slice none 0 0, .slice none 0 0] 32)) Wm.heap.size 32 #[.int .i64 0, .int .i64 0, .int .i64 0, .slice none 0 0, .slice none 0 0, .slice none 0 0] := Blk.new _ _ _; have hge := hp0.size; replace hu := hu.alloc (.cells #[.int .i64 0, .int .i64 0, .int .i64 0, .slice none 0 0, .slice none 0 0, .slice none 0 0] 32))
            | (have hp0 : Below W2.heap.size W2 Wc := hp; replace hp := hp.alloc hp.size (.cells #[.int .i64 0, .int .i64 0, .int .i64 0, .slice none 0 0, .slice none 0 0, .slice none 0 0] 32); have hbt : Blk (Wc.alloc (.cells #[.int .i64 0, .int .i64 0, .int .i64 0, .slice none 0 0, .slice none 0 0, .slice none 0 0] 32)) Wc.heap.size 32 #[.int .i64 0, .int .i64 0, .int .i64 0, .slice none 0 0, .slice none 0 0, .slice none 0 0] := Blk.new _ _ _; have hge := hp0.size)
          refine hK.out _ _ ?_ (fun hHeld => ?_)
          · first | exact HSS.out _ hf | exact HSS.out _ hp
          clear hK K
          try simp only [Act.put, List.setIfInBounds_toArray, List.set_cons_zero, List.set_cons_succ]
          refine wpAnyH_ready (rs := [12]) (by kernel_rfl) (by simp) ?_
          refine AllReadyH.cons rfl (fun K hK => ?_) ?_
          · go_simp
            refine hK.out _ _ ?_ (fun hHeld => ?_)
            · first | exact HSS.out _ hf | exact HSS.out _ hp
            clear hK K
            try simp only [Act.put, List.setIfInBounds_toArray, List.set_cons_zero, List.set_cons_succ]
            refine wpAnyH_ready (rs := [13]) (by kernel_rfl) (by simp) ?_
            refine AllReadyH.cons rfl (fun K hK => ?_) ?_
            · rw [if_pos (by rfl)]
              refine wp_make_OwnM (.tmp 69) (.tmp 69) rfl elI (n := r) (lo := W2.heap.size) rfl rfl (by omega) (by simp only [maxLen]; omega) hp.size ?_
              intro ub Wm hub hu z
              clear hub
              rw [made_zerosM] at hu
              replace hp := hp.trans (z.mono hp.size)
              try replace hbt := hbt.below' z
              try replace hge := hge
              refine hK.out _ _ ?_ (fun hHeld => ?_)
              · first | exact HSS.out _ hf | exact HSS.out _ hp
              clear hK K
              try simp only [Act.put, List.setIfInBounds_toArray]
              refine wpAnyH_take (i := 14) (v := ?_) rfl (by kernel_rfl) (by kernel_rfl) (by kernel_rfl) (fun _ _ _ h => h) (Or.inl ⟨by rfl, ?_⟩) (by assumption) ?_
              rotate_left
              · intro w hSw
                try dsimp only at hSw
                go_simp
                try with_reducible rfl
              try simp only [Act.put]
              refine wpAnyH_ready (rs := [16]) (by kernel_rfl) (by simp) ?_
              refine AllReadyH.cons rfl (fun K hK => ?_) ?_
              · have x0 := hbt.cell 0
                have x1 := hbt.cell 1
                have x2 := hbt.cell 2
                have x3 := hbt.cell 3
                have x4 := hbt.cell 4
                have x5 := hbt.cell 5
                have f0 := hbt.frozen 0
                have f1 := hbt.frozen 1
                have f2 := hbt.frozen 2
                have f3 := hbt.frozen 3
                have f4 := hbt.frozen 4
                have f5 := hbt.frozen 5
                go_simp
                first
                  | (have hf : Below W2.heap.size W2 (Wm.alloc (.cells #[.int .i64 cf.q, .int .i64 X2, .int .i64 X3, .slice none 0 0, .slice none 0 0, .slice (some ⟨ub, 0, none⟩) r r] 32)) := hp0.alloc hp0.size _; have hbf : Blk (Wm.alloc (.cells #[.int .i64 cf.q, .int .i64 X2, .int .i64 X3, .slice none 0 0, .slice none 0 0, .slice (some ⟨ub, 0, none⟩) r r] 32)) Wm.heap.size 32 #[.int .i64 cf.q, .int .i64 X2, .int .i64 X3, .slice none 0 0, .slice none 0 0, .slice (some ⟨ub, 0, none⟩) r r] := Blk.new _ _ _; have of := hu0.alloc (.cells #[.int .i64 cf.q, .int .i64 X2, .int .i64 X3, .slice none 0 0, .slice none 0 0, .slice (some ⟨ub, 0, none⟩) r r] 32))
                  | (have hf := fm_below hp hge (.int .i64 cf.q) (.int .i64 X2) (.int .i64 X3) (.slice none 0 0) (.slice none 0 0) (.slice (some ⟨ub, 0, none⟩) r r); have hbf := fm_set hbt (.int .i64 cf.q) (.int .i64 X2) (.int .i64 X3) (.slice none 0 0) (.slice none 0 0) (.slice (some ⟨ub, 0, none⟩) r r); have of := hu.kept (fun b hb _ _ => fm_kept (.int .i64 cf.q) (.int .i64 X2) (.int .i64 X3) (.slice none 0 0) (.slice none 0 0) (.slice (some ⟨ub, 0, none⟩) r r) b (own_ne_blk hbt hu (by decide) b hb)))
                refine hK.out _ _ ?_ (fun hHeld => ?_)
                · first | exact HSS.out _ hf | exact HSS.out _ hp
                clear hK K
                try simp only [Act.put, List.setIfInBounds_toArray]
                refine wpAnyH_done (by kernel_rfl) ?_ _
                refine NoPanic.normal ?_
                go_wp2_with fail
                go_meet
                exact ⟨_, some ⟨ub, 0, none⟩, rfl, hbf, Lib.hid of, hge, Lib.hid hf⟩
              exact AllReadyH.nil
            exact AllReadyH.nil
          exact AllReadyH.nil
        exact AllReadyH.nil
      case rest =>
        obtain ⟨gf, C, rfl, bf, HC, hgf, HZ⟩ := hcut
        have z3 := HZ.out
        have y3 := y2.trans (z3.mono y2.size)
        have p2 : wc.cell? ⟨w.heap.size + 1, 2, none⟩ = some (.slice B m d) := (c1.below' z3).cell 2
        have hsz3 := z3.size
        clear HSS hp hRA
        go_wp2_with fail
        go_loopw [75] (fun i wr => ∃ k : Nat, k ≤ m ∧ i = .int .i64 k ∧ Hid (BncTo W2 W2.heap.size gf cf.q X2 X3 r (nums ts) k wr)) (fun i _ => m - (intOf i).toNat)
        case atStart => exact ⟨0, by omega, rfl, Lib.hid ⟨none, 0, [], none, 0, [], C, r, bf, FmO.start (by rw [List.length_replicate]; exact HC.out), rfl, rfl, z3⟩⟩
        case round =>
          obtain ⟨k, hk, rfl, HB⟩ := hrel
          have i1 : (0 : Int) ≤ (k : Int) := by omega
          obtain ⟨A', c', ts', B', d', us', C', k', hb, hO, hW, hR, hz⟩ := HB.out
          have hsz0 := hz.size
          clear p2
          by_cases hlt : k < m
          · obtain ⟨t, bb, off, hT, htm, rfl, hbl, hc, hrow⟩ := (HY.out.below hz).pick hlt
            have hnt := HNS.out t htm
            have HROW := Lib.hid hrow
            have i2 : (k : Int) < (m : Int) := by omega
            have hTn : (nums ts)[k]? = some t.xs := by unfold nums; rw [List.getElem?_map, hT.out]; rfl
            have hev := evens_take hTn
            have hm2000 : m ≤ 7 := by have := HMR.out; omega
            have hle : ts'.length ≤ 7 := by have h1 := congrArg List.length hW; rw [nums_len, (evens_len _).1, List.length_take] at h1; omega
            have hle' : us'.length ≤ 7 := by have h1 := congrArg List.length hR; rw [nums_len, (evens_len _).2, List.length_take] at h1; omega
            clear hrow hTn
            by_cases he : k % 2 = 0
            · have e2 : (k : Int).tmod 2 = 0 := by rw [Int.tmod_eq_emod_of_nonneg i1]; omega
              go_upto_region 12 with fail
              have hp : Below wr.heap.size wr wr.drew := below_drewN (Below.refl _ _) 1
              have hbx := hb.below' hp
              refine wp_region_held_drew (S := (fun _ => True)) (by kernel_rfl) ?_ (fun hHeld => ?_)
              · trivial
              generalize wr.drew = Wc at *
              refine wpAnyH_take (i := 0) (v := ?_) rfl (by kernel_rfl) (by kernel_rfl) (by kernel_rfl) (fun _ _ _ h => h) (Or.inl ⟨by rfl, ?_⟩) (by assumption) ?_
              rotate_left
              · intro w hSw
                try dsimp only at hSw
                go_simp
                try with_reducible rfl
              try simp only [Act.put, List.setIfInBounds_toArray]
              refine wpAnyH_take (i := 2) (v := ?_) rfl (by kernel_rfl) (by kernel_rfl) (by kernel_rfl) (fun _ _ _ h => h) (Or.inl ⟨by rfl, ?_⟩) (by assumption) ?_
              rotate_left
              · intro w hSw
                try dsimp only at hSw
                go_simp
                try with_reducible rfl
              try simp only [Act.put]
              refine wpAnyH_ready (rs := [1, 3]) (by kernel_rfl) (by simp) ?_
              refine AllReadyH.cons rfl (fun K hK => ?_) ?_
              · have xf := hbx.cell 3
                go_simp
                clear xf
                refine hK.out _ _ ?_ (fun hHeld => ?_)
                · trivial
                clear hK K
                try simp only [Act.put, List.setIfInBounds_toArray, List.set_cons_zero, List.set_cons_succ]
                refine wpAnyH_ready (rs := [3]) (by kernel_rfl) (by simp) ?_
                refine AllReadyH.cons rfl (fun K hK => ?_) ?_
                · go_simp
                  refine (cloneI_any _ _ _ t.xs _ (HROW.out.below hp) hnt).mono ?_
                  rintro e W7 ⟨D, dd, rfl, oD, z7⟩
                  have hk7 := hp.size
                  replace hp := hp.trans (z7.mono hp.size)
                  replace hbx := hbx.below' z7
                  refine hK.out _ _ ?_ (fun hHeld => ?_)
                  · trivial
                  clear hK K
                  try simp only [Act.put, List.setIfInBounds_toArray, List.set_cons_zero, List.set_cons_succ]
                  refine wpAnyH_ready (rs := [4]) (by kernel_rfl) (by simp) ?_
                  refine AllReadyH.cons rfl (fun K hK => ?_) ?_
                  · go_simp
                    replace hbx := hbx.alloc (.cells #[.slice D t.xs.length dd] 25)
                    have hp8 := hp.alloc hp.size (.cells #[.slice D t.xs.length dd] 25)
                    refine hK.out _ _ ?_ (fun hHeld => ?_)
                    · trivial
                    clear hK K
                    try simp only [Act.put, List.setIfInBounds_toArray, List.set_cons_zero, List.set_cons_succ]
                    refine wpAnyH_ready (rs := [5]) (by kernel_rfl) (by simp) ?_
                    refine AllReadyH.cons rfl (fun K hK => ?_) ?_
                    · rw [if_pos (by rfl)]
                      have hsz := hp8.size
                      refine wp_append_Own (.tmp 84) (.tmp 87) rfl elII (lo := W2.heap.size) rfl ((hO.below hp8).1.1) rfl (Rd.new1 W7 _ _) (by simp [Value.oneCell']) (by omega) (by simp only [maxLen]; omega) (by omega) ?_
                      intro A8 c8 w8 ho8 hg8 hw8
                      replace hbx := hbx.growt ((hO.below hp8).1.1) hg8 (by decide)
                      refine hK.out _ _ ?_ (fun hHeld => ?_)
                      · trivial
                      clear hK K
                      try simp only [Act.put, List.setIfInBounds_toArray]
                      refine wpAnyH_take (i := 6) (v := ?_) rfl (by kernel_rfl) (by kernel_rfl) (by kernel_rfl) (fun _ _ _ h => h) (Or.inl ⟨by rfl, ?_⟩) (by assumption) ?_
                      rotate_left
                      · intro w hSw
                        try dsimp only at hSw
                        go_simp
                        try with_reducible rfl
                      try simp only [Act.put]
                      refine wpAnyH_ready (rs := [7]) (by kernel_rfl) (by simp) ?_
                      refine AllReadyH.cons rfl (fun K hK => ?_) ?_
                      · have xf := hbx.cell 3
                        have ff := hbx.frozen 3
                        go_simp
                        have hb9 : Blk (w8.setCell ⟨gf, 3, none⟩ (.slice A8 (ts'.length + 1) c8)) gf 32 #[.int .i64 cf.q, .int .i64 X2, .int .i64 X3, .slice A8 (ts' ++ [(⟨D, dd, t.xs⟩ : Sl)]).length c8, .slice B' us'.length d', .slice C' r k'] := by
                          rw [List.length_append]
                          exact hbx.set_ 3 _
                        have hO8 := hO.snocW (u := ⟨D, dd, t.xs⟩) hp8 ho8 hg8 hw8.1 (oD.alloc (.cells #[.slice D t.xs.length dd] 25)) hk7 (Nat.le_trans hsz0 hk7)
                        have hO9 := hO8.far (w' := w8.setCell ⟨gf, 3, none⟩ (.slice A8 (ts'.length + 1) c8)) hbx (by decide) (by decide) (fun b hb => Below.heap_setCell _ _ _ _ hb)
                        have hz9 : Below W2.heap.size W2 (w8.setCell ⟨gf, 3, none⟩ (.slice A8 (ts'.length + 1) c8)) := (((hO.below hp8).1.1).below_of (hz.trans (hp8.mono hsz0)) hg8 (by omega)).setCell hgf _
                        refine hK.out _ _ ?_ (fun hHeld => ?_)
                        · trivial
                        clear hK K
                        try simp only [Act.put, List.setIfInBounds_toArray]
                        refine wpAnyH_done (by kernel_rfl) ?_ _
                        generalize w8.setCell ⟨gf, 3, none⟩ (.slice A8 (ts'.length + 1) c8) = w9 at *
                        have hres : BncTo W2 W2.heap.size gf cf.q X2 X3 r (nums ts) (k + 1) w9 := ⟨A8, c8, ts' ++ [⟨D, dd, t.xs⟩], B', d', us', C', k', hb9, hO9, by rw [hev.1, if_pos he, ← hW]; simp [nums], by rw [hev.2, if_pos he, ← hR], hz9⟩
                        go_wp2_with fail
                        exact ⟨⟨k + 1, by omega, by go_num, Lib.hid hres⟩, by simp [intOf]; omega⟩
                      exact AllReadyH.nil
                    exact AllReadyH.nil
                  exact AllReadyH.nil
                exact AllReadyH.nil
              refine AllReadyH.cons rfl (fun K hK => ?_) ?_
              · go_simp
                refine (cloneI_any _ _ _ t.xs _ (HROW.out.below hp) hnt).mono ?_
                rintro e W7 ⟨D, dd, rfl, oD, z7⟩
                have hk7 := hp.size
                replace hp := hp.trans (z7.mono hp.size)
                replace hbx := hbx.below' z7
                refine hK.out _ _ ?_ (fun hHeld => ?_)
                · trivial
                clear hK K
                try simp only [Act.put, List.setIfInBounds_toArray, List.set_cons_zero, List.set_cons_succ]
                refine wpAnyH_ready (rs := [1, 4]) (by kernel_rfl) (by simp) ?_
                refine AllReadyH.cons rfl (fun K hK => ?_) ?_
                · have xf := hbx.cell 3
                  go_simp
                  clear xf
                  refine hK.out _ _ ?_ (fun hHeld => ?_)
                  · trivial
                  clear hK K
                  try simp only [Act.put, List.setIfInBounds_toArray, List.set_cons_zero, List.set_cons_succ]
                  refine wpAnyH_ready (rs := [4]) (by kernel_rfl) (by simp) ?_
                  refine AllReadyH.cons rfl (fun K hK => ?_) ?_
                  · go_simp
                    replace hbx := hbx.alloc (.cells #[.slice D t.xs.length dd] 25)
                    have hp8 := hp.alloc hp.size (.cells #[.slice D t.xs.length dd] 25)
                    refine hK.out _ _ ?_ (fun hHeld => ?_)
                    · trivial
                    clear hK K
                    try simp only [Act.put, List.setIfInBounds_toArray, List.set_cons_zero, List.set_cons_succ]
                    refine wpAnyH_ready (rs := [5]) (by kernel_rfl) (by simp) ?_
                    refine AllReadyH.cons rfl (fun K hK => ?_) ?_
                    · rw [if_pos (by rfl)]
                      have hsz := hp8.size
                      refine wp_append_Own (.tmp 84) (.tmp 87) rfl elII (lo := W2.heap.size) rfl ((hO.below hp8).1.1) rfl (Rd.new1 W7 _ _) (by simp [Value.oneCell']) (by omega) (by simp only [maxLen]; omega) (by omega) ?_
                      intro A8 c8 w8 ho8 hg8 hw8
                      replace hbx := hbx.growt ((hO.below hp8).1.1) hg8 (by decide)
                      refine hK.out _ _ ?_ (fun hHeld => ?_)
                      · trivial
                      clear hK K
                      try simp only [Act.put, List.setIfInBounds_toArray]
                      refine wpAnyH_take (i := 6) (v := ?_) rfl (by kernel_rfl) (by kernel_rfl) (by kernel_rfl) (fun _ _ _ h => h) (Or.inl ⟨by rfl, ?_⟩) (by assumption) ?_
                      rotate_left
                      · intro w hSw
                        try dsimp only at hSw
                        go_simp
                        try with_reducible rfl
                      try simp only [Act.put]
                      refine wpAnyH_ready (rs := [7]) (by kernel_rfl) (by simp) ?_
                      refine AllReadyH.cons rfl (fun K hK => ?_) ?_
                      · have xf := hbx.cell 3
                        have ff := hbx.frozen 3
                        go_simp
                        have hb9 : Blk (w8.setCell ⟨gf, 3, none⟩ (.slice A8 (ts'.length + 1) c8)) gf 32 #[.int .i64 cf.q, .int .i64 X2, .int .i64 X3, .slice A8 (ts' ++ [(⟨D, dd, t.xs⟩ : Sl)]).length c8, .slice B' us'.length d', .slice C' r k'] := by
                          rw [List.length_append]
                          exact hbx.set_ 3 _
                        have hO8 := hO.snocW (u := ⟨D, dd, t.xs⟩) hp8 ho8 hg8 hw8.1 (oD.alloc (.cells #[.slice D t.xs.length dd] 25)) hk7 (Nat.le_trans hsz0 hk7)
                        have hO9 := hO8.far (w' := w8.setCell ⟨gf, 3, none⟩ (.slice A8 (ts'.length + 1) c8)) hbx (by decide) (by decide) (fun b hb => Below.heap_setCell _ _ _ _ hb)
                        have hz9 : Below W2.heap.size W2 (w8.setCell ⟨gf, 3, none⟩ (.slice A8 (ts'.length + 1) c8)) := (((hO.below hp8).1.1).below_of (hz.trans (hp8.mono hsz0)) hg8 (by omega)).setCell hgf _
                        refine hK.out _ _ ?_ (fun hHeld => ?_)
                        · trivial
                        clear hK K
                        try simp only [Act.put, List.setIfInBounds_toArray]
                        refine wpAnyH_done (by kernel_rfl) ?_ _
                        generalize w8.setCell ⟨gf, 3, none⟩ (.slice A8 (ts'.length + 1) c8) = w9 at *
                        have hres : BncTo W2 W2.heap.size gf cf.q X2 X3 r (nums ts) (k + 1) w9 := ⟨A8, c8, ts' ++ [⟨D, dd, t.xs⟩], B', d', us', C', k', hb9, hO9, by rw [hev.1, if_pos he, ← hW]; simp [nums], by rw [hev.2, if_pos he, ← hR], hz9⟩
                        go_wp2_with fail
                        exact ⟨⟨k + 1, by omega, by go_num, Lib.hid hres⟩, by simp [intOf]; omega⟩
                      exact AllReadyH.nil
                    exact AllReadyH.nil
                  exact AllReadyH.nil
                refine AllReadyH.cons rfl (fun K hK => ?_) ?_
                · go_simp
                  replace hbx := hbx.alloc (.cells #[.slice D t.xs.length dd] 25)
                  have hp8 := hp.alloc hp.size (.cells #[.slice D t.xs.length dd] 25)
                  refine hK.out _ _ ?_ (fun hHeld => ?_)
                  · trivial
                  clear hK K
                  try simp only [Act.put, List.setIfInBounds_toArray, List.set_cons_zero, List.set_cons_succ]
                  refine wpAnyH_ready (rs := [1]) (by kernel_rfl) (by simp) ?_
                  refine AllReadyH.cons rfl (fun K hK => ?_) ?_
                  · have xf := hbx.cell 3
                    go_simp
                    clear xf
                    refine hK.out _ _ ?_ (fun hHeld => ?_)
                    · trivial
                    clear hK K
                    try simp only [Act.put, List.setIfInBounds_toArray, List.set_cons_zero, List.set_cons_succ]
                    refine wpAnyH_ready (rs := [5]) (by kernel_rfl) (by simp) ?_
                    refine AllReadyH.cons rfl (fun K hK => ?_) ?_
                    · rw [if_pos (by rfl)]
                      have hsz := hp8.size
                      refine wp_append_Own (.tmp 84) (.tmp 87) rfl elII (lo := W2.heap.size) rfl ((hO.below hp8).1.1) rfl (Rd.new1 W7 _ _) (by simp [Value.oneCell']) (by omega) (by simp only [maxLen]; omega) (by omega) ?_
                      intro A8 c8 w8 ho8 hg8 hw8
                      replace hbx := hbx.growt ((hO.below hp8).1.1) hg8 (by decide)
                      refine hK.out _ _ ?_ (fun hHeld => ?_)
                      · trivial
                      clear hK K
                      try simp only [Act.put, List.setIfInBounds_toArray]
                      refine wpAnyH_take (i := 6) (v := ?_) rfl (by kernel_rfl) (by kernel_rfl) (by kernel_rfl) (fun _ _ _ h => h) (Or.inl ⟨by rfl, ?_⟩) (by assumption) ?_
                      rotate_left
                      · intro w hSw
                        try dsimp only at hSw
                        go_simp
                        try with_reducible rfl
                      try simp only [Act.put]
                      refine wpAnyH_ready (rs := [7]) (by kernel_rfl) (by simp) ?_
                      refine AllReadyH.cons rfl (fun K hK => ?_) ?_
                      · have xf := hbx.cell 3
                        have ff := hbx.frozen 3
                        go_simp
                        have hb9 : Blk (w8.setCell ⟨gf, 3, none⟩ (.slice A8 (ts'.length + 1) c8)) gf 32 #[.int .i64 cf.q, .int .i64 X2, .int .i64 X3, .slice A8 (ts' ++ [(⟨D, dd, t.xs⟩ : Sl)]).length c8, .slice B' us'.length d', .slice C' r k'] := by
                          rw [List.length_append]
                          exact hbx.set_ 3 _
                        have hO8 := hO.snocW (u := ⟨D, dd, t.xs⟩) hp8 ho8 hg8 hw8.1 (oD.alloc (.cells #[.slice D t.xs.length dd] 25)) hk7 (Nat.le_trans hsz0 hk7)
                        have hO9 := hO8.far (w' := w8.setCell ⟨gf, 3, none⟩ (.slice A8 (ts'.length + 1) c8)) hbx (by decide) (by decide) (fun b hb => Below.heap_setCell _ _ _ _ hb)
                        have hz9 : Below W2.heap.size W2 (w8.setCell ⟨gf, 3, none⟩ (.slice A8 (ts'.length + 1) c8)) := (((hO.below hp8).1.1).below_of (hz.trans (hp8.mono hsz0)) hg8 (by omega)).setCell hgf _
                        refine hK.out _ _ ?_ (fun hHeld => ?_)
                        · trivial
                        clear hK K
                        try simp only [Act.put, List.setIfInBounds_toArray]
                        refine wpAnyH_done (by kernel_rfl) ?_ _
                        generalize w8.setCell ⟨gf, 3, none⟩ (.slice A8 (ts'.length + 1) c8) = w9 at *
                        have hres : BncTo W2 W2.heap.size gf cf.q X2 X3 r (nums ts) (k + 1) w9 := ⟨A8, c8, ts' ++ [⟨D, dd, t.xs⟩], B', d', us', C', k', hb9, hO9, by rw [hev.1, if_pos he, ← hW]; simp [nums], by rw [hev.2, if_pos he, ← hR], hz9⟩
                        go_wp2_with fail
                        exact ⟨⟨k + 1, by omega, by go_num, Lib.hid hres⟩, by simp [intOf]; omega⟩
                      exact AllReadyH.nil
                    exact AllReadyH.nil
                  exact AllReadyH.nil
                exact AllReadyH.nil
              exact AllReadyH.nil
            · have e2 : (k : Int).tmod 2 = 1 := by rw [Int.tmod_eq_emod_of_nonneg i1]; omega
              go_upto_region 13 with fail
              have hp : Below wr.heap.size wr wr.drew := below_drewN (Below.refl _ _) 1
              have hbx := hb.below' hp
              refine wp_region_held_drew (S := (fun _ => True)) (by kernel_rfl) ?_ (fun hHeld => ?_)
              · trivial
              generalize wr.drew = Wc at *
              refine wpAnyH_take (i := 0) (v := ?_) rfl (by kernel_rfl) (by kernel_rfl) (by kernel_rfl) (fun _ _ _ h => h) (Or.inl ⟨by rfl, ?_⟩) (by assumption) ?_
              rotate_left
              · intro w hSw
                try dsimp only at hSw
                go_simp
                try with_reducible rfl
              try simp only [Act.put, List.setIfInBounds_toArray]
              refine wpAnyH_take (i := 2) (v := ?_) rfl (by kernel_rfl) (by kernel_rfl) (by kernel_rfl) (fun _ _ _ h => h) (Or.inl ⟨by rfl, ?_⟩) (by assumption) ?_
              rotate_left
              · intro w hSw
                try dsimp only at hSw
                go_simp
                try with_reducible rfl
              try simp only [Act.put]
              refine wpAnyH_ready (rs := [1, 3]) (by kernel_rfl) (by simp) ?_
              refine AllReadyH.cons rfl (fun K hK => ?_) ?_
              · have xf := hbx.cell 4
                go_simp
                clear xf
                refine hK.out _ _ ?_ (fun hHeld => ?_)
                · trivial
                clear hK K
                try simp only [Act.put, List.setIfInBounds_toArray, List.set_cons_zero, List.set_cons_succ]
                refine wpAnyH_ready (rs := [3]) (by kernel_rfl) (by simp) ?_
                refine AllReadyH.cons rfl (fun K hK => ?_) ?_
                · go_simp
                  refine (cloneI_any _ _ _ t.xs _ (HROW.out.below hp) hnt).mono ?_
                  rintro e W7 ⟨D, dd, rfl, oD, z7⟩
                  have hk7 := hp.size
                  replace hp := hp.trans (z7.mono hp.size)
                  replace hbx := hbx.below' z7
                  refine hK.out _ _ ?_ (fun hHeld => ?_)
                  · trivial
                  clear hK K
                  try simp only [Act.put, List.setIfInBounds_toArray, List.set_cons_zero, List.set_cons_succ]
                  refine wpAnyH_ready (rs := [4]) (by kernel_rfl) (by simp) ?_
                  refine AllReadyH.cons rfl (fun K hK => ?_) ?_
                  · go_simp
                    replace hbx := hbx.alloc (.cells #[.slice D t.xs.length dd] 25)
                    have hp8 := hp.alloc hp.size (.cells #[.slice D t.xs.length dd] 25)
                    refine hK.out _ _ ?_ (fun hHeld => ?_)
                    · trivial
                    clear hK K
                    try simp only [Act.put, List.setIfInBounds_toArray, List.set_cons_zero, List.set_cons_succ]
                    refine wpAnyH_ready (rs := [5]) (by kernel_rfl) (by simp) ?_
                    refine AllReadyH.cons rfl (fun K hK => ?_) ?_
                    · rw [if_pos (by rfl)]
                      have hsz := hp8.size
                      refine wp_append_Own (.tmp 91) (.tmp 94) rfl elII (lo := W2.heap.size) rfl ((hO.below hp8).2.1.1) rfl (Rd.new1 W7 _ _) (by simp [Value.oneCell']) (by omega) (by simp only [maxLen]; omega) (by omega) ?_
                      intro A8 c8 w8 ho8 hg8 hw8
                      replace hbx := hbx.growt ((hO.below hp8).2.1.1) hg8 (by decide)
                      refine hK.out _ _ ?_ (fun hHeld => ?_)
                      · trivial
                      clear hK K
                      try simp only [Act.put, List.setIfInBounds_toArray]
                      refine wpAnyH_take (i := 6) (v := ?_) rfl (by kernel_rfl) (by kernel_rfl) (by kernel_rfl) (fun _ _ _ h => h) (Or.inl ⟨by rfl, ?_⟩) (by assumption) ?_
                      rotate_left
                      · intro w hSw
                        try dsimp only at hSw
                        go_simp
                        try with_reducible rfl
                      try simp only [Act.put]
                      refine wpAnyH_ready (rs := [7]) (by kernel_rfl) (by simp) ?_
                      refine AllReadyH.cons rfl (fun K hK => ?_) ?_
                      · have xf := hbx.cell 4
                        have ff := hbx.frozen 4
                        go_simp
                        have hb9 : Blk (w8.setCell ⟨gf, 4, none⟩ (.slice A8 (us'.length + 1) c8)) gf 32 #[.int .i64 cf.q, .int .i64 X2, .int .i64 X3, .slice A' ts'.length c', .slice A8 (us' ++ [(⟨D, dd, t.xs⟩ : Sl)]).length c8, .slice C' r k'] := by
                          rw [List.length_append]
                          exact hbx.set_ 4 _
                        have hO8 := hO.snocR (u := ⟨D, dd, t.xs⟩) hp8 ho8 hg8 hw8.1 (oD.alloc (.cells #[.slice D t.xs.length dd] 25)) hk7 (Nat.le_trans hsz0 hk7)
                        have hO9 := hO8.far (w' := w8.setCell ⟨gf, 4, none⟩ (.slice A8 (us'.length + 1) c8)) hbx (by decide) (by decide) (fun b hb => Below.heap_setCell _ _ _ _ hb)
                        have hz9 : Below W2.heap.size W2 (w8.setCell ⟨gf, 4, none⟩ (.slice A8 (us'.length + 1) c8)) := (((hO.below hp8).2.1.1).below_of (hz.trans (hp8.mono hsz0)) hg8 (by omega)).setCell hgf _
                        refine hK.out _ _ ?_ (fun hHeld => ?_)
                        · trivial
                        clear hK K
                        try simp only [Act.put, List.setIfInBounds_toArray]
                        refine wpAnyH_done (by kernel_rfl) ?_ _
                        generalize w8.setCell ⟨gf, 4, none⟩ (.slice A8 (us'.length + 1) c8) = w9 at *
                        have hres : BncTo W2 W2.heap.size gf cf.q X2 X3 r (nums ts) (k + 1) w9 := ⟨A', c', ts', A8, c8, us' ++ [⟨D, dd, t.xs⟩], C', k', hb9, hO9, by rw [hev.1, if_neg he, ← hW], by rw [hev.2, if_neg he, ← hR]; simp [nums], hz9⟩
                        go_wp2_with fail
                        exact ⟨⟨k + 1, by omega, by go_num, Lib.hid hres⟩, by simp [intOf]; omega⟩
                      exact AllReadyH.nil
                    exact AllReadyH.nil
                  exact AllReadyH.nil
                exact AllReadyH.nil
              refine AllReadyH.cons rfl (fun K hK => ?_) ?_
              · go_simp
                refine (cloneI_any _ _ _ t.xs _ (HROW.out.below hp) hnt).mono ?_
                rintro e W7 ⟨D, dd, rfl, oD, z7⟩
                have hk7 := hp.size
                replace hp := hp.trans (z7.mono hp.size)
                replace hbx := hbx.below' z7
                refine hK.out _ _ ?_ (fun hHeld => ?_)
                · trivial
                clear hK K
                try simp only [Act.put, List.setIfInBounds_toArray, List.set_cons_zero, List.set_cons_succ]
                refine wpAnyH_ready (rs := [1, 4]) (by kernel_rfl) (by simp) ?_
                refine AllReadyH.cons rfl (fun K hK => ?_) ?_
                · have xf := hbx.cell 4
                  go_simp
                  clear xf
                  refine hK.out _ _ ?_ (fun hHeld => ?_)
                  · trivial
                  clear hK K
                  try simp only [Act.put, List.setIfInBounds_toArray, List.set_cons_zero, List.set_cons_succ]
                  refine wpAnyH_ready (rs := [4]) (by kernel_rfl) (by simp) ?_
                  refine AllReadyH.cons rfl (fun K hK => ?_) ?_
                  · go_simp
                    replace hbx := hbx.alloc (.cells #[.slice D t.xs.length dd] 25)
                    have hp8 := hp.alloc hp.size (.cells #[.slice D t.xs.length dd] 25)
                    refine hK.out _ _ ?_ (fun hHeld => ?_)
                    · trivial
                    clear hK K
                    try simp only [Act.put, List.setIfInBounds_toArray, List.set_cons_zero, List.set_cons_succ]
                    refine wpAnyH_ready (rs := [5]) (by kernel_rfl) (by simp) ?_
                    refine AllReadyH.cons rfl (fun K hK => ?_) ?_
                    · rw [if_pos (by rfl)]
                      have hsz := hp8.size
                      refine wp_append_Own (.tmp 91) (.tmp 94) rfl elII (lo := W2.heap.size) rfl ((hO.below hp8).2.1.1) rfl (Rd.new1 W7 _ _) (by simp [Value.oneCell']) (by omega) (by simp only [maxLen]; omega) (by omega) ?_
                      intro A8 c8 w8 ho8 hg8 hw8
                      replace hbx := hbx.growt ((hO.below hp8).2.1.1) hg8 (by decide)
                      refine hK.out _ _ ?_ (fun hHeld => ?_)
                      · trivial
                      clear hK K
                      try simp only [Act.put, List.setIfInBounds_toArray]
                      refine wpAnyH_take (i := 6) (v := ?_) rfl (by kernel_rfl) (by kernel_rfl) (by kernel_rfl) (fun _ _ _ h => h) (Or.inl ⟨by rfl, ?_⟩) (by assumption) ?_
                      rotate_left
                      · intro w hSw
                        try dsimp only at hSw
                        go_simp
                        try with_reducible rfl
                      try simp only [Act.put]
                      refine wpAnyH_ready (rs := [7]) (by kernel_rfl) (by simp) ?_
                      refine AllReadyH.cons rfl (fun K hK => ?_) ?_
                      · have xf := hbx.cell 4
                        have ff := hbx.frozen 4
                        go_simp
                        have hb9 : Blk (w8.setCell ⟨gf, 4, none⟩ (.slice A8 (us'.length + 1) c8)) gf 32 #[.int .i64 cf.q, .int .i64 X2, .int .i64 X3, .slice A' ts'.length c', .slice A8 (us' ++ [(⟨D, dd, t.xs⟩ : Sl)]).length c8, .slice C' r k'] := by
                          rw [List.length_append]
                          exact hbx.set_ 4 _
                        have hO8 := hO.snocR (u := ⟨D, dd, t.xs⟩) hp8 ho8 hg8 hw8.1 (oD.alloc (.cells #[.slice D t.xs.length dd] 25)) hk7 (Nat.le_trans hsz0 hk7)
                        have hO9 := hO8.far (w' := w8.setCell ⟨gf, 4, none⟩ (.slice A8 (us'.length + 1) c8)) hbx (by decide) (by decide) (fun b hb => Below.heap_setCell _ _ _ _ hb)
                        have hz9 : Below W2.heap.size W2 (w8.setCell ⟨gf, 4, none⟩ (.slice A8 (us'.length + 1) c8)) := (((hO.below hp8).2.1.1).below_of (hz.trans (hp8.mono hsz0)) hg8 (by omega)).setCell hgf _
                        refine hK.out _ _ ?_ (fun hHeld => ?_)
                        · trivial
                        clear hK K
                        try simp only [Act.put, List.setIfInBounds_toArray]
                        refine wpAnyH_done (by kernel_rfl) ?_ _
                        generalize w8.setCell ⟨gf, 4, none⟩ (.slice A8 (us'.length + 1) c8) = w9 at *
                        have hres : BncTo W2 W2.heap.size gf cf.q X2 X3 r (nums ts) (k + 1) w9 := ⟨A', c', ts', A8, c8, us' ++ [⟨D, dd, t.xs⟩], C', k', hb9, hO9, by rw [hev.1, if_neg he, ← hW], by rw [hev.2, if_neg he, ← hR]; simp [nums], hz9⟩
                        go_wp2_with fail
                        exact ⟨⟨k + 1, by omega, by go_num, Lib.hid hres⟩, by simp [intOf]; omega⟩
                      exact AllReadyH.nil
                    exact AllReadyH.nil
                  exact AllReadyH.nil
                refine AllReadyH.cons rfl (fun K hK => ?_) ?_
                · go_simp
                  replace hbx := hbx.alloc (.cells #[.slice D t.xs.length dd] 25)
                  have hp8 := hp.alloc hp.size (.cells #[.slice D t.xs.length dd] 25)
                  refine hK.out _ _ ?_ (fun hHeld => ?_)
                  · trivial
                  clear hK K
                  try simp only [Act.put, List.setIfInBounds_toArray, List.set_cons_zero, List.set_cons_succ]
                  refine wpAnyH_ready (rs := [1]) (by kernel_rfl) (by simp) ?_
                  refine AllReadyH.cons rfl (fun K hK => ?_) ?_
                  · have xf := hbx.cell 4
                    go_simp
                    clear xf
                    refine hK.out _ _ ?_ (fun hHeld => ?_)
                    · trivial
                    clear hK K
                    try simp only [Act.put, List.setIfInBounds_toArray, List.set_cons_zero, List.set_cons_succ]
                    refine wpAnyH_ready (rs := [5]) (by kernel_rfl) (by simp) ?_
                    refine AllReadyH.cons rfl (fun K hK => ?_) ?_
                    · rw [if_pos (by rfl)]
                      have hsz := hp8.size
                      refine wp_append_Own (.tmp 91) (.tmp 94) rfl elII (lo := W2.heap.size) rfl ((hO.below hp8).2.1.1) rfl (Rd.new1 W7 _ _) (by simp [Value.oneCell']) (by omega) (by simp only [maxLen]; omega) (by omega) ?_
                      intro A8 c8 w8 ho8 hg8 hw8
                      replace hbx := hbx.growt ((hO.below hp8).2.1.1) hg8 (by decide)
                      refine hK.out _ _ ?_ (fun hHeld => ?_)
                      · trivial
                      clear hK K
                      try simp only [Act.put, List.setIfInBounds_toArray]
                      refine wpAnyH_take (i := 6) (v := ?_) rfl (by kernel_rfl) (by kernel_rfl) (by kernel_rfl) (fun _ _ _ h => h) (Or.inl ⟨by rfl, ?_⟩) (by assumption) ?_
                      rotate_left
                      · intro w hSw
                        try dsimp only at hSw
                        go_simp
                        try with_reducible rfl
                      try simp only [Act.put]
                      refine wpAnyH_ready (rs := [7]) (by kernel_rfl) (by simp) ?_
                      refine AllReadyH.cons rfl (fun K hK => ?_) ?_
                      · have xf := hbx.cell 4
                        have ff := hbx.frozen 4
                        go_simp
                        have hb9 : Blk (w8.setCell ⟨gf, 4, none⟩ (.slice A8 (us'.length + 1) c8)) gf 32 #[.int .i64 cf.q, .int .i64 X2, .int .i64 X3, .slice A' ts'.length c', .slice A8 (us' ++ [(⟨D, dd, t.xs⟩ : Sl)]).length c8, .slice C' r k'] := by
                          rw [List.length_append]
                          exact hbx.set_ 4 _
                        have hO8 := hO.snocR (u := ⟨D, dd, t.xs⟩) hp8 ho8 hg8 hw8.1 (oD.alloc (.cells #[.slice D t.xs.length dd] 25)) hk7 (Nat.le_trans hsz0 hk7)
                        have hO9 := hO8.far (w' := w8.setCell ⟨gf, 4, none⟩ (.slice A8 (us'.length + 1) c8)) hbx (by decide) (by decide) (fun b hb => Below.heap_setCell _ _ _ _ hb)
                        have hz9 : Below W2.heap.size W2 (w8.setCell ⟨gf, 4, none⟩ (.slice A8 (us'.length + 1) c8)) := (((hO.below hp8).2.1.1).below_of (hz.trans (hp8.mono hsz0)) hg8 (by omega)).setCell hgf _
                        refine hK.out _ _ ?_ (fun hHeld => ?_)
                        · trivial
                        clear hK K
                        try simp only [Act.put, List.setIfInBounds_toArray]
                        refine wpAnyH_done (by kernel_rfl) ?_ _
                        generalize w8.setCell ⟨gf, 4, none⟩ (.slice A8 (us'.length + 1) c8) = w9 at *
                        have hres : BncTo W2 W2.heap.size gf cf.q X2 X3 r (nums ts) (k + 1) w9 := ⟨A', c', ts', A8, c8, us' ++ [⟨D, dd, t.xs⟩], C', k', hb9, hO9, by rw [hev.1, if_neg he, ← hW], by rw [hev.2, if_neg he, ← hR]; simp [nums], hz9⟩
                        go_wp2_with fail
                        exact ⟨⟨k + 1, by omega, by go_num, Lib.hid hres⟩, by simp [intOf]; omega⟩
                      exact AllReadyH.nil
                    exact AllReadyH.nil
                  exact AllReadyH.nil
                exact AllReadyH.nil
              exact AllReadyH.nil
          · obtain rfl : k = m := by omega
            have i2 : ¬ (k : Int) < (k : Int) := by omega
            rw [List.take_of_length_le (by rw [HTL.out]; omega)] at hW hR
            have HBF : Hid ((⟨cf.q, X2, X3, nums ts', nums us', List.replicate r 0⟩ : Fm) = buildF cf.q X2 X3 (nums ts) r) := Lib.hid (by unfold buildF; rw [hW, hR])
            have zW : Below W.heap.size W wr := z2.trans (hz.mono z2.size)
            have y4 : Below w.heap.size w wr := y0.trans (zW.mono y0.size)
            have d0 := b0.below' zW
            have d1 := b1.below' zW
            have d2 := b2.below' zW
            obtain ⟨s1, s2, s3, s4⟩ := machB_bounds HMB.out
            have hk7 : k ≤ 7 := by have := HMR.out; omega
            have hle : ts'.length ≤ 1048576 := by have h1 := congrArg List.length hW; rw [nums_len, (evens_len _).1, HTL.out] at h1; omega
            have hle' : us'.length ≤ 1048576 := by have h1 := congrArg List.length hR; rw [nums_len, (evens_len _).2, HTL.out] at h1; omega
            have HRW : Hid (∀ t ∈ ts', t.xs.length ≤ 1048576) := Lib.hid (fun t ht => by
              have h1 : t.xs ∈ nums ts' := List.mem_map.2 ⟨t, ht, rfl⟩
              rw [hW] at h1
              obtain ⟨u, hu, e⟩ := List.mem_map.1 (evens_mem.1 h1)
              rw [← e]; exact HNS.out u hu)
            have HRR : Hid (∀ t ∈ us', t.xs.length ≤ 1048576) := Lib.hid (fun t ht => by
              have h1 : t.xs ∈ nums us' := List.mem_map.2 ⟨t, ht, rfl⟩
              rw [hR] at h1
              obtain ⟨u, hu, e⟩ := List.mem_map.1 (evens_mem.2 h1)
              rw [← e]; exact HNS.out u hu)
            have HOO := Lib.hid hO
            have HBX := Lib.hid hb
            have ZW := Lib.hid zW
            have HRC4 := Lib.hid (HRC.out.below hz)
            clear hW hR hz zW hb HB hO
            have u0 : wr.cell? ⟨w.heap.size, 0, none⟩ = some (.int .i64 sy) := d0.cell 0
            have u1 : wr.cell? ⟨w.heap.size, 1, none⟩ = some (.int .i64 st) := d0.cell 1
            have u2 : wr.cell? ⟨w.heap.size, 2, none⟩ = some (.slice A0 n0 k0) := d0.cell 2
            have v0 : wr.cell? ⟨gf, 0, none⟩ = some (.int .i64 cf.q) := HBX.out.cell 0
            have v1 : wr.cell? ⟨gf, 1, none⟩ = some (.int .i64 X2) := HBX.out.cell 1
            have v2 : wr.cell? ⟨gf, 2, none⟩ = some (.int .i64 X3) := HBX.out.cell 2
            have v3 : wr.cell? ⟨gf, 3, none⟩ = some (.slice A' ts'.length c') := HBX.out.cell 3
            have v4 : wr.cell? ⟨gf, 4, none⟩ = some (.slice B' us'.length d') := HBX.out.cell 4
            have v5 : wr.cell? ⟨gf, 5, none⟩ = some (.slice C' r k') := HBX.out.cell 5
            have HOC : Hid (SI wr C' r (List.replicate r 0)) := Lib.hid (by have h := HOO.out.2.2.1.asI; rwa [List.length_replicate] at h)
            cases a2 : fmB sy st ⟨cf.q, X2, X3, nums ts', nums us', List.replicate r 0⟩
            · have A2 := Lib.hid a2
              clear a2
              obtain rfl : res = (Fm.zero, 9) := by rw [HRES2.out, A1.out, HA.out, ← HBF.out, A2.out]; rfl
              have HC : Hid (∀ dz oz, Calls Try.prog 176 #[.agg #[.int .i64 sy, .int .i64 st, .slice A0 n0 k0], .agg #[.int .i64 cf.q, .int .i64 X2, .int .i64 X3, .slice A' ts'.length c', .slice B' us'.length d', .slice C' r k']] (grow (redrawn wr dz) oz) fun e w' => e = .returned (.bool false) ∧ ∃ p : Regrown, w' = grow (redrawn wr p.d) p.os) :=
                fun dz oz => Calls.regrown_of (formulaOf_is A2.out _ (HOO.out.1.sii.below (below_regrown wr dz oz)) (HOO.out.2.1.sii.below (below_regrown wr dz oz)) (HOC.out.below (below_regrown wr dz oz)) hle hle' (by omega) HRW.out HRR.out s1 s2 s3 s4)
              go_wp2_with fail
              have k0 := cell_regrown u0
              have k1 := cell_regrown u1
              have k2 := cell_regrown u2
              have m0 := cell_regrown v0
              have m1 := cell_regrown v1
              have m2 := cell_regrown v2
              have m3 := cell_regrown v3
              have m4 := cell_regrown v4
              have m5 := cell_regrown v5
              refine wp_region_quiet_below (by kernel_rfl) (by kernel_rfl) ?_
              repeat (go_big_quiet_step ((go_at_call 176; exact HC.out _ _)))
              refine wpQuiet_nil ?_
              intro _ hw'
              obtain ⟨⟨dq, osq⟩, hw''⟩ := hw'
              subst hw''
              have z5 := below_regrown wr dq osq
              clear k0 k1 k2 m0 m1 m2 m3 m4 m5
              generalize grow (redrawn wr dq) osq = W5 at *
              have d2 := d2.below' z5
              have y5 := y4.trans (z5.mono y4.size)
              have x0 : W5.cell? ⟨(w.heap.size + 1 + 1), 0, none⟩ = some (.int .i64 0) := d2.cell 0
              have x1 : W5.cell? ⟨(w.heap.size + 1 + 1), 1, none⟩ = some (.int .i64 0) := d2.cell 1
              have x2 : W5.cell? ⟨(w.heap.size + 1 + 1), 2, none⟩ = some (.int .i64 0) := d2.cell 2
              have x3 : W5.cell? ⟨(w.heap.size + 1 + 1), 3, none⟩ = some (.int .i64 0) := d2.cell 3
              have x4 : W5.cell? ⟨(w.heap.size + 1 + 1), 4, none⟩ = some (.slice none 0 0) := d2.cell 4
              have x5 : W5.cell? ⟨(w.heap.size + 1 + 1), 5, none⟩ = some (.slice none 0 0) := d2.cell 5
              have x6 : W5.cell? ⟨(w.heap.size + 1 + 1), 6, none⟩ = some (.slice none 0 0) := d2.cell 6
              have x7 : W5.cell? ⟨(w.heap.size + 1 + 1), 7, none⟩ = some (.slice none 0 0) := d2.cell 7
              have x8 : W5.cell? ⟨(w.heap.size + 1 + 1), 8, none⟩ = some (.int .i64 0) := d2.cell 8
              have x9 : W5.cell? ⟨(w.heap.size + 1 + 1), 9, none⟩ = some (.slice none 0 0) := d2.cell 9
              have x10 : W5.cell? ⟨(w.heap.size + 1 + 1), 10, none⟩ = some (.slice none 0 0) := d2.cell 10
              have f0 := d2.frozen 0
              have f1 := d2.frozen 1
              have f2 := d2.frozen 2
              have f3 := d2.frozen 3
              have f4 := d2.frozen 4
              have f5 := d2.frozen 5
              have f6 := d2.frozen 6
              have f7 := d2.frozen 7
              have f8 := d2.frozen 8
              have f9 := d2.frozen 9
              have f10 := d2.frozen 10
              go_wp2_with fail
              clear x0 x1 x2 x3 x4 x5 x6 x7 x8 x9 x10
              have dB : Blk (((((((((((W5.setCell ⟨(w.heap.size + 1 + 1), 0, none⟩ (.int .i64 0)).setCell ⟨(w.heap.size + 1 + 1), 1, none⟩ (.int .i64 0)).setCell ⟨(w.heap.size + 1 + 1), 2, none⟩ (.int .i64 0)).setCell ⟨(w.heap.size + 1 + 1), 3, none⟩ (.int .i64 0)).setCell ⟨(w.heap.size + 1 + 1), 4, none⟩ (.slice none 0 0)).setCell ⟨(w.heap.size + 1 + 1), 5, none⟩ (.slice none 0 0)).setCell ⟨(w.heap.size + 1 + 1), 6, none⟩ (.slice none 0 0)).setCell ⟨(w.heap.size + 1 + 1), 7, none⟩ (.slice none 0 0)).setCell ⟨(w.heap.size + 1 + 1), 8, none⟩ (.int .i64 0)).setCell ⟨(w.heap.size + 1 + 1), 9, none⟩ (.slice none 0 0)).setCell ⟨(w.heap.size + 1 + 1), 10, none⟩ (.slice none 0 0)) (w.heap.size + 1 + 1) 131 #[.int .i64 0, .int .i64 0, .int .i64 0, .int .i64 0, .slice none 0 0, .slice none 0 0, .slice none 0 0, .slice none 0 0, .int .i64 0, .slice none 0 0, .slice none 0 0] := bn_set d2 (.int .i64 0) (.int .i64 0) (.int .i64 0) (.int .i64 0) (.slice none 0 0) (.slice none 0 0) (.slice none 0 0) (.slice none 0 0) (.int .i64 0) (.slice none 0 0) (.slice none 0 0)
              have yS : ∀ (lo : Nat) (w0 : World), Below lo w0 W5 → lo ≤ (w.heap.size + 1 + 1) → Below lo w0 (((((((((((W5.setCell ⟨(w.heap.size + 1 + 1), 0, none⟩ (.int .i64 0)).setCell ⟨(w.heap.size + 1 + 1), 1, none⟩ (.int .i64 0)).setCell ⟨(w.heap.size + 1 + 1), 2, none⟩ (.int .i64 0)).setCell ⟨(w.heap.size + 1 + 1), 3, none⟩ (.int .i64 0)).setCell ⟨(w.heap.size + 1 + 1), 4, none⟩ (.slice none 0 0)).setCell ⟨(w.heap.size + 1 + 1), 5, none⟩ (.slice none 0 0)).setCell ⟨(w.heap.size + 1 + 1), 6, none⟩ (.slice none 0 0)).setCell ⟨(w.heap.size + 1 + 1), 7, none⟩ (.slice none 0 0)).setCell ⟨(w.heap.size + 1 + 1), 8, none⟩ (.int .i64 0)).setCell ⟨(w.heap.size + 1 + 1), 9, none⟩ (.slice none 0 0)).setCell ⟨(w.heap.size + 1 + 1), 10, none⟩ (.slice none 0 0)) := fun lo w0 h hl => bn_below h hl (.int .i64 0) (.int .i64 0) (.int .i64 0) (.int .i64 0) (.slice none 0 0) (.slice none 0 0) (.slice none 0 0) (.slice none 0 0) (.int .i64 0) (.slice none 0 0) (.slice none 0 0)
              have kS : ∀ k, k ≠ (w.heap.size + 1 + 1) → (((((((((((W5.setCell ⟨(w.heap.size + 1 + 1), 0, none⟩ (.int .i64 0)).setCell ⟨(w.heap.size + 1 + 1), 1, none⟩ (.int .i64 0)).setCell ⟨(w.heap.size + 1 + 1), 2, none⟩ (.int .i64 0)).setCell ⟨(w.heap.size + 1 + 1), 3, none⟩ (.int .i64 0)).setCell ⟨(w.heap.size + 1 + 1), 4, none⟩ (.slice none 0 0)).setCell ⟨(w.heap.size + 1 + 1), 5, none⟩ (.slice none 0 0)).setCell ⟨(w.heap.size + 1 + 1), 6, none⟩ (.slice none 0 0)).setCell ⟨(w.heap.size + 1 + 1), 7, none⟩ (.slice none 0 0)).setCell ⟨(w.heap.size + 1 + 1), 8, none⟩ (.int .i64 0)).setCell ⟨(w.heap.size + 1 + 1), 9, none⟩ (.slice none 0 0)).setCell ⟨(w.heap.size + 1 + 1), 10, none⟩ (.slice none 0 0)).heap[k]? = W5.heap[k]? := fun k hk => bn_kept (.int .i64 0) (.int .i64 0) (.int .i64 0) (.int .i64 0) (.slice none 0 0) (.slice none 0 0) (.slice none 0 0) (.slice none 0 0) (.int .i64 0) (.slice none 0 0) (.slice none 0 0) k hk
              generalize ((((((((((W5.setCell ⟨(w.heap.size + 1 + 1), 0, none⟩ (.int .i64 0)).setCell ⟨(w.heap.size + 1 + 1), 1, none⟩ (.int .i64 0)).setCell ⟨(w.heap.size + 1 + 1), 2, none⟩ (.int .i64 0)).setCell ⟨(w.heap.size + 1 + 1), 3, none⟩ (.int .i64 0)).setCell ⟨(w.heap.size + 1 + 1), 4, none⟩ (.slice none 0 0)).setCell ⟨(w.heap.size + 1 + 1), 5, none⟩ (.slice none 0 0)).setCell ⟨(w.heap.size + 1 + 1), 6, none⟩ (.slice none 0 0)).setCell ⟨(w.heap.size + 1 + 1), 7, none⟩ (.slice none 0 0)).setCell ⟨(w.heap.size + 1 + 1), 8, none⟩ (.int .i64 0)).setCell ⟨(w.heap.size + 1 + 1), 9, none⟩ (.slice none 0 0)).setCell ⟨(w.heap.size + 1 + 1), 10, none⟩ (.slice none 0 0) = wf at *
              have x0 : wf.cell? ⟨(w.heap.size + 1 + 1), 0, none⟩ = some (.int .i64 0) := dB.cell 0
              have x1 : wf.cell? ⟨(w.heap.size + 1 + 1), 1, none⟩ = some (.int .i64 0) := dB.cell 1
              have x2 : wf.cell? ⟨(w.heap.size + 1 + 1), 2, none⟩ = some (.int .i64 0) := dB.cell 2
              have x3 : wf.cell? ⟨(w.heap.size + 1 + 1), 3, none⟩ = some (.int .i64 0) := dB.cell 3
              have x4 : wf.cell? ⟨(w.heap.size + 1 + 1), 4, none⟩ = some (.slice none 0 0) := dB.cell 4
              have x5 : wf.cell? ⟨(w.heap.size + 1 + 1), 5, none⟩ = some (.slice none 0 0) := dB.cell 5
              have x6 : wf.cell? ⟨(w.heap.size + 1 + 1), 6, none⟩ = some (.slice none 0 0) := dB.cell 6
              have x7 : wf.cell? ⟨(w.heap.size + 1 + 1), 7, none⟩ = some (.slice none 0 0) := dB.cell 7
              have x8 : wf.cell? ⟨(w.heap.size + 1 + 1), 8, none⟩ = some (.int .i64 0) := dB.cell 8
              have x9 : wf.cell? ⟨(w.heap.size + 1 + 1), 9, none⟩ = some (.slice none 0 0) := dB.cell 9
              have x10 : wf.cell? ⟨(w.heap.size + 1 + 1), 10, none⟩ = some (.slice none 0 0) := dB.cell 10
              exact bodyPost_ret (v := .tuple #[.agg #[.int .i64 0, .int .i64 0, .int .i64 0, .int .i64 0, .slice none 0 0, .slice none 0 0, .slice none 0 0, .slice none 0 0, .int .i64 0, .slice none 0 0, .slice none 0 0], .int .i64 9]) (by simp [results, Try.results87, go_sem, x0, x1, x2, x3, x4, x5, x6, x7, x8, x9, x10]) rfl (newBnc_zero (yS _ _ y5 (by omega)))
            have A2 := Lib.hid a2
            obtain ⟨e0, e1, e2, e3, e4, e5, e6, e7, _, _⟩ := fmB_parts a2
            clear a2
            obtain ⟨hN, rfl⟩ : ∃ hN : Nat, X2 = (hN : Int) := ⟨X2.toNat, by have : 0 ≤ X2 := e0; omega⟩
            have e1' : hN ≤ us'.length := by have h1 : (hN : Int) ≤ ((nums us').length : Int) := e1; rw [nums_len] at h1; omega
            have e2' : ts'.length = us'.length + 1 := by have h1 : (nums ts').length = (nums us').length + 1 := e2; rw [nums_len, nums_len] at h1; exact h1
            obtain ⟨t, bb, off, hT, htm, hA', hbl, hc, _⟩ := HOO.out.1.sii.pick (k := hN) (by omega)
            have hnt := HRW.out t htm
            have HON : Hid (onB ⟨cf.q, (hN : Int), X3, nums ts', nums us', List.replicate r 0⟩ = inB X3 0 ((t.xs.length : Int) - 1)) := Lib.hid (by unfold onB; show inB X3 0 (((rowAt (nums ts') (hN : Int)).length : Int) - 1) = _; rw [rowAt_eq hT.out])
            have HTM := Lib.hid hT.out
            clear e0 e1 e2 e3 e4 e5 e6 e7 hT
            subst hA'
            have i3 : (0 : Int) ≤ (hN : Int) := by omega
            have i4 : (hN : Int) < (ts'.length : Int) := by omega
            clear e1' e2'
            cases a3 : inB X3 0 ((t.xs.length : Int) - 1)
            · have A3 := Lib.hid a3
              clear a3
              obtain rfl : res = (Fm.zero, 9) := by rw [HRES2.out, A1.out, HA.out, ← HBF.out, A2.out, HON.out, A3.out]; rfl
              have HC : Hid (∀ dz oz, Calls Try.prog 176 #[.agg #[.int .i64 sy, .int .i64 st, .slice A0 n0 k0], .agg #[.int .i64 cf.q, .int .i64 (hN : Int), .int .i64 X3, .slice (some ⟨bb, off, none⟩) ts'.length c', .slice B' us'.length d', .slice C' r k']] (grow (redrawn wr dz) oz) fun e w' => e = .returned (.bool true) ∧ ∃ p : Regrown, w' = grow (redrawn wr p.d) p.os) :=
                fun dz oz => Calls.regrown_of (formulaOf_is A2.out _ (HOO.out.1.sii.below (below_regrown wr dz oz)) (HOO.out.2.1.sii.below (below_regrown wr dz oz)) (HOC.out.below (below_regrown wr dz oz)) hle hle' (by omega) HRW.out HRR.out s1 s2 s3 s4)
              go_wp2_with fail
              have k0 := cell_regrown u0
              have k1 := cell_regrown u1
              have k2 := cell_regrown u2
              have m0 := cell_regrown v0
              have m1 := cell_regrown v1
              have m2 := cell_regrown v2
              have m3 := cell_regrown v3
              have m4 := cell_regrown v4
              have m5 := cell_regrown v5
              have n0_ := cell_regrown hc
              refine wp_region_quiet_below (by kernel_rfl) (by kernel_rfl) ?_
              repeat (go_big_quiet_step ((first
                | (go_at_call 176; exact HC.out _ _)
                | (go_at_call 177; exact Calls.regrown_of ((sizeI_any _ _ _ _ (by omega)).mono fun _ _ ⟨he, hw⟩ => ⟨he, hw ▸ Below.refl _ _⟩))
                | (go_at_call 103; exact Calls.regrown_of ((within_is A3.out _).mono fun _ _ ⟨he, hw⟩ => ⟨he, hw ▸ Below.refl _ _⟩)))))
              refine wpQuiet_nil ?_
              intro _ hw'
              obtain ⟨⟨dq, osq⟩, hw''⟩ := hw'
              subst hw''
              have z5 := below_regrown wr dq osq
              clear k0 k1 k2 m0 m1 m2 m3 m4 m5 n0_
              generalize grow (redrawn wr dq) osq = W5 at *
              have d2 := d2.below' z5
              have y5 := y4.trans (z5.mono y4.size)
              have x0 : W5.cell? ⟨(w.heap.size + 1 + 1), 0, none⟩ = some (.int .i64 0) := d2.cell 0
              have x1 : W5.cell? ⟨(w.heap.size + 1 + 1), 1, none⟩ = some (.int .i64 0) := d2.cell 1
              have x2 : W5.cell? ⟨(w.heap.size + 1 + 1), 2, none⟩ = some (.int .i64 0) := d2.cell 2
              have x3 : W5.cell? ⟨(w.heap.size + 1 + 1), 3, none⟩ = some (.int .i64 0) := d2.cell 3
              have x4 : W5.cell? ⟨(w.heap.size + 1 + 1), 4, none⟩ = some (.slice none 0 0) := d2.cell 4
              have x5 : W5.cell? ⟨(w.heap.size + 1 + 1), 5, none⟩ = some (.slice none 0 0) := d2.cell 5
              have x6 : W5.cell? ⟨(w.heap.size + 1 + 1), 6, none⟩ = some (.slice none 0 0) := d2.cell 6
              have x7 : W5.cell? ⟨(w.heap.size + 1 + 1), 7, none⟩ = some (.slice none 0 0) := d2.cell 7
              have x8 : W5.cell? ⟨(w.heap.size + 1 + 1), 8, none⟩ = some (.int .i64 0) := d2.cell 8
              have x9 : W5.cell? ⟨(w.heap.size + 1 + 1), 9, none⟩ = some (.slice none 0 0) := d2.cell 9
              have x10 : W5.cell? ⟨(w.heap.size + 1 + 1), 10, none⟩ = some (.slice none 0 0) := d2.cell 10
              have f0 := d2.frozen 0
              have f1 := d2.frozen 1
              have f2 := d2.frozen 2
              have f3 := d2.frozen 3
              have f4 := d2.frozen 4
              have f5 := d2.frozen 5
              have f6 := d2.frozen 6
              have f7 := d2.frozen 7
              have f8 := d2.frozen 8
              have f9 := d2.frozen 9
              have f10 := d2.frozen 10
              go_wp2_with fail
              clear x0 x1 x2 x3 x4 x5 x6 x7 x8 x9 x10
              have dB : Blk (((((((((((W5.setCell ⟨(w.heap.size + 1 + 1), 0, none⟩ (.int .i64 0)).setCell ⟨(w.heap.size + 1 + 1), 1, none⟩ (.int .i64 0)).setCell ⟨(w.heap.size + 1 + 1), 2, none⟩ (.int .i64 0)).setCell ⟨(w.heap.size + 1 + 1), 3, none⟩ (.int .i64 0)).setCell ⟨(w.heap.size + 1 + 1), 4, none⟩ (.slice none 0 0)).setCell ⟨(w.heap.size + 1 + 1), 5, none⟩ (.slice none 0 0)).setCell ⟨(w.heap.size + 1 + 1), 6, none⟩ (.slice none 0 0)).setCell ⟨(w.heap.size + 1 + 1), 7, none⟩ (.slice none 0 0)).setCell ⟨(w.heap.size + 1 + 1), 8, none⟩ (.int .i64 0)).setCell ⟨(w.heap.size + 1 + 1), 9, none⟩ (.slice none 0 0)).setCell ⟨(w.heap.size + 1 + 1), 10, none⟩ (.slice none 0 0)) (w.heap.size + 1 + 1) 131 #[.int .i64 0, .int .i64 0, .int .i64 0, .int .i64 0, .slice none 0 0, .slice none 0 0, .slice none 0 0, .slice none 0 0, .int .i64 0, .slice none 0 0, .slice none 0 0] := bn_set d2 (.int .i64 0) (.int .i64 0) (.int .i64 0) (.int .i64 0) (.slice none 0 0) (.slice none 0 0) (.slice none 0 0) (.slice none 0 0) (.int .i64 0) (.slice none 0 0) (.slice none 0 0)
              have yS : ∀ (lo : Nat) (w0 : World), Below lo w0 W5 → lo ≤ (w.heap.size + 1 + 1) → Below lo w0 (((((((((((W5.setCell ⟨(w.heap.size + 1 + 1), 0, none⟩ (.int .i64 0)).setCell ⟨(w.heap.size + 1 + 1), 1, none⟩ (.int .i64 0)).setCell ⟨(w.heap.size + 1 + 1), 2, none⟩ (.int .i64 0)).setCell ⟨(w.heap.size + 1 + 1), 3, none⟩ (.int .i64 0)).setCell ⟨(w.heap.size + 1 + 1), 4, none⟩ (.slice none 0 0)).setCell ⟨(w.heap.size + 1 + 1), 5, none⟩ (.slice none 0 0)).setCell ⟨(w.heap.size + 1 + 1), 6, none⟩ (.slice none 0 0)).setCell ⟨(w.heap.size + 1 + 1), 7, none⟩ (.slice none 0 0)).setCell ⟨(w.heap.size + 1 + 1), 8, none⟩ (.int .i64 0)).setCell ⟨(w.heap.size + 1 + 1), 9, none⟩ (.slice none 0 0)).setCell ⟨(w.heap.size + 1 + 1), 10, none⟩ (.slice none 0 0)) := fun lo w0 h hl => bn_below h hl (.int .i64 0) (.int .i64 0) (.int .i64 0) (.int .i64 0) (.slice none 0 0) (.slice none 0 0) (.slice none 0 0) (.slice none 0 0) (.int .i64 0) (.slice none 0 0) (.slice none 0 0)
              have kS : ∀ k, k ≠ (w.heap.size + 1 + 1) → (((((((((((W5.setCell ⟨(w.heap.size + 1 + 1), 0, none⟩ (.int .i64 0)).setCell ⟨(w.heap.size + 1 + 1), 1, none⟩ (.int .i64 0)).setCell ⟨(w.heap.size + 1 + 1), 2, none⟩ (.int .i64 0)).setCell ⟨(w.heap.size + 1 + 1), 3, none⟩ (.int .i64 0)).setCell ⟨(w.heap.size + 1 + 1), 4, none⟩ (.slice none 0 0)).setCell ⟨(w.heap.size + 1 + 1), 5, none⟩ (.slice none 0 0)).setCell ⟨(w.heap.size + 1 + 1), 6, none⟩ (.slice none 0 0)).setCell ⟨(w.heap.size + 1 + 1), 7, none⟩ (.slice none 0 0)).setCell ⟨(w.heap.size + 1 + 1), 8, none⟩ (.int .i64 0)).setCell ⟨(w.heap.size + 1 + 1), 9, none⟩ (.slice none 0 0)).setCell ⟨(w.heap.size + 1 + 1), 10, none⟩ (.slice none 0 0)).heap[k]? = W5.heap[k]? := fun k hk => bn_kept (.int .i64 0) (.int .i64 0) (.int .i64 0) (.int .i64 0) (.slice none 0 0) (.slice none 0 0) (.slice none 0 0) (.slice none 0 0) (.int .i64 0) (.slice none 0 0) (.slice none 0 0) k hk
              generalize ((((((((((W5.setCell ⟨(w.heap.size + 1 + 1), 0, none⟩ (.int .i64 0)).setCell ⟨(w.heap.size + 1 + 1), 1, none⟩ (.int .i64 0)).setCell ⟨(w.heap.size + 1 + 1), 2, none⟩ (.int .i64 0)).setCell ⟨(w.heap.size + 1 + 1), 3, none⟩ (.int .i64 0)).setCell ⟨(w.heap.size + 1 + 1), 4, none⟩ (.slice none 0 0)).setCell ⟨(w.heap.size + 1 + 1), 5, none⟩ (.slice none 0 0)).setCell ⟨(w.heap.size + 1 + 1), 6, none⟩ (.slice none 0 0)).setCell ⟨(w.heap.size + 1 + 1), 7, none⟩ (.slice none 0 0)).setCell ⟨(w.heap.size + 1 + 1), 8, none⟩ (.int .i64 0)).setCell ⟨(w.heap.size + 1 + 1), 9, none⟩ (.slice none 0 0)).setCell ⟨(w.heap.size + 1 + 1), 10, none⟩ (.slice none 0 0) = wf at *
              have x0 : wf.cell? ⟨(w.heap.size + 1 + 1), 0, none⟩ = some (.int .i64 0) := dB.cell 0
              have x1 : wf.cell? ⟨(w.heap.size + 1 + 1), 1, none⟩ = some (.int .i64 0) := dB.cell 1
              have x2 : wf.cell? ⟨(w.heap.size + 1 + 1), 2, none⟩ = some (.int .i64 0) := dB.cell 2
              have x3 : wf.cell? ⟨(w.heap.size + 1 + 1), 3, none⟩ = some (.int .i64 0) := dB.cell 3
              have x4 : wf.cell? ⟨(w.heap.size + 1 + 1), 4, none⟩ = some (.slice none 0 0) := dB.cell 4
              have x5 : wf.cell? ⟨(w.heap.size + 1 + 1), 5, none⟩ = some (.slice none 0 0) := dB.cell 5
              have x6 : wf.cell? ⟨(w.heap.size + 1 + 1), 6, none⟩ = some (.slice none 0 0) := dB.cell 6
              have x7 : wf.cell? ⟨(w.heap.size + 1 + 1), 7, none⟩ = some (.slice none 0 0) := dB.cell 7
              have x8 : wf.cell? ⟨(w.heap.size + 1 + 1), 8, none⟩ = some (.int .i64 0) := dB.cell 8
              have x9 : wf.cell? ⟨(w.heap.size + 1 + 1), 9, none⟩ = some (.slice none 0 0) := dB.cell 9
              have x10 : wf.cell? ⟨(w.heap.size + 1 + 1), 10, none⟩ = some (.slice none 0 0) := dB.cell 10
              exact bodyPost_ret (v := .tuple #[.agg #[.int .i64 0, .int .i64 0, .int .i64 0, .int .i64 0, .slice none 0 0, .slice none 0 0, .slice none 0 0, .slice none 0 0, .int .i64 0, .slice none 0 0, .slice none 0 0], .int .i64 9]) (by simp [results, Try.results87, go_sem, x0, x1, x2, x3, x4, x5, x6, x7, x8, x9, x10]) rfl (newBnc_zero (yS _ _ y5 (by omega)))
            have A3 := Lib.hid a3
            clear a3
            obtain rfl : res = (⟨cf.q, (hN : Int), X3, nums ts', nums us', List.replicate r 0⟩, 0) := by rw [HRES2.out, A1.out, HA.out, ← HBF.out, A2.out, HON.out, A3.out]; rfl
            have HC : Hid (∀ dz oz, Calls Try.prog 176 #[.agg #[.int .i64 sy, .int .i64 st, .slice A0 n0 k0], .agg #[.int .i64 cf.q, .int .i64 (hN : Int), .int .i64 X3, .slice (some ⟨bb, off, none⟩) ts'.length c', .slice B' us'.length d', .slice C' r k']] (grow (redrawn wr dz) oz) fun e w' => e = .returned (.bool true) ∧ ∃ p : Regrown, w' = grow (redrawn wr p.d) p.os) :=
              fun dz oz => Calls.regrown_of (formulaOf_is A2.out _ (HOO.out.1.sii.below (below_regrown wr dz oz)) (HOO.out.2.1.sii.below (below_regrown wr dz oz)) (HOC.out.below (below_regrown wr dz oz)) hle hle' (by omega) HRW.out HRR.out s1 s2 s3 s4)
            go_wp2_with fail
            have k0 := cell_regrown u0
            have k1 := cell_regrown u1
            have k2 := cell_regrown u2
            have m0 := cell_regrown v0
            have m1 := cell_regrown v1
            have m2 := cell_regrown v2
            have m3 := cell_regrown v3
            have m4 := cell_regrown v4
            have m5 := cell_regrown v5
            have n0_ := cell_regrown hc
            refine wp_region_quiet_below (by kernel_rfl) (by kernel_rfl) ?_
            repeat (go_big_quiet_step ((first
              | (go_at_call 176; exact HC.out _ _)
              | (go_at_call 177; exact Calls.regrown_of ((sizeI_any _ _ _ _ (by omega)).mono fun _ _ ⟨he, hw⟩ => ⟨he, hw ▸ Below.refl _ _⟩))
              | (go_at_call 103; exact Calls.regrown_of ((within_is A3.out _).mono fun _ _ ⟨he, hw⟩ => ⟨he, hw ▸ Below.refl _ _⟩)))))
            refine wpQuiet_nil ?_
            intro _ hw'
            obtain ⟨⟨dq, osq⟩, hw''⟩ := hw'
            subst hw''
            have z5 := below_regrown wr dq osq
            clear k0 k1 k2 m0 m1 m2 m3 m4 m5 n0_
            generalize grow (redrawn wr dq) osq = W5 at *
            have d2 := d2.below' z5
            have y5 := y4.trans (z5.mono y4.size)
            have d1 := d1.below' z5
            have b5 := HBX.out.below' z5
            have hq1 := ((ZW.out.trans (z5.mono ZW.out.size)).cell (p := ⟨pb, po + 1, none⟩) hpb).trans HC1.out
            have HRC5 := Lib.hid (HRC4.out.below z5)
            have HX5 := Lib.hid (HX.out.below (ZW.out.trans (z5.mono ZW.out.size)))
            have HO5 := Lib.hid (HOO.out.below z5)
            have hpb5 : pb < W5.heap.size := by have := (ZW.out.trans (z5.mono ZW.out.size)).size; omega
            have HSS := Lib.hid (fun W' (h : Below W5.heap.size W5 W') => (⟨(d1.below' h).cell 1, (h.cell (p := ⟨pb, po + 1, none⟩) hpb5).trans hq1, (b5.below' h).cell 0, (b5.below' h).cell 1, (b5.below' h).cell 2, (b5.below' h).cell 3, (b5.below' h).cell 4, (b5.below' h).cell 5⟩ : W'.cell? ⟨w.heap.size + 1, 1, none⟩ = some (.slice (some ⟨pb, po, none⟩) n c) ∧ W'.cell? ⟨pb, po + 1, none⟩ = some (.int .i64 X1) ∧ W'.cell? ⟨gf, 0, none⟩ = some (.int .i64 cf.q) ∧ W'.cell? ⟨gf, 1, none⟩ = some (.int .i64 (hN : Int)) ∧ W'.cell? ⟨gf, 2, none⟩ = some (.int .i64 X3) ∧ W'.cell? ⟨gf, 3, none⟩ = some (.slice (some ⟨bb, off, none⟩) ts'.length c') ∧ W'.cell? ⟨gf, 4, none⟩ = some (.slice B' us'.length d') ∧ W'.cell? ⟨gf, 5, none⟩ = some (.slice C' r k')))
            have hl1 : cf.xs.reverse.length ≤ 1000000 := by rw [List.length_reverse]; omega
            have hl2 : cf.ys.reverse.length ≤ 1000000 := by rw [List.length_reverse]; omega
            have ib4 : (4 : Int) ≤ (n : Int) := by omega
            obtain ⟨V4, hV4⟩ : ∃ V4, V4 = xs.drop 4 := ⟨_, rfl⟩
            have HV4 := Lib.hid hV4
            clear hV4
            have ib1 : (1 : Int) < (n : Int) := by omega
            clear hq1 u0 u1 u2 v0 v1 v2 v3 v4 v5 hc
            go_upto_region 17 with fail
            have hp : Below W5.heap.size W5 W5.drew := below_drewN (Below.refl _ _) 1
            refine wp_region_held_drew (S := (fun w' => w'.cell? ⟨w.heap.size + 1, 1, none⟩ = some (.slice (some ⟨pb, po, none⟩) n c) ∧ w'.cell? ⟨pb, po + 1, none⟩ = some (.int .i64 X1) ∧ w'.cell? ⟨gf, 0, none⟩ = some (.int .i64 cf.q) ∧ w'.cell? ⟨gf, 1, none⟩ = some (.int .i64 (hN : Int)) ∧ w'.cell? ⟨gf, 2, none⟩ = some (.int .i64 X3) ∧ w'.cell? ⟨gf, 3, none⟩ = some (.slice (some ⟨bb, off, none⟩) ts'.length c') ∧ w'.cell? ⟨gf, 4, none⟩ = some (.slice B' us'.length d') ∧ w'.cell? ⟨gf, 5, none⟩ = some (.slice C' r k'))) (by kernel_rfl) ?_ (fun hHeld => ?_)
            · exact HSS.out _ hp
            generalize W5.drew = Wx at *
            refine wpAnyH_take (i := 0) (v := ?_) rfl (by kernel_rfl) (by kernel_rfl) (by kernel_rfl) (fun _ _ _ h => h) (Or.inl ⟨by rfl, ?_⟩) (by assumption) ?_
            rotate_left
            · intro w hSw
              try dsimp only at hSw
              go_simp
              try with_reducible rfl
            try simp only [Act.put, List.setIfInBounds_toArray]
            refine wpAnyH_take (i := 1) (v := ?_) rfl (by kernel_rfl) (by kernel_rfl) (by kernel_rfl) (fun _ _ _ h => h) (Or.inl ⟨by rfl, ?_⟩) (by assumption) ?_
            rotate_left
            · intro w hSw
              try dsimp only at hSw
              skip
              obtain ⟨h0_, h1_, h2_, h3_, h4_, h5_, h6_, h7_⟩ := hSw
              go_simp
              try with_reducible rfl
            try simp only [Act.put]
            refine wpAnyH_take (i := 2) (v := ?_) rfl (by kernel_rfl) (by kernel_rfl) (by kernel_rfl) (fun _ _ _ h => h) (Or.inl ⟨by rfl, ?_⟩) (by assumption) ?_
            rotate_left
            · intro w hSw
              try dsimp only at hSw
              go_simp
              try with_reducible rfl
            try simp only [Act.put]
            refine wpAnyH_take (i := 3) (v := ?_) rfl (by kernel_rfl) (by kernel_rfl) (by kernel_rfl) (fun _ _ _ h => h) (Or.inl ⟨by rfl, ?_⟩) (by assumption) ?_
            rotate_left
            · intro w hSw
              try dsimp only at hSw
              skip
              obtain ⟨h0_, h1_, h2_, h3_, h4_, h5_, h6_, h7_⟩ := hSw
              go_simp
              try with_reducible rfl
            try simp only [Act.put]
            refine wpAnyH_take (i := 4) (v := ?_) rfl (by kernel_rfl) (by kernel_rfl) (by kernel_rfl) (fun _ _ _ h => h) (Or.inl ⟨by rfl, ?_⟩) (by assumption) ?_
            rotate_left
            · intro w hSw
              try dsimp only at hSw
              skip
              obtain ⟨h0_, h1_, h2_, h3_, h4_, h5_, h6_, h7_⟩ := hSw
              go_simp
              try with_reducible rfl
            try simp only [Act.put]
            refine wpAnyH_take (i := 5) (v := ?_) rfl (by kernel_rfl) (by kernel_rfl) (by kernel_rfl) (fun _ _ _ h => h) (Or.inl ⟨by rfl, ?_⟩) (by assumption) ?_
            rotate_left
            · intro w hSw
              try dsimp only at hSw
              go_simp
              try with_reducible rfl
            try simp only [Act.put]
            refine wpAnyH_take (i := 6) (v := ?_) rfl (by kernel_rfl) (by kernel_rfl) (by kernel_rfl) (fun _ _ _ h => h) (Or.inl ⟨by rfl, ?_⟩) (by assumption) ?_
            rotate_left
            · intro w hSw
              try dsimp only at hSw
              skip
              obtain ⟨h0_, h1_, h2_, h3_, h4_, h5_, h6_, h7_⟩ := hSw
              go_simp
              try with_reducible rfl
            try simp only [Act.put]
            refine wpAnyH_take (i := 7) (v := ?_) rfl (by kernel_rfl) (by kernel_rfl) (by kernel_rfl) (fun _ _ _ h => h) (Or.inl ⟨by rfl, ?_⟩) (by assumption) ?_
            rotate_left
            · intro w hSw
              try dsimp only at hSw
              go_simp
              try with_reducible rfl
            try simp only [Act.put]
            refine wpAnyH_take (i := 9) (v := ?_) rfl (by kernel_rfl) (by kernel_rfl) (by kernel_rfl) (fun _ _ _ h => h) (Or.inl ⟨by rfl, ?_⟩) (by assumption) ?_
            rotate_left
            · intro w hSw
              try dsimp only at hSw
              go_simp
              try with_reducible rfl
            try simp only [Act.put]
            refine wpAnyH_ready (rs := [8]) (by kernel_rfl) (by simp) ?_
            refine AllReadyH.cons rfl (fun K hK => ?_) ?_
            · go_simp
              refine (cloneI_any _ _ _ V4 _ (by rw [HV4.out]; exact (HX5.out.below hp).uponF (k := 4) (by omega) hcn) (by omega)).mono ?_
              rintro e Wx ⟨D9, e9, rfl, _, z8⟩
              replace hp := hp.trans (z8.mono hp.size)
              refine hK.out _ _ ?_ (fun hHeld => ?_)
              · first | exact hSn | exact HSS.out _ hp
              clear hK K
              try simp only [Act.put, List.setIfInBounds_toArray, List.set_cons_zero, List.set_cons_succ]
              refine wpAnyH_ready (rs := [10]) (by kernel_rfl) (by simp) ?_
              refine AllReadyH.cons rfl (fun K hK => ?_) ?_
              · go_simp
                refine (config_any _ _ _ _ _ _ _ _ _ _ _ (HRC5.out.below hp).sides hl1 hl2).mono ?_
                rintro e Wx ⟨L9, l9, R9, r9, rfl, _, _, _, z9⟩
                rw [List.reverse_reverse, List.reverse_reverse]
                replace hp := hp.trans (z9.mono hp.size)
                refine hK.out _ _ ?_ (fun hHeld => ?_)
                · first | exact hSn | exact HSS.out _ hp
                clear hK K
                try simp only [Act.put, List.setIfInBounds_toArray, List.set_cons_zero, List.set_cons_succ]
                refine wpAnyH_take (i := 11) (v := ?_) rfl (by kernel_rfl) (by kernel_rfl) (by kernel_rfl) (fun _ _ _ h => h) (Or.inl ⟨by rfl, ?_⟩) (by assumption) ?_
                rotate_left
                · intro w hSw
                  try dsimp only at hSw
                  go_simp
                  try with_reducible rfl
                try simp only [Act.put, List.setIfInBounds_toArray]
                refine wpAnyH_ready (rs := [12]) (by kernel_rfl) (by simp) ?_
                refine AllReadyH.cons rfl (fun K hK => ?_) ?_
                · have hb2 := d2.below' hp
                  have x0 : Wx.cell? ⟨(w.heap.size + 1 + 1), 0, none⟩ = some (.int .i64 0) := hb2.cell 0
                  have x1 : Wx.cell? ⟨(w.heap.size + 1 + 1), 1, none⟩ = some (.int .i64 0) := hb2.cell 1
                  have x2 : Wx.cell? ⟨(w.heap.size + 1 + 1), 2, none⟩ = some (.int .i64 0) := hb2.cell 2
                  have x3 : Wx.cell? ⟨(w.heap.size + 1 + 1), 3, none⟩ = some (.int .i64 0) := hb2.cell 3
                  have x4 : Wx.cell? ⟨(w.heap.size + 1 + 1), 4, none⟩ = some (.slice none 0 0) := hb2.cell 4
                  have x5 : Wx.cell? ⟨(w.heap.size + 1 + 1), 5, none⟩ = some (.slice none 0 0) := hb2.cell 5
                  have x6 : Wx.cell? ⟨(w.heap.size + 1 + 1), 6, none⟩ = some (.slice none 0 0) := hb2.cell 6
                  have x7 : Wx.cell? ⟨(w.heap.size + 1 + 1), 7, none⟩ = some (.slice none 0 0) := hb2.cell 7
                  have x8 : Wx.cell? ⟨(w.heap.size + 1 + 1), 8, none⟩ = some (.int .i64 0) := hb2.cell 8
                  have x9 : Wx.cell? ⟨(w.heap.size + 1 + 1), 9, none⟩ = some (.slice none 0 0) := hb2.cell 9
                  have x10 : Wx.cell? ⟨(w.heap.size + 1 + 1), 10, none⟩ = some (.slice none 0 0) := hb2.cell 10
                  have f0 := hb2.frozen 0
                  have f1 := hb2.frozen 1
                  have f2 := hb2.frozen 2
                  have f3 := hb2.frozen 3
                  have f4 := hb2.frozen 4
                  have f5 := hb2.frozen 5
                  have f6 := hb2.frozen 6
                  have f7 := hb2.frozen 7
                  have f8 := hb2.frozen 8
                  have f9 := hb2.frozen 9
                  have f10 := hb2.frozen 10
                  go_simp
                  clear x0 x1 x2 x3 x4 x5 x6 x7 x8 x9 x10
                  obtain ⟨a0, a1, a2, a3, a4, a5, a6, a7⟩ := HSS.out _ hp
                  have dB : Blk (((((((((((Wx.setCell ⟨(w.heap.size + 1 + 1), 0, none⟩ (.int .i64 X1)).setCell ⟨(w.heap.size + 1 + 1), 1, none⟩ (.int .i64 cf.q)).setCell ⟨(w.heap.size + 1 + 1), 2, none⟩ (.int .i64 (hN : Int))).setCell ⟨(w.heap.size + 1 + 1), 3, none⟩ (.int .i64 X3)).setCell ⟨(w.heap.size + 1 + 1), 4, none⟩ (.slice (some ⟨bb, off, none⟩) ts'.length c')).setCell ⟨(w.heap.size + 1 + 1), 5, none⟩ (.slice B' us'.length d')).setCell ⟨(w.heap.size + 1 + 1), 6, none⟩ (.slice C' r k')).setCell ⟨(w.heap.size + 1 + 1), 7, none⟩ (.slice D9 V4.length e9)).setCell ⟨(w.heap.size + 1 + 1), 8, none⟩ (.int .i64 cf.q)).setCell ⟨(w.heap.size + 1 + 1), 9, none⟩ (.slice L9 cf.xs.length l9)).setCell ⟨(w.heap.size + 1 + 1), 10, none⟩ (.slice R9 cf.ys.length r9)) (w.heap.size + 1 + 1) 131 #[.int .i64 X1, .int .i64 cf.q, .int .i64 (hN : Int), .int .i64 X3, .slice (some ⟨bb, off, none⟩) ts'.length c', .slice B' us'.length d', .slice C' r k', .slice D9 V4.length e9, .int .i64 cf.q, .slice L9 cf.xs.length l9, .slice R9 cf.ys.length r9] := bn_set hb2 (.int .i64 X1) (.int .i64 cf.q) (.int .i64 (hN : Int)) (.int .i64 X3) (.slice (some ⟨bb, off, none⟩) ts'.length c') (.slice B' us'.length d') (.slice C' r k') (.slice D9 V4.length e9) (.int .i64 cf.q) (.slice L9 cf.xs.length l9) (.slice R9 cf.ys.length r9)
                  have yS : ∀ (lo : Nat) (w0 : World), Below lo w0 Wx → lo ≤ (w.heap.size + 1 + 1) → Below lo w0 (((((((((((Wx.setCell ⟨(w.heap.size + 1 + 1), 0, none⟩ (.int .i64 X1)).setCell ⟨(w.heap.size + 1 + 1), 1, none⟩ (.int .i64 cf.q)).setCell ⟨(w.heap.size + 1 + 1), 2, none⟩ (.int .i64 (hN : Int))).setCell ⟨(w.heap.size + 1 + 1), 3, none⟩ (.int .i64 X3)).setCell ⟨(w.heap.size + 1 + 1), 4, none⟩ (.slice (some ⟨bb, off, none⟩) ts'.length c')).setCell ⟨(w.heap.size + 1 + 1), 5, none⟩ (.slice B' us'.length d')).setCell ⟨(w.heap.size + 1 + 1), 6, none⟩ (.slice C' r k')).setCell ⟨(w.heap.size + 1 + 1), 7, none⟩ (.slice D9 V4.length e9)).setCell ⟨(w.heap.size + 1 + 1), 8, none⟩ (.int .i64 cf.q)).setCell ⟨(w.heap.size + 1 + 1), 9, none⟩ (.slice L9 cf.xs.length l9)).setCell ⟨(w.heap.size + 1 + 1), 10, none⟩ (.slice R9 cf.ys.length r9)) := fun lo w0 h hl => bn_below h hl (.int .i64 X1) (.int .i64 cf.q) (.int .i64 (hN : Int)) (.int .i64 X3) (.slice (some ⟨bb, off, none⟩) ts'.length c') (.slice B' us'.length d') (.slice C' r k') (.slice D9 V4.length e9) (.int .i64 cf.q) (.slice L9 cf.xs.length l9) (.slice R9 cf.ys.length r9)
                  have kS : ∀ k, k ≠ (w.heap.size + 1 + 1) → (((((((((((Wx.setCell ⟨(w.heap.size + 1 + 1), 0, none⟩ (.int .i64 X1)).setCell ⟨(w.heap.size + 1 + 1), 1, none⟩ (.int .i64 cf.q)).setCell ⟨(w.heap.size + 1 + 1), 2, none⟩ (.int .i64 (hN : Int))).setCell ⟨(w.heap.size + 1 + 1), 3, none⟩ (.int .i64 X3)).setCell ⟨(w.heap.size + 1 + 1), 4, none⟩ (.slice (some ⟨bb, off, none⟩) ts'.length c')).setCell ⟨(w.heap.size + 1 + 1), 5, none⟩ (.slice B' us'.length d')).setCell ⟨(w.heap.size + 1 + 1), 6, none⟩ (.slice C' r k')).setCell ⟨(w.heap.size + 1 + 1), 7, none⟩ (.slice D9 V4.length e9)).setCell ⟨(w.heap.size + 1 + 1), 8, none⟩ (.int .i64 cf.q)).setCell ⟨(w.heap.size + 1 + 1), 9, none⟩ (.slice L9 cf.xs.length l9)).setCell ⟨(w.heap.size + 1 + 1), 10, none⟩ (.slice R9 cf.ys.length r9)).heap[k]? = Wx.heap[k]? := fun k hk => bn_kept (.int .i64 X1) (.int .i64 cf.q) (.int .i64 (hN : Int)) (.int .i64 X3) (.slice (some ⟨bb, off, none⟩) ts'.length c') (.slice B' us'.length d') (.slice C' r k') (.slice D9 V4.length e9) (.int .i64 cf.q) (.slice L9 cf.xs.length l9) (.slice R9 cf.ys.length r9) k hk
                  generalize ((((((((((Wx.setCell ⟨(w.heap.size + 1 + 1), 0, none⟩ (.int .i64 X1)).setCell ⟨(w.heap.size + 1 + 1), 1, none⟩ (.int .i64 cf.q)).setCell ⟨(w.heap.size + 1 + 1), 2, none⟩ (.int .i64 (hN : Int))).setCell ⟨(w.heap.size + 1 + 1), 3, none⟩ (.int .i64 X3)).setCell ⟨(w.heap.size + 1 + 1), 4, none⟩ (.slice (some ⟨bb, off, none⟩) ts'.length c')).setCell ⟨(w.heap.size + 1 + 1), 5, none⟩ (.slice B' us'.length d')).setCell ⟨(w.heap.size + 1 + 1), 6, none⟩ (.slice C' r k')).setCell ⟨(w.heap.size + 1 + 1), 7, none⟩ (.slice D9 V4.length e9)).setCell ⟨(w.heap.size + 1 + 1), 8, none⟩ (.int .i64 cf.q)).setCell ⟨(w.heap.size + 1 + 1), 9, none⟩ (.slice L9 cf.xs.length l9)).setCell ⟨(w.heap.size + 1 + 1), 10, none⟩ (.slice R9 cf.ys.length r9) = wf at *
                  have n1 : w.heap.size + 1 ≠ w.heap.size + 1 + 1 := by omega
                  have n2 : pb ≠ w.heap.size + 1 + 1 := by have := HPB0.out; omega
                  have n3 : gf ≠ w.heap.size + 1 + 1 := by have := b2.lt; have := z2.size; omega
                  have hSn := (⟨(World.cell?_of_block (kS _ n1)).trans a0, (World.cell?_of_block (kS _ n2)).trans a1, (World.cell?_of_block (kS _ n3)).trans a2, (World.cell?_of_block (kS _ n3)).trans a3, (World.cell?_of_block (kS _ n3)).trans a4, (World.cell?_of_block (kS _ n3)).trans a5, (World.cell?_of_block (kS _ n3)).trans a6, (World.cell?_of_block (kS _ n3)).trans a7⟩ : wf.cell? ⟨w.heap.size + 1, 1, none⟩ = some (.slice (some ⟨pb, po, none⟩) n c) ∧ wf.cell? ⟨pb, po + 1, none⟩ = some (.int .i64 X1) ∧ wf.cell? ⟨gf, 0, none⟩ = some (.int .i64 cf.q) ∧ wf.cell? ⟨gf, 1, none⟩ = some (.int .i64 (hN : Int)) ∧ wf.cell? ⟨gf, 2, none⟩ = some (.int .i64 X3) ∧ wf.cell? ⟨gf, 3, none⟩ = some (.slice (some ⟨bb, off, none⟩) ts'.length c') ∧ wf.cell? ⟨gf, 4, none⟩ = some (.slice B' us'.length d') ∧ wf.cell? ⟨gf, 5, none⟩ = some (.slice C' r k'))
                  have hOf := (HO5.out.below hp).far hb2 (by decide) (by decide) kS
                  have yf := yS _ _ (y5.trans (hp.mono y5.size)) (by omega)
                  clear a0 a1 a2 a3 a4 a5 a6 a7 yS
                  refine hK.out _ _ ?_ (fun hHeld => ?_)
                  · first | exact hSn | exact HSS.out _ hp
                  clear hK K
                  try simp only [Act.put, List.setIfInBounds_toArray]
                  refine wpAnyH_ready (rs := [13]) (by kernel_rfl) (by simp) ?_
                  refine AllReadyH.cons rfl (fun K hK => ?_) ?_
                  · go_simp
                    refine hK.out _ _ ?_ (fun hHeld => ?_)
                    · first | exact hSn | exact HSS.out _ hp
                    clear hK K
                    try simp only [Act.put, List.setIfInBounds_toArray, List.set_cons_zero, List.set_cons_succ]
                    refine wpAnyH_done (by kernel_rfl) ?_ _
                    have x0 : wf.cell? ⟨(w.heap.size + 1 + 1), 0, none⟩ = some (.int .i64 X1) := dB.cell 0
                    have x1 : wf.cell? ⟨(w.heap.size + 1 + 1), 1, none⟩ = some (.int .i64 cf.q) := dB.cell 1
                    have x2 : wf.cell? ⟨(w.heap.size + 1 + 1), 2, none⟩ = some (.int .i64 (hN : Int)) := dB.cell 2
                    have x3 : wf.cell? ⟨(w.heap.size + 1 + 1), 3, none⟩ = some (.int .i64 X3) := dB.cell 3
                    have x4 : wf.cell? ⟨(w.heap.size + 1 + 1), 4, none⟩ = some (.slice (some ⟨bb, off, none⟩) ts'.length c') := dB.cell 4
                    have x5 : wf.cell? ⟨(w.heap.size + 1 + 1), 5, none⟩ = some (.slice B' us'.length d') := dB.cell 5
                    have x6 : wf.cell? ⟨(w.heap.size + 1 + 1), 6, none⟩ = some (.slice C' r k') := dB.cell 6
                    have x7 : wf.cell? ⟨(w.heap.size + 1 + 1), 7, none⟩ = some (.slice D9 V4.length e9) := dB.cell 7
                    have x8 : wf.cell? ⟨(w.heap.size + 1 + 1), 8, none⟩ = some (.int .i64 cf.q) := dB.cell 8
                    have x9 : wf.cell? ⟨(w.heap.size + 1 + 1), 9, none⟩ = some (.slice L9 cf.xs.length l9) := dB.cell 9
                    have x10 : wf.cell? ⟨(w.heap.size + 1 + 1), 10, none⟩ = some (.slice R9 cf.ys.length r9) := dB.cell 10
                    have hres : NewBnc w (⟨cf.q, (hN : Int), X3, nums ts', nums us', List.replicate r 0⟩, 0) (.returned (.tuple #[.agg #[.int .i64 X1, .int .i64 cf.q, .int .i64 (hN : Int), .int .i64 X3, .slice (some ⟨bb, off, none⟩) ts'.length c', .slice B' us'.length d', .slice C' r k', .slice D9 V4.length e9, .int .i64 cf.q, .slice L9 cf.xs.length l9, .slice R9 cf.ys.length r9], .int .i64 0])) wf := ⟨X1, some ⟨bb, off, none⟩, c', ts', B', d', us', C', k', D9, _, e9, cf.q, L9, _, l9, R9, _, r9, by rw [List.length_replicate], ⟨hOf.mono (Nat.le_trans y0.size z2.size), rfl, rfl⟩, yf⟩
                    go_wp2_with fail
                    exact bodyPost_ret (v := .tuple #[.agg #[.int .i64 X1, .int .i64 cf.q, .int .i64 (hN : Int), .int .i64 X3, .slice (some ⟨bb, off, none⟩) ts'.length c', .slice B' us'.length d', .slice C' r k', .slice D9 V4.length e9, .int .i64 cf.q, .slice L9 cf.xs.length l9, .slice R9 cf.ys.length r9], .int .i64 0]) (by simp [results, Try.results87, go_sem, x0, x1, x2, x3, x4, x5, x6, x7, x8, x9, x10]) rfl hres
                  exact AllReadyH.nil
                exact AllReadyH.nil
              exact AllReadyH.nil
            exact AllReadyH.nil
  all_goals
    have HB := Lib.hid (HFL.out (by omega))
    obtain rfl : res = (Fm.zero, 2) := by rw [HRES.out, HB.out]; rfl
    go_enter Try.func87, Try.ntmps87
    go_wp2_with fail
    rw [← HW.out]
    exact bodyPost_ret (v := .tuple #[.agg #[.int .i64 0, .int .i64 0, .int .i64 0, .int .i64 0, .slice none 0 0, .slice none 0 0, .slice none 0 0, .slice none 0 0, .int .i64 0, .slice none 0 0, .slice none 0 0], .int .i64 2]) (by simp [results, Try.results87, go_sem, x0, x1, x2, x3, x4, x5, x6, x7, x8, x9, x10]) rfl (newBnc_zero y0)
end Go.Proofs.Ytpnkelmmfcmijaa
