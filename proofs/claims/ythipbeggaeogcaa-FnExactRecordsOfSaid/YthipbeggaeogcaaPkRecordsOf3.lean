/-
  Contract of spec.HeadTrack.
-/
import Derived.Test.YthipbeggaeogcaaPkRecordsOf1
import Derived.Test.YthipbeggaeogcaaPkRecordsOf2
import Derived.Test.YthipbeggaeogcaaCfsM
namespace Go.Proofs.Ythipbeggaeogcaa
open Go.RowKit

/-- A configuration in a box, apart from a slice that grows. -/
def ConfD (w : World) (lo f : Nat) (c : Conf) (D : Option Addr) : Prop :=
  ∃ L a R d, Blk w f 172 #[.int .i64 c.q, .slice L c.xs.length a, .slice R c.ys.length d] ∧ Own w lo 2 1 L c.xs.length a (ints c.xs) ∧ Own w lo 2 1 R c.ys.length d (ints c.ys) ∧ (∀ b, blk L = some b → blk R ≠ some b) ∧ (∀ b, blk D = some b → blk L ≠ some b ∧ blk R ≠ some b)
theorem ConfD.conf {w : World} {lo f : Nat} {c : Conf} {D : Option Addr} (h : ConfD w lo f c D) : ConfC w lo f c := by
  obtain ⟨L, a, R, d, h1, h2, h3, h4, _⟩ := h
  exact ⟨L, a, R, d, h1, h2, h3, h4⟩
theorem ConfD.below {w w' : World} {lo f : Nat} {c : Conf} {D : Option Addr} (h : ConfD w lo f c D) (z : Below w.heap.size w w') : ConfD w' lo f c D := by
  obtain ⟨L, a, R, d, h1, h2, h3, h4, h5⟩ := h
  exact ⟨L, a, R, d, h1.below' z, h2.below z, h3.below z, h4, h5⟩
theorem ConfD.grown {w w' : World} {lo f n c2 s : Nat} {c : Conf} {D D2 : Option Addr} {cs : List Value} (h : ConfD w lo f c D) (ho : Own w lo 2 s D n c2 cs) (hg : w.grownBy w' (blk D)) (hgn : blk D2 = blk D ∨ blk D2 = some w.heap.size) : ConfD w' lo f c D2 := by
  obtain ⟨L, a, R, d, h1, h2, h3, h4, h5⟩ := h
  refine ⟨L, a, R, d, h1.growt ho hg (by decide), h2.grown hg (fun g hD hL => (h5 g hD).1 hL), h3.grown hg (fun g hD hR => (h5 g hD).2 hR), h4, fun b hb => ?_⟩
  rcases hgn with e | e
  · exact h5 b (by rw [← e]; exact hb)
  · rw [e] at hb
    have hb' := Option.some.inj hb
    exact ⟨fun hl => by have := h2.blk_lt b hl; omega, fun hr => by have := h3.blk_lt b hr; omega⟩
theorem ConfD.set3 {w : World} {lo f : Nat} {cs : Array Value} {a0 b0 c0 : Value} {c : Conf} {L R D : Option Addr} {a d : Nat} (hcs : cs = #[a0, b0, c0]) (hb : Blk w f 172 cs) (h2 : Own w lo 2 1 L c.xs.length a (ints c.xs)) (h3 : Own w lo 2 1 R c.ys.length d (ints c.ys)) (h4 : ∀ b, blk L = some b → blk R ≠ some b) (h5 : ∀ b, blk D = some b → blk L ≠ some b ∧ blk R ≠ some b) :
    ConfD (((w.setCell ⟨f, 0, none⟩ (.int .i64 c.q)).setCell ⟨f, 1, none⟩ (.slice L c.xs.length a)).setCell ⟨f, 2, none⟩ (.slice R c.ys.length d)) lo f c D := by
  subst hcs
  have e : ∀ {X : Option Addr} {n' c' : Nat} {xs : List Value}, Own w lo 2 1 X n' c' xs → blk X ≠ some f := fun h => hb.aptt h (by decide)
  exact ⟨L, a, R, d, conf_set hb _ _ _, ((h2.far (p := ⟨f, 0, none⟩) (e h2) _).far (p := ⟨f, 1, none⟩) (e h2) _).far (p := ⟨f, 2, none⟩) (e h2) _, ((h3.far (p := ⟨f, 0, none⟩) (e h3) _).far (p := ⟨f, 1, none⟩) (e h3) _).far (p := ⟨f, 2, none⟩) (e h3) _, h4, h5⟩
theorem Own.set3 {w : World} {lo f n c s : Nat} {e : TypeId} {cs : Array Value} {X : Option Addr} {xs : List Value} (hb : Blk w f 172 cs) (h : Own w lo e s X n c xs) (hne : 172 ≠ e) (u v x : Value) : Own (((w.setCell ⟨f, 0, none⟩ u).setCell ⟨f, 1, none⟩ v).setCell ⟨f, 2, none⟩ x) lo e s X n c xs :=
  ((h.far (p := ⟨f, 0, none⟩) (hb.aptt h hne) _).far (p := ⟨f, 1, none⟩) (hb.aptt h hne) _).far (p := ⟨f, 2, none⟩) (hb.aptt h hne) _

set_option maxRecDepth 100000 in
set_option maxHeartbeats 8000000 in
theorem headTrackS_any (sy st : Int) (A : Option Addr) (n k : Nat) (rs : List R3) (b : Int) (w : World) (hr : S3 w A n rs) (hn : n ≤ 1048576) :
    Calls Try.prog 61 #[.agg #[.int .i64 sy, .int .i64 st, .slice A n k], .int .i64 b] w (NewI2 w (headTrackF sy st rs b)) := by
  obtain ⟨W, hW_⟩ : ∃ W, W = w.alloc (.cells #[.int .i64 sy, .int .i64 st, .slice A n k] 82) := ⟨_, rfl⟩
  have b0 : Blk W w.heap.size 82 #[.int .i64 sy, .int .i64 st, .slice A n k] := by rw [hW_]; exact Blk.new w _ _
  have y0 : Below w.heap.size w W := by rw [hW_]; exact (Below.refl _ _).alloc (Nat.le_refl _) _
  have HW := Lib.hid hW_
  clear hW_
  have hM := b0.machAt
  go_enter Try.func61, Try.ntmps61
  go_wp2_with fail
  rw [← HW.out]
  refine (l05Is_any _ _ _ _ _ _ rs _ hM (hr.below y0) hn).mono ?_
  rintro e W1 ⟨rfl, z1⟩
  have y1 := y0.trans (z1.mono y0.size)
  have hM1 := hM.below z1
  cases a0 : machB sy st rs
  · have HF : Hid (headTrackF sy st rs b = ([], 1)) := Lib.hid (by unfold headTrackF; rw [a0]; rfl)
    clear a0
    go_wp2_with fail
    exact bodyPost_ret (v := .tuple #[.slice none 0 0, .int .i64 1]) (by simp [results, Try.results61, go_sem]) rfl (newI2_nil' HF.out y1)
  have A0 := Lib.hid a0
  have hgc : goodC sy st rs blankC := by show validConfB sy st rs 0 [] [] = true; rw [blank_good]; exact a0
  clear a0
  cases a1 : inB b 0 60
  · have HF : Hid (headTrackF sy st rs b = ([], 2)) := Lib.hid (by unfold headTrackF; rw [A0.out, a1]; rfl)
    have A1 := Lib.hid a1
    clear a1
    go_wp2_with (go_at_call 82; refine (l00In_is A1.out _).mono ?_; rintro e w' ⟨rfl, rfl⟩)
    exact bodyPost_ret (v := .tuple #[.slice none 0 0, .int .i64 2]) (by simp [results, Try.results61, go_sem]) rfl (newI2_nil' HF.out y1)
  have A1 := Lib.hid a1
  have hb := (inB_iff _ _ _).1 a1
  clear a1
  obtain ⟨N, rfl⟩ : ∃ N : Nat, b = (N : Int) := ⟨b.toNat, by omega⟩
  have HGC := Lib.hid hgc
  have HP := Lib.hid (fun i h => posF_bound (i := i) hgc h)
  clear hgc
  go_wp2_with (go_at_call 82; refine (l00In_is A1.out _).mono ?_; rintro e w' ⟨rfl, rfl⟩)
  refine (l25Blank_any _).mono ?_
  rintro e W2 ⟨L2, a2, R2, d2, rfl, oL2, oR2, hap2, z2⟩
  have HAP2 := Lib.hid hap2
  clear hap2
  have y2 := y1.trans (z2.mono y1.size)
  have oL2' : Own W2 w.heap.size 2 1 L2 0 a2 [] := oL2.mono y1.size
  have oR2' : Own W2 w.heap.size 2 1 R2 0 d2 [] := oR2.mono y1.size
  obtain ⟨W3, hW_⟩ : ∃ W, W = (W2.alloc (.cells #[.int .i64 0, .slice L2 0 a2, .slice R2 0 d2] 172)).alloc (.cells #[.int .i64 0] 2) := ⟨_, rfl⟩
  have s_1 : (W2.alloc (.cells #[.int .i64 0, .slice L2 0 a2, .slice R2 0 d2] 172)).heap.size = W2.heap.size + 1 := by simp
  have e3 : Blk W3 W2.heap.size 172 #[.int .i64 0, .slice L2 0 a2, .slice R2 0 d2] := by rw [hW_]; exact (Blk.new W2 _ _).alloc _
  have p3 : Blk W3 (W2.heap.size + 1) 2 #[.int .i64 0] := by rw [hW_, ← s_1]; exact Blk.new _ _ _
  have y3 : Below W2.heap.size W2 W3 := by rw [hW_]; exact ((Below.refl _ _).alloc (Nat.le_refl _) _).alloc (by simp) _
  have HW3 := Lib.hid hW_
  clear hW_ s_1
  have hY3 : Below w.heap.size w W3 := y2.trans (y3.mono y2.size)
  have hM3 := (hM1.below z2).below y3
  have oP3 : Own W3 w.heap.size 2 1 (some ⟨W2.heap.size + 1, 0, none⟩) 1 1 (ints (posTo sy rs blankC 1)) := by
    have := (show Blk W3 (W2.heap.size + 1) 2 #[.int .i64 0] from p3)
    refine ⟨rfl, .inr ⟨_, 0, _, rfl, by have := y2.size; omega, this, Nat.le_refl _, by simp [maxLen], by simp, fun k hk => ?_⟩⟩
    have hk' : k = 0 := by have : k < 1 := hk; omega
    subst hk'
    rfl
  have hC3 : ConfD W3 w.heap.size W2.heap.size blankC (some ⟨W2.heap.size + 1, 0, none⟩) := ⟨L2, a2, R2, d2, e3, (oL2'.below y3), (oR2'.below y3), HAP2.out, fun b hb => by
    simp [blk] at hb
    subst hb
    exact ⟨fun h => by have := oL2'.blk_lt _ h; omega, fun h => by have := oR2'.blk_lt _ h; omega⟩⟩
  have hfw : w.heap.size ≤ W2.heap.size := y2.size
  clear oL2 oR2 oL2' oR2' HAP2 e3 p3
  have hB3 := ((b0.below' z1).below' z2).below' y3
  have hmf : w.heap.size < W2.heap.size := ((b0.below' z1).below' z2).lt
  go_wp2_with fail
  rw [← HW3.out]
  clear HW3 hM hM1 hM3 b0 z1 z2 y0 y1 y2 y3
  obtain ⟨f, hff⟩ : ∃ f, f = W2.heap.size := ⟨_, rfl⟩
  rw [← hff] at oP3 hC3 hfw hmf ⊢
  clear hff
  go_loopw [1, 7, 8] (fun s1 s7 s8 wr => ∃ (i : Nat) (D : Option Addr) (cd : Nat), s1 = .int .i64 ((N : Int) - (i : Int)) ∧ s7 = .int .i64 (posF sy rs blankC i) ∧ s8 = .slice D (i + 1) cd ∧ i ≤ N ∧ Alive sy rs blankC i ∧ ConfD wr w.heap.size f (itC sy rs blankC i) D ∧ Own wr w.heap.size 2 1 D (i + 1) cd (ints (posTo sy rs blankC (i + 1))) ∧ Blk wr w.heap.size 82 #[.int .i64 sy, .int .i64 st, .slice A n k] ∧ Below w.heap.size w wr) (fun s1 _ _ _ => (intOf s1).toNat)
  case atStart => exact ⟨0, _, 1, by simp, rfl, rfl, Nat.zero_le _, Alive.zero _ _ _, hC3, oP3, hB3, hY3⟩
  case round =>
    obtain ⟨i, D, cd, rfl, rfl, rfl, hi, hal, hC, hO, hB, hY⟩ := hrel
    have HGOOD := Lib.hid (hal.good HGC.out)
    have HAL := Lib.hid hal
    clear hal hC3 oP3 hB3 hY3
    have HHALT := Lib.hid (l05Halts_c hB.machAt (hr.below hY) hC.conf HGOOD.out hn)
    have HPI := Lib.hid (HP.out i HAL.out)
    by_cases hlt : i < N
    · have j1 : decide ((0 : Int) < (N : Int) - (i : Int)) = true := by simp; omega
      go_wp2_with fail
      refine HHALT.out.mono ?_
      rintro e W3 ⟨rfl, z3⟩
      have hC3 := hC.below z3
      have hO3 := hO.below z3
      have hB3 := hB.below' z3
      have hY3 := hY.trans (z3.mono hY.size)
      cases hh : haltC sy rs (itC sy rs blankC i) with
      | true =>
        have HF := Lib.hid (headTrackF_ended A0.out A1.out ⟨hi, HAL.out, .inr hh⟩)
        have HLN : Hid ((posTo sy rs blankC (i + 1)).length = i + 1) := Lib.hid (posTo_len _ _ _ _)
        clear hh
        go_wp2_with fail
        exact bodyPost_ret (v := .tuple #[.slice D (i + 1) cd, .int .i64 0]) (by simp [results, Try.results61, go_sem]) rfl (newI2_of' HF.out HLN.out hO3 hY3)
      | false =>
        have HH := Lib.hid hh
        clear hh
        have HSIDE := Lib.hid (l25Side_c hB3.machAt (hr.below hY3) hC3.conf HGOOD.out hn)
        have HPN : Hid (posF sy rs blankC (i + 1) = posF sy rs blankC i + (ruleOf sy rs (itC sy rs blankC i).q (itC sy rs blankC i).ys).b) := Lib.hid rfl
        have hrm := rule_move HGOOD.out HH.out
        have hpi := HPI.out
        generalize (ruleOf sy rs (itC sy rs blankC i).q (itC sy rs blankC i).ys).b = rb at *
        go_wp2_with fail
        refine HSIDE.out.mono ?_
        rintro e W3' ⟨rfl, nq, rfl⟩
        have hY4 : Below w.heap.size w (W3.drewN nq) := below_drewN hY3 nq
        have hC4 : ConfD (W3.drewN nq) w.heap.size f (itC sy rs blankC i) D := hC3
        have hO4 : Own (W3.drewN nq) w.heap.size 2 1 D (i + 1) cd (ints (posTo sy rs blankC (i + 1))) := hO3
        have hB4 : Blk (W3.drewN nq) w.heap.size 82 #[.int .i64 sy, .int .i64 st, .slice A n k] := hB3
        clear hC3 hO3 hB3 hY3 HSIDE z3 HHALT
        generalize W3.drewN nq = W4 at *
        have HSTEP := Lib.hid (l05Step_c hB4.machAt (hr.below hY4) hC4.conf HGOOD.out hn)
        go_wp2_with fail
        refine HSTEP.out.mono ?_
        rintro e W5 ⟨L4, a4, R4, d4, rfl, ol4, or4, hap4, z4⟩
        have HAP4 := Lib.hid hap4
        clear hap4 HSTEP
        have hY5 : Below w.heap.size w W5 := hY4.trans (z4.mono hY4.size)
        have HNXT : Hid (roomC (itC sy rs blankC (i + 1)) = true → Alive sy rs blankC (i + 1)) := fun h => HAL.out.next HH.out h
        have HFU : Hid (roomC (itC sy rs blankC (i + 1)) = false → headTrackF sy st rs (N : Int) = ([], 5)) := Lib.hid (fun h => headTrackF_full A0.out A1.out ⟨hlt, HAL.out, HH.out, h⟩)
        generalize hnx : nextC sy rs (itC sy rs blankC i) = nx at *
        have HNX : Hid (itC sy rs blankC (i + 1) = nx) := Lib.hid hnx
        clear hnx
        obtain ⟨W6, hW_⟩ : ∃ W_, W_ = W5.alloc (.cells #[.int .i64 nx.q, .slice L4 nx.xs.length a4, .slice R4 nx.ys.length d4] 172) := ⟨_, rfl⟩
        have b5 : Blk W6 W5.heap.size 172 #[.int .i64 nx.q, .slice L4 nx.xs.length a4, .slice R4 nx.ys.length d4] := by rw [hW_]; exact Blk.new W5 _ _
        have z5 : Below W5.heap.size W5 W6 := by rw [hW_]; exact (Below.refl _ _).alloc (Nat.le_refl _) _
        have HW6 := Lib.hid hW_
        clear hW_
        have hY6 : Below w.heap.size w W6 := hY5.trans (z5.mono hY5.size)
        have hB6 := (hB4.below' z4).below' z5
        have hC6 := (hC4.below z4).below z5
        have hO6 := (hO4.below z4).below z5
        have hD4 : Hid (∀ b, blk D = some b → blk L4 ≠ some b ∧ blk R4 ≠ some b) := Lib.hid (fun b hb => by
          have h1 := hO4.blk_lt b hb
          exact ⟨fun h => by have := ol4.blk_ge b h; omega, fun h => by have := or4.blk_ge b h; omega⟩)
        obtain ⟨L5, a5, R5, d5, bc5, ol5, or5, hap5, hap6⟩ := hC6
        clear hap5 hap6 hC4 hO4 hB4
        generalize itC sy rs blankC i = ci at *
        cases hro : roomC nx with
        | false =>
          have HF := Lib.hid (HFU.out (by rw [HNX.out]; exact hro))
          clear hro
          go_upto_region 12 with fail
          rw [← HW6.out]
          clear HW6
          go_wp2_with fail
          exact bodyPost_ret (v := .tuple #[.slice none 0 0, .int .i64 5]) (by simp [results, Try.results61, go_sem]) rfl (newI2_nil' HF.out hY6)
        | true =>
          have HRO : Hid (roomC (itC sy rs blankC (i + 1)) = true) := Lib.hid (by rw [HNX.out]; exact hro)
          clear hro
          go_upto_region 12 with fail
          rw [← HW6.out]
          clear HW6
          have c0 : W6.cell? ⟨W5.heap.size, 0, none⟩ = some (.int .i64 nx.q) := b5.cell 0
          have c1 : W6.cell? ⟨W5.heap.size, 1, none⟩ = some (.slice L4 nx.xs.length a4) := b5.cell 1
          have c2 : W6.cell? ⟨W5.heap.size, 2, none⟩ = some (.slice R4 nx.ys.length d4) := b5.cell 2
          have u0 : W6.cell? ⟨f, 0, none⟩ = some (.int .i64 ci.q) := bc5.cell 0
          have u1 : W6.cell? ⟨f, 1, none⟩ = some (.slice L5 ci.xs.length a5) := bc5.cell 1
          have u2 : W6.cell? ⟨f, 2, none⟩ = some (.slice R5 ci.ys.length d5) := bc5.cell 2
          have f0 := bc5.frozen 0
          have f1 := bc5.frozen 1
          have f2 := bc5.frozen 2
          go_upto_region 15 with fail
          have hCf := ConfD.set3 (c := nx) (D := D) rfl bc5 ((ol4.below z5).mono hY4.size) ((or4.below z5).mono hY4.size) HAP4.out hD4.out
          have hYf := conf_below hY6 hfw (.int .i64 nx.q) (.slice L4 nx.xs.length a4) (.slice R4 nx.ys.length d4)
          have hBf := ((hB6.far (p := ⟨f, 0, none⟩) (show w.heap.size ≠ f by omega) (.int .i64 nx.q)).far (p := ⟨f, 1, none⟩) (show w.heap.size ≠ f by omega) (.slice L4 nx.xs.length a4)).far (p := ⟨f, 2, none⟩) (show w.heap.size ≠ f by omega) (.slice R4 nx.ys.length d4)
          have hOf := Own.set3 bc5 hO6 (by decide) (.int .i64 nx.q) (.slice L4 nx.xs.length a4) (.slice R4 nx.ys.length d4)
          have HPS : Hid (posTo sy rs blankC (i + 1 + 1) = posTo sy rs blankC (i + 1) ++ [posF sy rs blankC i + rb]) := Lib.hid (by rw [posTo_next, HPN.out])
          generalize ((W6.setCell ⟨f, 0, none⟩ (.int .i64 nx.q)).setCell ⟨f, 1, none⟩ (.slice L4 nx.xs.length a4)).setCell ⟨f, 2, none⟩ (.slice R4 nx.ys.length d4) = W7 at *
          clear c0 c1 c2 u0 u1 u2 f0 f1 f2 bc5 hB6 hO6 hY6
          have hz7 : Below W7.heap.size W7 (W7.alloc (.cells #[.int .i64 (posF sy rs blankC i + rb)] 2)) := (Below.refl _ _).alloc (Nat.le_refl _) _
          have hCg := hCf.below hz7
          have hBg := hBf.below' hz7
          go_wp2_with (at_builtin; refine wpList_append_Own rfl (.tmp 36) (.tmp 38) rfl elI (lo := w.heap.size) rfl (hOf.alloc _) rfl (Rd.new1 W7 (.int .i64 (posF sy rs blankC i + rb)) _) (by simp [Value.oneCell']) (by omega) (by simp only [maxLen]; omega) (by have := hYf.size; simp; omega) ?_; intro A8 c8 w8 ho8 hg8 hw8)
          have hy8 : Below w.heap.size w w8 := (hOf.alloc _).below_of (hYf.alloc hYf.size _) hg8 (by have := hYf.size; simp; omega)
          have hB8 : Blk w8 w.heap.size 82 #[.int .i64 sy, .int .i64 st, .slice A n k] := Blk.growt hBg (hOf.alloc _) hg8 (by decide)
          have hC8 := hCg.grown (hOf.alloc _) hg8 hw8.1
          rw [ints_snoc, ← HPS.out] at ho8
          go_wp2_with fail
          go_roundw
          case rel => exact ⟨i + 1, A8, c8, by go_num, by rw [HPN.out], rfl, by omega, HNXT.out HRO.out, by rw [HNX.out]; exact hC8, ho8, hB8, hy8⟩
          case measure => simp [intOf]; omega
    · obtain rfl : i = N := by omega
      have HF := Lib.hid (headTrackF_ended A0.out A1.out ⟨Nat.le_refl _, HAL.out, .inl rfl⟩)
      have HLN : Hid ((posTo sy rs blankC (i + 1)).length = i + 1) := Lib.hid (posTo_len _ _ _ _)
      have j1 : decide ((0 : Int) < (i : Int) - (i : Int)) = false := by simp
      go_wp2_with fail
      exact bodyPost_ret (v := .tuple #[.slice D (i + 1) cd, .int .i64 0]) (by simp [results, Try.results61, go_sem]) rfl (newI2_of' HF.out HLN.out hO hY)
end Go.Proofs.Ythipbeggaeogcaa

/-
  What the reference's l25Play keeps in memory.
-/
namespace Go.Proofs.Ythipbeggaeogcaa
open Go.RowKit

/-- The record of a run, with its running configuration. -/
structure PX (w : World) (b f : Nat) (c : Conf) (ps : List Int) (us : List Sl) (P : Option Addr) (pn pc : Nat) (R : Option Addr) (rc : Nat) (C : Option Addr) (nc cc : Nat) (cs : List Value) (h u : Bool) (W : World) : Prop where
  box : Blk W b 192 #[.slice P pn pc, .slice R us.length rc, .slice C nc cc, .bool h, .bool u]
  pos : Own W w.heap.size 2 1 P pn pc (ints ps)
  recs : OII W w.heap.size 25 2 R us.length rc us
  cfs : Own W w.heap.size 172 3 C nc cc cs
  conf : ConfD W w.heap.size f c P
  aP : ∀ x, blk P = some x → ∀ t ∈ us, blk t.A ≠ some x
  aC : blk C ≠ some f
  low : Below w.heap.size w W
  lob : w.heap.size ≤ b
  lof : w.heap.size ≤ f
section
variable {w W W' : World} {b f : Nat} {c : Conf} {ps : List Int} {us : List Sl} {P R C : Option Addr} {pn pc rc nc cc : Nat} {cs : List Value} {h u : Bool}
theorem PX.below (p : PX w b f c ps us P pn pc R rc C nc cc cs h u W) (z : Below W.heap.size W W') : PX w b f c ps us P pn pc R rc C nc cc cs h u W' :=
  ⟨p.box.below' z, p.pos.below z, p.recs.below z, p.cfs.below z, p.conf.below z, p.aP, p.aC, p.low.trans (z.mono p.low.size), p.lob, p.lof⟩
theorem ConfD.far {lo : Nat} {D : Option Addr} {t : TypeId} {cur : Array Value} {i : Nat} (h : ConfD W lo f c D) (hb : Blk W b t cur) (h1 : t ≠ 172) (h2 : t ≠ 2) (v : Value) : ConfD (W.setCell ⟨b, i, none⟩ v) lo f c D := by
  obtain ⟨L, a, R, d, e1, e2, e3, e4, e5⟩ := h
  have hne : f ≠ b := fun e => by
    subst e
    have := Eq.trans (Eq.symm e1) hb
    simp at this
    exact h1 this.2.symm
  exact ⟨L, a, R, d, e1.far (p := ⟨b, i, none⟩) hne v, e2.far (p := ⟨b, i, none⟩) (hb.aptt e2 h2) v, e3.far (p := ⟨b, i, none⟩) (hb.aptt e3 h2) v, e4, e5⟩
/-- A store into the box of the record. -/
theorem PX.set_ (p : PX w b f c ps us P pn pc R rc C nc cc cs h u W) {i : Nat} {v : Value} {P' R' C' : Option Addr} {pn' pc' rc' nc' cc' : Nat} {ps' : List Int} {us' : List Sl} {cs' : List Value} {h' u' : Bool}
    (hbx : #[Value.slice P pn pc, .slice R us.length rc, .slice C nc cc, .bool h, .bool u].setIfInBounds i v = #[.slice P' pn' pc', .slice R' us'.length rc', .slice C' nc' cc', .bool h', .bool u'])
    (hp : Own W w.heap.size 2 1 P' pn' pc' (ints ps')) (hr : OII W w.heap.size 25 2 R' us'.length rc' us') (hc : Own W w.heap.size 172 3 C' nc' cc' cs') (hf : ConfD W w.heap.size f c P') (aP : ∀ x, blk P' = some x → ∀ t ∈ us', blk t.A ≠ some x) (aC : blk C' ≠ some f) :
    PX w b f c ps' us' P' pn' pc' R' rc' C' nc' cc' cs' h' u' (W.setCell ⟨b, i, none⟩ v) :=
  ⟨by rw [← hbx]; exact p.box.set_ i v, hp.far (p := ⟨b, i, none⟩) (p.box.aptt hp (by decide)) v, hr.set_box p.box (by decide) (by decide) v, hc.far (p := ⟨b, i, none⟩) (p.box.aptt hc (by decide)) v, hf.far p.box (by decide) (by decide) v, aP, aC, p.low.setCell (p := ⟨b, i, none⟩) p.lob v, p.lob, p.lof⟩
theorem PX.halt_ (p : PX w b f c ps us P pn pc R rc C nc cc cs h u W) (v : Bool) : PX w b f c ps us P pn pc R rc C nc cc cs v u (W.setCell ⟨b, 3, none⟩ (.bool v)) := p.set_ rfl p.pos p.recs p.cfs p.conf p.aP p.aC
theorem PX.full_ (p : PX w b f c ps us P pn pc R rc C nc cc cs h u W) (v : Bool) : PX w b f c ps us P pn pc R rc C nc cc cs h v (W.setCell ⟨b, 4, none⟩ (.bool v)) := p.set_ rfl p.pos p.recs p.cfs p.conf p.aP p.aC
/-- The next configuration. -/
theorem PX.now_ {c' : Conf} {L Q : Option Addr} {a d : Nat} {v0 v1 v2 : Value} (p : PX w b f c ps us P pn pc R rc C nc cc cs h u W) (hfb : Blk W f 172 #[v0, v1, v2]) (h2 : Own W w.heap.size 2 1 L c'.xs.length a (ints c'.xs)) (h3 : Own W w.heap.size 2 1 Q c'.ys.length d (ints c'.ys)) (h4 : ∀ x, blk L = some x → blk Q ≠ some x) (h5 : ∀ x, blk P = some x → blk L ≠ some x ∧ blk Q ≠ some x) :
    PX w b f c' ps us P pn pc R rc C nc cc cs h u (((W.setCell ⟨f, 0, none⟩ (.int .i64 c'.q)).setCell ⟨f, 1, none⟩ (.slice L c'.xs.length a)).setCell ⟨f, 2, none⟩ (.slice Q c'.ys.length d)) := by
  have hbf : b ≠ f := fun e => by
    subst e
    have := Eq.trans (Eq.symm p.box) hfb
    simp at this
  have oset : ∀ {e : TypeId} {s n c lo : Nat} {X : Option Addr} {xs : List Value}, Own W lo e s X n c xs → blk X ≠ some f → Own (((W.setCell ⟨f, 0, none⟩ (.int .i64 c'.q)).setCell ⟨f, 1, none⟩ (.slice L c'.xs.length a)).setCell ⟨f, 2, none⟩ (.slice Q c'.ys.length d)) lo e s X n c xs :=
    fun ho hx => ((ho.far (p := ⟨f, 0, none⟩) hx _).far (p := ⟨f, 1, none⟩) hx _).far (p := ⟨f, 2, none⟩) hx _
  exact ⟨((p.box.far (p := ⟨f, 0, none⟩) hbf _).far (p := ⟨f, 1, none⟩) hbf _).far (p := ⟨f, 2, none⟩) hbf _, Own.set3 hfb p.pos (by decide) _ _ _,
    ⟨Own.set3 hfb p.recs.1 (by decide) _ _ _, fun t ht => Own.set3 hfb (p.recs.2.1 t ht) (by decide) _ _ _, p.recs.2.2⟩, oset p.cfs p.aC, ConfD.set3 rfl hfb h2 h3 h4 h5, p.aP, p.aC, conf_below p.low p.lof _ _ _, p.lob, p.lof⟩
/-- A position more. -/
theorem PX.pos_ {A2 : Option Addr} {c2 : Nat} {v : Int} (p : PX w b f c ps us P pn pc R rc C nc cc cs h u W) (ho : Own W' w.heap.size 2 1 A2 (pn + 1) c2 (ints (ps ++ [v]))) (hg : W.grownBy W' (blk P)) (hgn : blk A2 = blk P ∨ blk A2 = some W.heap.size) :
    PX w b f c (ps ++ [v]) us A2 (pn + 1) c2 R rc C nc cc cs h u (W'.setCell ⟨b, 0, none⟩ (.slice A2 (pn + 1) c2)) := by
  have hbx := p.box.growt p.pos hg (by decide)
  have hcf : Own W' w.heap.size 172 3 C nc cc cs := p.cfs.grown hg (fun x hx hb => Own.blk_ne p.pos p.cfs (by decide) x hx hb)
  have hrc : OII W' w.heap.size 25 2 R us.length rc us := ⟨p.recs.1.grown hg (fun x hx hb => Own.blk_ne p.pos p.recs.1 (by decide) x hx hb), fun t ht => (p.recs.2.1 t ht).grown hg (fun x hx hb => p.aP x hx t ht hb), p.recs.2.2⟩
  have hlow : Below w.heap.size w W' := p.pos.below_of p.low hg p.low.size
  have haP : ∀ x, blk A2 = some x → ∀ t ∈ us, blk t.A ≠ some x := fun x hx t ht hb => by
    rcases hgn with e | e
    · exact p.aP x (by rw [← e]; exact hx) t ht hb
    · rw [e] at hx
      have hx' := Option.some.inj hx
      have := (p.recs.2.1 t ht).blk_lt x hb
      omega
  have p' : PX w b f c (ps ++ [v]) us A2 (pn + 1) c2 R rc C nc cc cs h u (W'.setCell ⟨b, 0, none⟩ (.slice A2 (pn + 1) c2)) := by
    have hcd := p.conf.grown p.pos hg hgn
    exact ⟨hbx.set_ 0 _, ho.far (p := ⟨b, 0, none⟩) (hbx.aptt ho (by decide)) _, hrc.set_box hbx (by decide) (by decide) _, hcf.far (p := ⟨b, 0, none⟩) (hbx.aptt hcf (by decide)) _, hcd.far hbx (by decide) (by decide) _, haP, p.aC, hlow.setCell (p := ⟨b, 0, none⟩) p.lob _, p.lob, p.lof⟩
  exact p'
theorem ConfD.grown' {lo n c2 s lo' : Nat} {e : TypeId} {D E : Option Addr} {xs : List Value} (hc : ConfD W lo f c D) (ho : Own W lo' e s E n c2 xs) (hg : W.grownBy W' (blk E)) (h1 : e ≠ 2) (h2 : blk E ≠ some f) : ConfD W' lo f c D := by
  obtain ⟨L, a, R, d, e1, e2, e3, e4, e5⟩ := hc
  exact ⟨L, a, R, d, (hg.block f e1.lt (fun e => h2 e.symm)).trans e1, e2.grown hg (fun x hx hb => Own.blk_ne ho e2 h1 x hx hb), e3.grown hg (fun x hx hb => Own.blk_ne ho e3 h1 x hx hb), e4, e5⟩
/-- A record more: its row is new. -/
theorem PX.rec_ {wa : World} {A2 : Option Addr} {c2 k : Nat} {t : Sl} (pa : PX w b f c ps us P pn pc R rc C nc cc cs h u wa) (p : PX w b f c ps us P pn pc R rc C nc cc cs h u W) (hs : Own W' w.heap.size 25 1 A2 (us.length + 1) c2 (us.map Sl.val ++ [t.val])) (hg : W.grownBy W' (blk R)) (hu : Own W k 2 1 t.A t.xs.length t.c (ints t.xs)) (hk : wa.heap.size ≤ k) :
    PX w b f c ps (us ++ [t]) P pn pc A2 c2 C nc cc cs h u (W'.setCell ⟨b, 1, none⟩ (.slice A2 (us.length + 1) c2)) := by
  have hbx := p.box.growt p.recs.1 hg (by decide)
  have hl : (us ++ [t]).length = us.length + 1 := by simp
  have hnf : blk R ≠ some f := by
    obtain ⟨L, a, Q, d, e1, _⟩ := p.conf
    exact e1.aptt p.recs.1 (by decide)
  have hps := p.pos.grown hg (fun x hx hb => Own.blk_ne p.recs.1 p.pos (by decide) x hx hb)
  have hcf := p.cfs.grown hg (fun x hx hb => Own.blk_ne p.recs.1 p.cfs (by decide) x hx hb)
  have hcd := p.conf.grown' p.recs.1 hg (by decide) hnf
  have hrs : OII W' w.heap.size 25 2 A2 (us ++ [t]).length c2 (us ++ [t]) := by rw [hl]; exact OII.snoc pa.recs p.recs hs hg hu hk (by have := pa.low.size; omega) (by decide)
  have hlow := p.recs.1.below_of p.low hg p.low.size
  refine ⟨by rw [hl]; exact hbx.set_ 1 _, hps.far (p := ⟨b, 1, none⟩) (hbx.aptt hps (by decide)) _, hrs.set_box hbx (by decide) (by decide) _, hcf.far (p := ⟨b, 1, none⟩) (hbx.aptt hcf (by decide)) _, hcd.far hbx (by decide) (by decide) _, fun x hx y hy hb => ?_, p.aC, hlow.setCell (p := ⟨b, 1, none⟩) p.lob _, p.lob, p.lof⟩
  rcases List.mem_append.1 hy with h1 | h1
  · exact p.aP x hx y h1 hb
  · rw [List.mem_singleton.1 h1] at hb
    have h2 := hu.blk_ge x hb
    have h3 := pa.pos.blk_lt x hx
    omega
/-- A configuration more. -/
theorem PX.cfg_ {A2 : Option Addr} {c2 : Nat} {news : List Value} (p : PX w b f c ps us P pn pc R rc C nc cc cs h u W) (hs : Own W' w.heap.size 172 3 A2 (nc + 1) c2 (cs ++ news)) (hg : W.grownBy W' (blk C)) (hgn : blk A2 = blk C ∨ blk A2 = some W.heap.size) :
    PX w b f c ps us P pn pc R rc A2 (nc + 1) c2 (cs ++ news) h u (W'.setCell ⟨b, 2, none⟩ (.slice A2 (nc + 1) c2)) := by
  have hbx := p.box.growt p.cfs hg (by decide)
  have hps := p.pos.grown hg (fun x hx hb => Own.blk_ne p.cfs p.pos (by decide) x hx hb)
  have hrs : OII W' w.heap.size 25 2 R us.length rc us := ⟨p.recs.1.grown hg (fun x hx hb => Own.blk_ne p.cfs p.recs.1 (by decide) x hx hb), fun t ht => (p.recs.2.1 t ht).grown hg (fun x hx hb => Own.blk_ne p.cfs (p.recs.2.1 t ht) (by decide) x hx hb), p.recs.2.2⟩
  have hcd := p.conf.grown' p.cfs hg (by decide) p.aC
  have hlow := p.cfs.below_of p.low hg p.low.size
  have hfl : f < W.heap.size := by
    obtain ⟨L, a, Q, d, e1, _⟩ := p.conf
    exact e1.lt
  refine ⟨hbx.set_ 2 _, hps.far (p := ⟨b, 2, none⟩) (hbx.aptt hps (by decide)) _, hrs.set_box hbx (by decide) (by decide) _, hs.far (p := ⟨b, 2, none⟩) (hbx.aptt hs (by decide)) _, hcd.far hbx (by decide) (by decide) _, p.aP, ?_, hlow.setCell (p := ⟨b, 2, none⟩) p.lob _, p.lob, p.lof⟩
  rcases hgn with e | e
  · rw [e]; exact p.aC
  · rw [e]; intro e2; have := Option.some.inj e2; omega
end
def r3I (t : Int × Int × Int) : List Int := [t.1, t.2.1, t.2.2]
theorem exF_signs (sy : Int) (rs : List R3) (c : Conf) (i : Nat) : (exF sy rs c i).1 ≤ 0 ∧ 0 ≤ (exF sy rs c i).2.1 := by
  induction i with
  | zero => exact ⟨Int.le_refl _, Int.le_refl _⟩
  | succ i ih =>
    unfold exF
    split
    · exact ⟨ih.1, by have := ih.2; dsimp only; omega⟩
    · split
      · exact ⟨by have := ih.1; dsimp only; omega, ih.2⟩
      · exact ih
theorem exF_one (sy : Int) (rs : List R3) (c : Conf) : exF sy rs c 1 = (0, 0, []) := by simp [exF, posF]
end Go.Proofs.Ythipbeggaeogcaa
