/-
  Contract of the reference's l25Play. (Printed by wip/genplay.py.)
-/
import Derived.Test.YthipbeggaeogcaaPkRecordsOf3
namespace Go.Proofs.Ythipbeggaeogcaa
open Go.RowKit

theorem ConfD.qcell {W : World} {lo f : Nat} {c : Conf} {D : Option Addr} (h : ConfD W lo f c D) : W.cell? ⟨f, 0, none⟩ = some (.int .i64 c.q) := by
  obtain ⟨L, a, R, d, e1, _⟩ := h
  exact e1.cell 0
theorem ConfD.own {W : World} {lo f : Nat} {c : Conf} {D : Option Addr} (h : ConfD W lo f c D) (hx : c.xs.length ≤ 1048576) (hy : c.ys.length ≤ 1048576) : Calls Try.prog 188 #[.pointer (some ⟨f, 0, none⟩)] W (NewConf W c.q c.xs c.ys) := by
  obtain ⟨L, a, R, d, e1, e2, e3, _⟩ := h
  exact l05OwnConfig_any f c.q L _ a c.xs R _ d c.ys W e1.confAt e2.rd e3.rd hx hy
theorem PX.nRf {w W : World} {b f : Nat} {c : Conf} {ps : List Int} {us : List Sl} {P R C : Option Addr} {pn pc rc nc cc : Nat} {cs : List Value} {h u : Bool} (p : PX w b f c ps us P pn pc R rc C nc cc cs h u W) : blk R ≠ some f := by
  obtain ⟨L, a, Q, d, e1, _⟩ := p.conf
  exact e1.aptt p.recs.1 (by decide)

def PlayP (w : World) (sy : Int) (rs : List R3) (N : Nat) (e : Ending) (w' : World) : Prop :=
  (∃ (i b : Nat) (P : Option Addr) (pc : Nat) (R : Option Addr) (rc : Nat) (C : Option Addr) (nc cc : Nat) (us : List Sl) (h : Bool), Ended sy rs blankC N i ∧ e = .returned (.pointer (some ⟨b, 0, none⟩)) ∧ Blk w' b 192 #[.slice P (i + 1) pc, .slice R us.length rc, .slice C nc cc, .bool h, .bool false] ∧ OII w' w.heap.size 25 2 R us.length rc us ∧ nums us = (exF sy rs blankC (i + 1)).2.2.map r3I ∧ Below w.heap.size w w') ∨
  (∃ (i b : Nat) (v0 v1 v2 v3 : Value), Full sy rs blankC N i ∧ e = .returned (.pointer (some ⟨b, 0, none⟩)) ∧ Blk w' b 192 #[v0, v1, v2, v3, .bool true] ∧ Below w.heap.size w w')

set_option maxRecDepth 100000 in
set_option maxHeartbeats 32000000 in
theorem l25Play_any (g : Nat) (sy st : Int) (A : Option Addr) (n k : Nat) (rs : List R3) (N : Nat) (w : World) (hm : MachAt w g sy st A n k) (hr : S3 w A n rs) (hn : n ≤ 1048576) (hgc : goodC sy st rs blankC) (hN : N ≤ 1000000) :
    Calls Try.prog 143 #[.pointer (some ⟨g, 0, none⟩), .int .i64 (N : Int)] w (PlayP w sy rs N) := by
  have HGC := Lib.hid hgc
  have HP := Lib.hid (fun i h => posF_bound (i := i) hgc h)
  clear hgc
  obtain ⟨W, hW_⟩ : ∃ W, W = (w.alloc (.cells #[.int .i64 0] 2)).alloc (.cells #[.slice (some ⟨w.heap.size, 0, none⟩) 1 1, .slice none 0 0, .slice none 0 0, .bool false, .bool false] 192) := ⟨_, rfl⟩
  have s_1 : (w.alloc (.cells #[.int .i64 0] 2)).heap.size = w.heap.size + 1 := by simp
  have p0 : Blk W w.heap.size 2 #[.int .i64 0] := by rw [hW_]; exact (Blk.new w _ _).alloc _
  have b0 : Blk W (w.heap.size + 1) 192 #[.slice (some ⟨w.heap.size, 0, none⟩) 1 1, .slice none 0 0, .slice none 0 0, .bool false, .bool false] := by rw [hW_, ← s_1]; exact Blk.new _ _ _
  have y0 : Below w.heap.size w W := by rw [hW_]; exact ((Below.refl _ _).alloc (Nat.le_refl _) _).alloc (by simp) _
  have HW := Lib.hid hW_
  clear hW_ s_1
  have oP0 : Own W w.heap.size 2 1 (some ⟨w.heap.size, 0, none⟩) 1 1 (ints (posTo sy rs blankC 1)) := by
    refine ⟨rfl, .inr ⟨_, 0, _, rfl, Nat.le_refl _, p0, Nat.le_refl _, by simp [maxLen], by simp, fun k hk => ?_⟩⟩
    have hk' : k = 0 := by have : k < 1 := hk; omega
    subst hk'
    rfl
  go_enter Try.func143, Try.ntmps143
  go_upto_region 2 with fail
  rw [← HW.out]
  go_wp2_with fail
  refine (l25Blank_any _).mono ?_
  rintro e W2 ⟨L2, a2, R2, d2, rfl, oL2, oR2, hap2, z2⟩
  have HAP2 := Lib.hid hap2
  clear hap2 HW
  have hWs : w.heap.size + 1 < W.heap.size := b0.lt
  have oL2' : Own W2 w.heap.size 2 1 L2 0 a2 [] := oL2.mono y0.size
  have oR2' : Own W2 w.heap.size 2 1 R2 0 d2 [] := oR2.mono y0.size
  obtain ⟨W3, hW_⟩ : ∃ W_, W_ = W2.alloc (.cells #[.int .i64 0, .slice L2 0 a2, .slice R2 0 d2] 172) := ⟨_, rfl⟩
  have e3 : Blk W3 W2.heap.size 172 #[.int .i64 0, .slice L2 0 a2, .slice R2 0 d2] := by rw [hW_]; exact Blk.new W2 _ _
  have z3 : Below W2.heap.size W2 W3 := by rw [hW_]; exact (Below.refl _ _).alloc (Nat.le_refl _) _
  have HW3 := Lib.hid hW_
  clear hW_
  have z23 := z2.trans (z3.mono z2.size)
  have hp0 : PX w (w.heap.size + 1) W2.heap.size (itC sy rs blankC 0) (posTo sy rs blankC 1) [] (some ⟨w.heap.size, 0, none⟩) 1 1 none 0 none 0 0 [] false false W3 := by
    refine ⟨(b0.below' z23), oP0.below z23, OII.nil Own.nil, Own.nil, ⟨L2, a2, R2, d2, e3, oL2'.below z3, oR2'.below z3, HAP2.out, fun x hx => ?_⟩, by simp, by simp [blk], y0.trans (z23.mono y0.size), by omega, by have := z2.size; omega⟩
    simp [blk] at hx
    subst hx
    exact ⟨fun h => by have := oL2.blk_ge _ h; omega, fun h => by have := oR2.blk_ge _ h; omega⟩
  go_upto_region 3 with fail
  rw [← HW3.out]
  clear HW3 e3 z23 z3 z2 oL2 oR2 oL2' oR2' HAP2 oP0 p0 b0 y0
  obtain ⟨b, hbb⟩ : ∃ b, b = w.heap.size + 1 := ⟨_, rfl⟩
  obtain ⟨f, hff⟩ : ∃ f, f = W2.heap.size := ⟨_, rfl⟩
  rw [← hbb, ← hff] at hp0 ⊢
  clear hbb hff hWs
  have HE1 := Lib.hid (exF_one sy rs blankC)
  go_wp2_with fail
  go_loopw [7, 8, 9] (fun s7 s8 s9 wr => ∃ (i : Nat) (P : Option Addr) (pc : Nat) (us : List Sl) (R : Option Addr) (rc : Nat) (C : Option Addr) (nc cc : Nat) (cs : List Value), s9 = .int .i64 ((i : Int) + 1) ∧ s7 = .int .i64 (exF sy rs blankC (i + 1)).1 ∧ s8 = .int .i64 (exF sy rs blankC (i + 1)).2.1 ∧ i ≤ N ∧ Alive sy rs blankC i ∧ PX w b f (itC sy rs blankC i) (posTo sy rs blankC (i + 1)) us P (i + 1) pc R rc C nc cc cs false false wr ∧ Hid (nums us = (exF sy rs blankC (i + 1)).2.2.map r3I) ∧ nc ≤ 2 * i ∧ us.length ≤ 2 * i) (fun _ _ s9 _ => (N + 1) - (intOf s9).toNat)
  case atStart => exact ⟨0, _, 1, [], none, 0, none, 0, 0, [], by simp, by rw [HE1.out], by rw [HE1.out], Nat.zero_le _, Alive.zero _ _ _, hp0, Lib.hid (by rw [HE1.out]; rfl), by omega, by simp⟩
  case round =>
    obtain ⟨i, P, pc, us, R, rc, C, nc, cc, cs, rfl, rfl, rfl, hi, hal, hp, hnu, hnc, hul⟩ := hrel
    have HGOOD := Lib.hid (hal.good HGC.out)
    have HAL := Lib.hid hal
    clear hal hp0
    have HHALT := Lib.hid (l05Halts_c (hm.below hp.low) (hr.below hp.low) hp.conf.conf HGOOD.out hn)
    by_cases hlt : i < N
    · have j1 : (i : Int) + 1 ≤ (N : Int) := by omega
      go_wp2_with fail
      refine HHALT.out.mono ?_
      rintro e W3 ⟨rfl, z3⟩
      replace hp := hp.below z3
      cases hh : haltC sy rs (itC sy rs blankC i) with
      | true =>
        have HEN : Hid (Ended sy rs blankC N i) := Lib.hid ⟨hi, HAL.out, .inr hh⟩
        have x3 := hp.box.cell 3
        have f3 := hp.box.frozen 3
        clear hh z3 HHALT
        go_wp2_with fail
        have hpE := hp.halt_ true
        go_ret
        exact .inl ⟨i, b, P, pc, R, rc, C, nc, cc, us, true, HEN.out, rfl, hpE.box, hpE.recs, hnu.out, hpE.low⟩
      | false =>
        have HH := Lib.hid hh
        clear hh z3 HHALT
        have HSIDE : Hid (∀ q, Calls Try.prog 139 #[.pointer (some ⟨g, 0, none⟩), .pointer (some ⟨f, 0, none⟩)] (W3.drewN q) fun e w' => e = .returned (.int .i64 (ruleOf sy rs (itC sy rs blankC i).q (itC sy rs blankC i).ys).b) ∧ ∃ nq, w' = (W3.drewN q).drewN nq) := Lib.hid (fun q => l25Side_c ((hm.below hp.low).drewN q) ((hr.below hp.low).drewN q) (hp.conf.conf.drewN q) HGOOD.out hn)
        have hrm := rule_move HGOOD.out HH.out
        have hpi := HP.out i HAL.out
        have HPN : Hid (posF sy rs blankC (i + 1) = posF sy rs blankC i + (ruleOf sy rs (itC sy rs blankC i).q (itC sy rs blankC i).ys).b) := Lib.hid rfl
        have HEX : Hid (exF sy rs blankC (i + 1 + 1) = if (exF sy rs blankC (i + 1)).2.1 < posF sy rs blankC (i + 1) then ((exF sy rs blankC (i + 1)).1, posF sy rs blankC (i + 1), (exF sy rs blankC (i + 1)).2.2 ++ [(((i + 1 : Nat) : Int), 1, (itC sy rs blankC (i + 1)).q)])
          else if posF sy rs blankC (i + 1) < (exF sy rs blankC (i + 1)).1 then (posF sy rs blankC (i + 1), (exF sy rs blankC (i + 1)).2.1, (exF sy rs blankC (i + 1)).2.2 ++ [(((i + 1 : Nat) : Int), -1, (itC sy rs blankC (i + 1)).q)])
          else exF sy rs blankC (i + 1)) := Lib.hid rfl
        have hsg := exF_signs sy rs blankC (i + 1)
        obtain ⟨ex, hex⟩ : ∃ ex, ex = exF sy rs blankC (i + 1) := ⟨_, rfl⟩
        rw [← hex] at hnu HEX hsg ⊢
        clear hex
        obtain ⟨lx, gx, rcs⟩ := ex
        dsimp only at hnu HEX hsg ⊢
        obtain ⟨hsg1, hsg2⟩ := hsg
        generalize (ruleOf sy rs (itC sy rs blankC i).q (itC sy rs blankC i).ys).b = rb at *
        obtain ⟨b', off, hA, hlo', hbl', hc', _⟩ := hp.pos.at_ (k := i) (by rw [length_ints, posTo_len]; omega)
        have hcv : (ints (posTo sy rs blankC (i + 1)))[i]'(by rw [length_ints, posTo_len]; omega) = .int .i64 (posF sy rs blankC i) := by simp [ints, posTo]
        rw [hcv] at hc'
        subst hA
        have x0 := hp.box.cell 0
        have j2 : (0 : Int) ≤ (i : Int) := by omega
        have j3 : (i : Int) < (i : Int) + 1 := by omega
        have j4 : (i : Int) + 1 - 1 = (i : Int) := by omega
        clear hcv
        go_wp2_with fail
        go_quiet ((go_at_call 139; exact quiet_1 (HSIDE.out _)))
        replace hp := hp.below (below_drewN (Below.refl _ _) nq)
        clear x0 hc' j2 j3 j4 hlo' hbl' HSIDE
        generalize W3.drewN nq = W4 at *
        have HSTEP := Lib.hid (l05Step_c (hm.below hp.low) (hr.below hp.low) hp.conf.conf HGOOD.out hn)
        go_wp2_with fail
        refine HSTEP.out.mono ?_
        rintro e W5 ⟨L4, a4, R4, d4, rfl, ol4, or4, hap4, z4⟩
        have HAP4 := Lib.hid hap4
        clear hap4 HSTEP
        have HNXT : Hid (roomC (itC sy rs blankC (i + 1)) = true → Alive sy rs blankC (i + 1)) := fun h => HAL.out.next HH.out h
        have HFU : Hid (roomC (itC sy rs blankC (i + 1)) = false → Full sy rs blankC N i) := Lib.hid (fun h => ⟨hlt, HAL.out, HH.out, h⟩)
        generalize hnx : nextC sy rs (itC sy rs blankC i) = nx at *
        have HNX : Hid (itC sy rs blankC (i + 1) = nx) := Lib.hid hnx
        clear hnx
        obtain ⟨W6, hW_⟩ : ∃ W_, W_ = W5.alloc (.cells #[.int .i64 nx.q, .slice L4 nx.xs.length a4, .slice R4 nx.ys.length d4] 172) := ⟨_, rfl⟩
        have b5 : Blk W6 W5.heap.size 172 #[.int .i64 nx.q, .slice L4 nx.xs.length a4, .slice R4 nx.ys.length d4] := by rw [hW_]; exact Blk.new W5 _ _
        have z5 : Below W5.heap.size W5 W6 := by rw [hW_]; exact (Below.refl _ _).alloc (Nat.le_refl _) _
        have HW6 := Lib.hid hW_
        clear hW_
        have hD4 : Hid (∀ x, blk (some ⟨b', off, none⟩) = some x → blk L4 ≠ some x ∧ blk R4 ≠ some x) := Lib.hid (fun x hx => by
          have h1 := hp.pos.blk_lt x hx
          exact ⟨fun h => by have := ol4.blk_ge x h; omega, fun h => by have := or4.blk_ge x h; omega⟩)
        have hs4 := hp.low.size
        replace hp := (hp.below z4).below z5
        obtain ⟨L5, a5, R5, d5, bc5, _⟩ := id hp.conf
        have HGD : Hid (roomC nx = true → nx.xs.length ≤ 1048576 ∧ nx.ys.length ≤ 1048576) := Lib.hid (fun h => by
          have h2 := (HNXT.out (by rw [HNX.out]; exact h)).good HGC.out
          rw [HNX.out] at h2
          have := conf_parts h2
          omega)
        generalize itC sy rs blankC i = ci at *
        cases hro : roomC nx with
        | false =>
          have HF := Lib.hid (HFU.out (by rw [HNX.out]; exact hro))
          have x4 := hp.box.cell 4
          have f4 := hp.box.frozen 4
          clear hro
          go_upto_region 13 with fail
          rw [← HW6.out]
          clear HW6
          go_wp2_with fail
          have hpE := hp.full_ true
          go_ret
          exact .inr ⟨i, b, _, _, _, _, HF.out, rfl, hpE.box, hpE.low⟩
        | true =>
          have HRO : Hid (roomC (itC sy rs blankC (i + 1)) = true) := Lib.hid (by rw [HNX.out]; exact hro)
          have HGDN := Lib.hid (HGD.out hro)
          have HOWN : Hid (∀ W D, ConfD W w.heap.size f nx D → Calls Try.prog 188 #[.pointer (some ⟨f, 0, none⟩)] W (NewConf W nx.q nx.xs nx.ys)) := Lib.hid (fun W D h => h.own HGDN.out.1 HGDN.out.2)
          clear hro HGD HFU
          go_upto_region 13 with fail
          rw [← HW6.out]
          clear HW6
          have c0 : W6.cell? ⟨W5.heap.size, 0, none⟩ = some (.int .i64 nx.q) := b5.cell 0
          have c1 : W6.cell? ⟨W5.heap.size, 1, none⟩ = some (.slice L4 nx.xs.length a4) := b5.cell 1
          have c2 : W6.cell? ⟨W5.heap.size, 2, none⟩ = some (.slice R4 nx.ys.length d4) := b5.cell 2
          have u0 : W6.cell? ⟨f, 0, none⟩ = some (.int .i64 ci.q) := bc5.cell 0
          have u1 : W6.cell? ⟨f, 1, none⟩ = some (.slice L5 ci.xs.length a5) := bc5.cell 1
          have u2 : W6.cell? ⟨f, 2, none⟩ = some (.slice R5 ci.ys.length d5) := bc5.cell 2
          have f0 := bc5.frozen 0
          have f1 := bc5.frozen 1
          have f2 := bc5.frozen 2
          go_upto_region 17 with fail
          have hp7 := hp.now_ bc5 ((ol4.below z5).mono hs4) ((or4.below z5).mono hs4) HAP4.out hD4.out
          clear hp
          have hp := hp7
          clear hp7
          generalize ((W6.setCell ⟨f, 0, none⟩ (.int .i64 nx.q)).setCell ⟨f, 1, none⟩ (.slice L4 nx.xs.length a4)).setCell ⟨f, 2, none⟩ (.slice R4 nx.ys.length d4) = W7 at *
          clear c0 c1 c2 u0 u1 u2 f0 f1 f2 bc5 b5 ol4 or4 hD4 HAP4 z4 z5
          generalize hpv : posF sy rs blankC i + rb = pv at *
          have x0 := hp.box.cell 0
          have hp8 := hp.below ((Below.refl _ _).alloc (Nat.le_refl _) (.cells #[.int .i64 pv] 2))
          go_upto_if 63 with (at_builtin; refine wpList_append_Own rfl (.tmp 55) (.tmp 57) rfl elI (lo := w.heap.size) rfl hp8.pos rfl (Rd.new1 W7 (.int .i64 pv) _) (by simp [Value.oneCell']) (by omega) (by simp only [maxLen]; omega) hp8.low.size ?_; intro A8 c8 w8 ho8 hg8 hw8; have hb8 := hp8.box.growt hp8.pos hg8 (by decide); have y0 := hb8.cell 0; have g0 := hb8.frozen 0)
          rw [ints_snoc] at ho8
          have hp9 := hp8.pos_ ho8 hg8 hw8.1
          clear hp
          have hp := hp9
          clear hp9 x0 y0 g0 hb8 ho8 hg8 hw8
          generalize hW9 : w8.setCell ⟨b, 0, none⟩ (.slice A8 (i + 1 + 1) c8) = W9 at *
          clear hW9 hp8
          go_cut [8] (fun sx wx => ∃ (gv : Int) (us' : List Sl) (R' : Option Addr) (rc' : Nat) (C' : Option Addr) (nc' cc' : Nat) (cs' : List Value), sx = .int .i64 gv ∧ Hid (gv = if gx < pv then pv else gx) ∧ PX w b f nx (posTo sy rs blankC (i + 1) ++ [pv]) us' A8 (i + 1 + 1) c8 R' rc' C' nc' cc' cs' false false wx ∧ Hid (nums us' = if gx < pv then nums us ++ [[(i : Int) + 1, 1, nx.q]] else nums us) ∧ us'.length ≤ us.length + 1 ∧ nc' ≤ nc + 1)
          case first =>
            by_cases hcd : gx < pv
            · have HCD := Lib.hid hcd
              go_upto_region 20 with fail
              go_cut [75] (fun _ wx => ∃ (us1 : List Sl) (R1 : Option Addr) (rc1 : Nat), PX w b f nx (posTo sy rs blankC (i + 1) ++ [pv]) us1 A8 (i + 1 + 1) c8 R1 rc1 C nc cc cs false false wx ∧ Hid (nums us1 = nums us ++ [[(i : Int) + 1, 1, nx.q]]) ∧ us1.length = us.length + 1)
              case first =>
                refine wp_region_noPanic ?_
                refine wp_region_held_drew (S := (fun w' => w'.cell? ⟨f, 0, none⟩ = some (.int .i64 nx.q))) (by kernel_rfl) ?_ (fun hHeld => ?_)
                · exact hp.conf.qcell
                have hqd_ : PX w b f nx (posTo sy rs blankC (i + 1) ++ [pv]) us A8 (i + 1 + 1) c8 R rc C nc cc cs false false W9.drew := hp.below (show Below W9.heap.size W9 W9.drew from below_drewN (Below.refl _ _) 1)
                clear hp
                have hp := hqd_
                clear hqd_
                generalize W9.drew = Wc at *
                refine wpAnyH_take (i := 0) (v := ?_) rfl (by kernel_rfl) (by kernel_rfl) (by kernel_rfl) (fun _ _ _ h => h) (Or.inl ⟨by rfl, ?_⟩) (by assumption) ?_
                rotate_left
                · intro w hSw
                  try dsimp only at hSw
                  go_simp
                  try with_reducible rfl
                try simp only [Act.put, List.setIfInBounds_toArray]
                refine wpAnyH_take (i := 1) (v := ?_) rfl (by kernel_rfl) (by kernel_rfl) (by kernel_rfl) (fun _ _ _ h => h) (Or.inl ⟨by rfl, ?_⟩) (by assumption) ?_
                rotate_left
                · intro w hSw
                  try dsimp only at hSw
                  go_simp
                  try with_reducible rfl
                try simp only [Act.put]
                refine wpAnyH_take (i := 2) (v := ?_) rfl (by kernel_rfl) (by kernel_rfl) (by kernel_rfl) (fun _ _ _ h => h) (Or.inl ⟨by rfl, ?_⟩) (by assumption) ?_
                rotate_left
                · intro w hSw
                  try dsimp only at hSw
                  go_simp
                  try with_reducible rfl
                try simp only [Act.put]
                refine wpAnyH_take (i := 3) (v := ?_) rfl (by kernel_rfl) (by kernel_rfl) (by kernel_rfl) (fun _ _ _ h => h) (Or.inl ⟨by rfl, ?_⟩) (by assumption) ?_
                rotate_left
                · intro w hSw
                  try dsimp only at hSw
                  go_simp
                  try with_reducible rfl
                try simp only [Act.put]
                refine wpAnyH_take (i := 5) (v := ?_) rfl (by kernel_rfl) (by kernel_rfl) (by kernel_rfl) (fun _ _ _ h => h) (Or.inl ⟨by rfl, ?_⟩) (by assumption) ?_
                rotate_left
                · intro w hSw
                  try dsimp only at hSw
                  go_simp
                  try with_reducible rfl
                try simp only [Act.put]
                refine wpAnyH_take (i := 6) (v := ?_) rfl (by kernel_rfl) (by kernel_rfl) (by kernel_rfl) (fun _ _ _ h => h) (Or.inl ⟨by rfl, ?_⟩) (by assumption) ?_
                rotate_left
                · intro w hSw
                  try dsimp only at hSw
                  go_simp
                  try with_reducible rfl
                try simp only [Act.put]
                refine wpAnyH_take (i := 7) (v := ?_) rfl (by kernel_rfl) (by kernel_rfl) (by kernel_rfl) (fun _ _ _ h => h) (Or.inl ⟨by rfl, ?_⟩) (by assumption) ?_
                rotate_left
                · intro w hSw
                  try dsimp only at hSw
                  go_simp
                  try with_reducible rfl
                try simp only [Act.put]
                refine wpAnyH_ready (rs := [4, 8]) (by kernel_rfl) (by simp) ?_
                refine AllReadyH.cons rfl (fun K hK => ?_) ?_
                · have cc1 := hp.box.cell 1
                  go_simp
                  clear cc1
                  refine hK.out _ _ ?_ (fun hHeld => ?_)
                  · first | exact hpF.conf.qcell | exact hf3 | exact hp.conf.qcell
                  clear hK K
                  try simp only [Act.put, List.setIfInBounds_toArray, List.set_cons_zero, List.set_cons_succ]
                  refine wpAnyH_ready (rs := [8]) (by kernel_rfl) (by simp) ?_
                  refine AllReadyH.cons rfl (fun K hK => ?_) ?_
                  · go_simp
                    have hpa := hp
                    have ou : Own (Wc.alloc (.cells #[.int .i64 ((i : Int) + 1), .int .i64 (1), .int .i64 nx.q] 2)) Wc.heap.size 2 1 (some ⟨Wc.heap.size, 0, none⟩) 3 3 (ints [(i : Int) + 1, 1, nx.q]) := Own.lit Wc #[.int .i64 ((i : Int) + 1), .int .i64 (1), .int .i64 nx.q] 2 3 1 _ rfl (by simp [maxLen]) (Nat.le_refl _)
                    replace hp := hp.below ((Below.refl _ _).alloc (Nat.le_refl _) (.cells #[.int .i64 ((i : Int) + 1), .int .i64 (1), .int .i64 nx.q] 2))
                    refine hK.out _ _ ?_ (fun hHeld => ?_)
                    · first | exact hpF.conf.qcell | exact hf3 | exact hp.conf.qcell
                    clear hK K
                    try simp only [Act.put, List.setIfInBounds_toArray, List.set_cons_zero, List.set_cons_succ]
                    refine wpAnyH_ready (rs := [9]) (by kernel_rfl) (by simp) ?_
                    refine AllReadyH.cons rfl (fun K hK => ?_) ?_
                    · go_simp
                      have ou2 := ou.alloc (.cells #[.slice (some ⟨Wc.heap.size, 0, none⟩) 3 3] 25)
                      have rd9 : Rd ((Wc.alloc (.cells #[.int .i64 ((i : Int) + 1), .int .i64 (1), .int .i64 nx.q] 2)).alloc (.cells #[.slice (some ⟨Wc.heap.size, 0, none⟩) 3 3] 25)) 1 (some ⟨Wc.heap.size + 1, 0, none⟩) 1 [.slice (some ⟨Wc.heap.size, 0, none⟩) 3 3] := by have h := Rd.new1 (Wc.alloc (.cells #[.int .i64 ((i : Int) + 1), .int .i64 (1), .int .i64 nx.q] 2)) (.slice (some ⟨Wc.heap.size, 0, none⟩) 3 3) 25; rw [show (Wc.alloc (.cells #[.int .i64 ((i : Int) + 1), .int .i64 (1), .int .i64 nx.q] 2)).heap.size = Wc.heap.size + 1 by simp] at h; exact h
                      replace hp := hp.below ((Below.refl _ _).alloc (Nat.le_refl _) (.cells #[.slice (some ⟨Wc.heap.size, 0, none⟩) 3 3] 25))
                      refine hK.out _ _ ?_ (fun hHeld => ?_)
                      · first | exact hpF.conf.qcell | exact hf3 | exact hp.conf.qcell
                      clear hK K
                      try simp only [Act.put, List.setIfInBounds_toArray, List.set_cons_zero, List.set_cons_succ]
                      refine wpAnyH_ready (rs := [10]) (by kernel_rfl) (by simp) ?_
                      refine AllReadyH.cons rfl (fun K hK => ?_) ?_
                      · rw [if_pos (by rfl)]
                        refine wp_append_Own (.tmp 69) (.tmp 74) rfl elII (lo := w.heap.size) rfl hp.recs.1 rfl rd9 (by simp [Value.oneCell']) (by omega) (by simp only [maxLen]; omega) hp.low.size ?_
                        intro A3 c3 W3 ho3 hg3 hw3
                        have hpF := PX.rec_ (t := ⟨some ⟨Wc.heap.size, 0, none⟩, 3, [(i : Int) + 1, 1, nx.q]⟩) hpa hp ho3 hg3 ou2 (Nat.le_refl _)
                        have hb3 := hp.box.growt hp.recs.1 hg3 (by decide)
                        have hf3 := (hp.conf.grown' hp.recs.1 hg3 (by decide) hp.nRf).qcell
                        refine hK.out _ _ ?_ (fun hHeld => ?_)
                        · first | exact hpF.conf.qcell | exact hf3 | exact hp.conf.qcell
                        clear hK K
                        try simp only [Act.put, List.setIfInBounds_toArray]
                        refine wpAnyH_take (i := 11) (v := ?_) rfl (by kernel_rfl) (by kernel_rfl) (by kernel_rfl) (fun _ _ _ h => h) (Or.inl ⟨by rfl, ?_⟩) (by assumption) ?_
                        rotate_left
                        · intro w hSw
                          try dsimp only at hSw
                          go_simp
                          try with_reducible rfl
                        try simp only [Act.put]
                        refine wpAnyH_take (i := 12) (v := ?_) rfl (by kernel_rfl) (by kernel_rfl) (by kernel_rfl) (fun _ _ _ h => h) (Or.inl ⟨by rfl, ?_⟩) (by assumption) ?_
                        rotate_left
                        · intro w hSw
                          try dsimp only at hSw
                          go_simp
                          try with_reducible rfl
                        try simp only [Act.put]
                        refine wpAnyH_ready (rs := [13]) (by kernel_rfl) (by simp) ?_
                        refine AllReadyH.cons rfl (fun K hK => ?_) ?_
                        · have cc1 := hb3.cell 1
                          have ff1 := hb3.frozen 1
                          go_simp
                          clear cc1 ff1
                          refine hK.out _ _ ?_ (fun hHeld => ?_)
                          · first | exact hpF.conf.qcell | exact hf3 | exact hp.conf.qcell
                          clear hK K
                          try simp only [Act.put, List.setIfInBounds_toArray]
                          refine wpAnyH_done (by kernel_rfl) ?_ _
                          refine NoPanic.normal ?_
                          go_wp2_with fail
                          go_meet
                          exact ⟨_, A3, c3, hpF, Lib.hid (by rw [nums_append]), by simp⟩
                        exact AllReadyH.nil
                      exact AllReadyH.nil
                    exact AllReadyH.nil
                  exact AllReadyH.nil
                refine AllReadyH.cons rfl (fun K hK => ?_) ?_
                · go_simp
                  have hpa := hp
                  have ou : Own (Wc.alloc (.cells #[.int .i64 ((i : Int) + 1), .int .i64 (1), .int .i64 nx.q] 2)) Wc.heap.size 2 1 (some ⟨Wc.heap.size, 0, none⟩) 3 3 (ints [(i : Int) + 1, 1, nx.q]) := Own.lit Wc #[.int .i64 ((i : Int) + 1), .int .i64 (1), .int .i64 nx.q] 2 3 1 _ rfl (by simp [maxLen]) (Nat.le_refl _)
                  replace hp := hp.below ((Below.refl _ _).alloc (Nat.le_refl _) (.cells #[.int .i64 ((i : Int) + 1), .int .i64 (1), .int .i64 nx.q] 2))
                  refine hK.out _ _ ?_ (fun hHeld => ?_)
                  · first | exact hpF.conf.qcell | exact hf3 | exact hp.conf.qcell
                  clear hK K
                  try simp only [Act.put, List.setIfInBounds_toArray, List.set_cons_zero, List.set_cons_succ]
                  refine wpAnyH_ready (rs := [4, 9]) (by kernel_rfl) (by simp) ?_
                  refine AllReadyH.cons rfl (fun K hK => ?_) ?_
                  · have cc1 := hp.box.cell 1
                    go_simp
                    clear cc1
                    refine hK.out _ _ ?_ (fun hHeld => ?_)
                    · first | exact hpF.conf.qcell | exact hf3 | exact hp.conf.qcell
                    clear hK K
                    try simp only [Act.put, List.setIfInBounds_toArray, List.set_cons_zero, List.set_cons_succ]
                    refine wpAnyH_ready (rs := [9]) (by kernel_rfl) (by simp) ?_
                    refine AllReadyH.cons rfl (fun K hK => ?_) ?_
                    · go_simp
                      have ou2 := ou.alloc (.cells #[.slice (some ⟨Wc.heap.size, 0, none⟩) 3 3] 25)
                      have rd9 : Rd ((Wc.alloc (.cells #[.int .i64 ((i : Int) + 1), .int .i64 (1), .int .i64 nx.q] 2)).alloc (.cells #[.slice (some ⟨Wc.heap.size, 0, none⟩) 3 3] 25)) 1 (some ⟨Wc.heap.size + 1, 0, none⟩) 1 [.slice (some ⟨Wc.heap.size, 0, none⟩) 3 3] := by have h := Rd.new1 (Wc.alloc (.cells #[.int .i64 ((i : Int) + 1), .int .i64 (1), .int .i64 nx.q] 2)) (.slice (some ⟨Wc.heap.size, 0, none⟩) 3 3) 25; rw [show (Wc.alloc (.cells #[.int .i64 ((i : Int) + 1), .int .i64 (1), .int .i64 nx.q] 2)).heap.size = Wc.heap.size + 1 by simp] at h; exact h
                      replace hp := hp.below ((Below.refl _ _).alloc (Nat.le_refl _) (.cells #[.slice (some ⟨Wc.heap.size, 0, none⟩) 3 3] 25))
                      refine hK.out _ _ ?_ (fun hHeld => ?_)
                      · first | exact hpF.conf.qcell | exact hf3 | exact hp.conf.qcell
                      clear hK K
                      try simp only [Act.put, List.setIfInBounds_toArray, List.set_cons_zero, List.set_cons_succ]
                      refine wpAnyH_ready (rs := [10]) (by kernel_rfl) (by simp) ?_
                      refine AllReadyH.cons rfl (fun K hK => ?_) ?_
                      · rw [if_pos (by rfl)]
                        refine wp_append_Own (.tmp 69) (.tmp 74) rfl elII (lo := w.heap.size) rfl hp.recs.1 rfl rd9 (by simp [Value.oneCell']) (by omega) (by simp only [maxLen]; omega) hp.low.size ?_
                        intro A3 c3 W3 ho3 hg3 hw3
                        have hpF := PX.rec_ (t := ⟨some ⟨Wc.heap.size, 0, none⟩, 3, [(i : Int) + 1, 1, nx.q]⟩) hpa hp ho3 hg3 ou2 (Nat.le_refl _)
                        have hb3 := hp.box.growt hp.recs.1 hg3 (by decide)
                        have hf3 := (hp.conf.grown' hp.recs.1 hg3 (by decide) hp.nRf).qcell
                        refine hK.out _ _ ?_ (fun hHeld => ?_)
                        · first | exact hpF.conf.qcell | exact hf3 | exact hp.conf.qcell
                        clear hK K
                        try simp only [Act.put, List.setIfInBounds_toArray]
                        refine wpAnyH_take (i := 11) (v := ?_) rfl (by kernel_rfl) (by kernel_rfl) (by kernel_rfl) (fun _ _ _ h => h) (Or.inl ⟨by rfl, ?_⟩) (by assumption) ?_
                        rotate_left
                        · intro w hSw
                          try dsimp only at hSw
                          go_simp
                          try with_reducible rfl
                        try simp only [Act.put]
                        refine wpAnyH_take (i := 12) (v := ?_) rfl (by kernel_rfl) (by kernel_rfl) (by kernel_rfl) (fun _ _ _ h => h) (Or.inl ⟨by rfl, ?_⟩) (by assumption) ?_
                        rotate_left
                        · intro w hSw
                          try dsimp only at hSw
                          go_simp
                          try with_reducible rfl
                        try simp only [Act.put]
                        refine wpAnyH_ready (rs := [13]) (by kernel_rfl) (by simp) ?_
                        refine AllReadyH.cons rfl (fun K hK => ?_) ?_
                        · have cc1 := hb3.cell 1
                          have ff1 := hb3.frozen 1
                          go_simp
                          clear cc1 ff1
                          refine hK.out _ _ ?_ (fun hHeld => ?_)
                          · first | exact hpF.conf.qcell | exact hf3 | exact hp.conf.qcell
                          clear hK K
                          try simp only [Act.put, List.setIfInBounds_toArray]
                          refine wpAnyH_done (by kernel_rfl) ?_ _
                          refine NoPanic.normal ?_
                          go_wp2_with fail
                          go_meet
                          exact ⟨_, A3, c3, hpF, Lib.hid (by rw [nums_append]), by simp⟩
                        exact AllReadyH.nil
                      exact AllReadyH.nil
                    exact AllReadyH.nil
                  refine AllReadyH.cons rfl (fun K hK => ?_) ?_
                  · go_simp
                    have ou2 := ou.alloc (.cells #[.slice (some ⟨Wc.heap.size, 0, none⟩) 3 3] 25)
                    have rd9 : Rd ((Wc.alloc (.cells #[.int .i64 ((i : Int) + 1), .int .i64 (1), .int .i64 nx.q] 2)).alloc (.cells #[.slice (some ⟨Wc.heap.size, 0, none⟩) 3 3] 25)) 1 (some ⟨Wc.heap.size + 1, 0, none⟩) 1 [.slice (some ⟨Wc.heap.size, 0, none⟩) 3 3] := by have h := Rd.new1 (Wc.alloc (.cells #[.int .i64 ((i : Int) + 1), .int .i64 (1), .int .i64 nx.q] 2)) (.slice (some ⟨Wc.heap.size, 0, none⟩) 3 3) 25; rw [show (Wc.alloc (.cells #[.int .i64 ((i : Int) + 1), .int .i64 (1), .int .i64 nx.q] 2)).heap.size = Wc.heap.size + 1 by simp] at h; exact h
                    replace hp := hp.below ((Below.refl _ _).alloc (Nat.le_refl _) (.cells #[.slice (some ⟨Wc.heap.size, 0, none⟩) 3 3] 25))
                    refine hK.out _ _ ?_ (fun hHeld => ?_)
                    · first | exact hpF.conf.qcell | exact hf3 | exact hp.conf.qcell
                    clear hK K
                    try simp only [Act.put, List.setIfInBounds_toArray, List.set_cons_zero, List.set_cons_succ]
                    refine wpAnyH_ready (rs := [4]) (by kernel_rfl) (by simp) ?_
                    refine AllReadyH.cons rfl (fun K hK => ?_) ?_
                    · have cc1 := hp.box.cell 1
                      go_simp
                      clear cc1
                      refine hK.out _ _ ?_ (fun hHeld => ?_)
                      · first | exact hpF.conf.qcell | exact hf3 | exact hp.conf.qcell
                      clear hK K
                      try simp only [Act.put, List.setIfInBounds_toArray, List.set_cons_zero, List.set_cons_succ]
                      refine wpAnyH_ready (rs := [10]) (by kernel_rfl) (by simp) ?_
                      refine AllReadyH.cons rfl (fun K hK => ?_) ?_
                      · rw [if_pos (by rfl)]
                        refine wp_append_Own (.tmp 69) (.tmp 74) rfl elII (lo := w.heap.size) rfl hp.recs.1 rfl rd9 (by simp [Value.oneCell']) (by omega) (by simp only [maxLen]; omega) hp.low.size ?_
                        intro A3 c3 W3 ho3 hg3 hw3
                        have hpF := PX.rec_ (t := ⟨some ⟨Wc.heap.size, 0, none⟩, 3, [(i : Int) + 1, 1, nx.q]⟩) hpa hp ho3 hg3 ou2 (Nat.le_refl _)
                        have hb3 := hp.box.growt hp.recs.1 hg3 (by decide)
                        have hf3 := (hp.conf.grown' hp.recs.1 hg3 (by decide) hp.nRf).qcell
                        refine hK.out _ _ ?_ (fun hHeld => ?_)
                        · first | exact hpF.conf.qcell | exact hf3 | exact hp.conf.qcell
                        clear hK K
                        try simp only [Act.put, List.setIfInBounds_toArray]
                        refine wpAnyH_take (i := 11) (v := ?_) rfl (by kernel_rfl) (by kernel_rfl) (by kernel_rfl) (fun _ _ _ h => h) (Or.inl ⟨by rfl, ?_⟩) (by assumption) ?_
                        rotate_left
                        · intro w hSw
                          try dsimp only at hSw
                          go_simp
                          try with_reducible rfl
                        try simp only [Act.put]
                        refine wpAnyH_take (i := 12) (v := ?_) rfl (by kernel_rfl) (by kernel_rfl) (by kernel_rfl) (fun _ _ _ h => h) (Or.inl ⟨by rfl, ?_⟩) (by assumption) ?_
                        rotate_left
                        · intro w hSw
                          try dsimp only at hSw
                          go_simp
                          try with_reducible rfl
                        try simp only [Act.put]
                        refine wpAnyH_ready (rs := [13]) (by kernel_rfl) (by simp) ?_
                        refine AllReadyH.cons rfl (fun K hK => ?_) ?_
                        · have cc1 := hb3.cell 1
                          have ff1 := hb3.frozen 1
                          go_simp
                          clear cc1 ff1
                          refine hK.out _ _ ?_ (fun hHeld => ?_)
                          · first | exact hpF.conf.qcell | exact hf3 | exact hp.conf.qcell
                          clear hK K
                          try simp only [Act.put, List.setIfInBounds_toArray]
                          refine wpAnyH_done (by kernel_rfl) ?_ _
                          refine NoPanic.normal ?_
                          go_wp2_with fail
                          go_meet
                          exact ⟨_, A3, c3, hpF, Lib.hid (by rw [nums_append]), by simp⟩
                        exact AllReadyH.nil
                      exact AllReadyH.nil
                    exact AllReadyH.nil
                  exact AllReadyH.nil
                exact AllReadyH.nil
              case rest =>
                obtain ⟨us1, R1, rc1, hp', hnu1, hul1⟩ := hcut
                clear hp
                have hp := hp'
                clear hp'
                go_upto_region 21 with fail
                refine wp_region_noPanic ?_
                refine wp_region_held_drew (S := (fun _ => True)) (by kernel_rfl) ?_ (fun hHeld => ?_)
                · trivial
                have hqd_ : PX w b f nx (posTo sy rs blankC (i + 1) ++ [pv]) us1 A8 (i + 1 + 1) c8 R1 rc1 C nc cc cs false false wc.drew := hp.below (show Below wc.heap.size wc wc.drew from below_drewN (Below.refl _ _) 1)
                clear hp
                have hp := hqd_
                clear hqd_
                generalize wc.drew = Wc at *
                refine wpAnyH_take (i := 0) (v := ?_) rfl (by kernel_rfl) (by kernel_rfl) (by kernel_rfl) (fun _ _ _ h => h) (Or.inl ⟨by rfl, ?_⟩) (by assumption) ?_
                rotate_left
                · intro w hSw
                  try dsimp only at hSw
                  go_simp
                  try with_reducible rfl
                try simp only [Act.put, List.setIfInBounds_toArray]
                refine wpAnyH_take (i := 1) (v := ?_) rfl (by kernel_rfl) (by kernel_rfl) (by kernel_rfl) (fun _ _ _ h => h) (Or.inl ⟨by rfl, ?_⟩) (by assumption) ?_
                rotate_left
                · intro w hSw
                  try dsimp only at hSw
                  go_simp
                  try with_reducible rfl
                try simp only [Act.put]
                refine wpAnyH_take (i := 2) (v := ?_) rfl (by kernel_rfl) (by kernel_rfl) (by kernel_rfl) (fun _ _ _ h => h) (Or.inl ⟨by rfl, ?_⟩) (by assumption) ?_
                rotate_left
                · intro w hSw
                  try dsimp only at hSw
                  go_simp
                  try with_reducible rfl
                try simp only [Act.put]
                refine wpAnyH_take (i := 3) (v := ?_) rfl (by kernel_rfl) (by kernel_rfl) (by kernel_rfl) (fun _ _ _ h => h) (Or.inl ⟨by rfl, ?_⟩) (by assumption) ?_
                rotate_left
                · intro w hSw
                  try dsimp only at hSw
                  go_simp
                  try with_reducible rfl
                try simp only [Act.put]
                refine wpAnyH_ready (rs := [4, 5]) (by kernel_rfl) (by simp) ?_
                refine AllReadyH.cons rfl (fun K hK => ?_) ?_
                · have cc1 := hp.box.cell 2
                  go_simp
                  clear cc1
                  refine hK.out _ _ ?_ (fun hHeld => ?_)
                  · trivial
                  clear hK K
                  try simp only [Act.put, List.setIfInBounds_toArray, List.set_cons_zero, List.set_cons_succ]
                  refine wpAnyH_ready (rs := [5]) (by kernel_rfl) (by simp) ?_
                  refine AllReadyH.cons rfl (fun K hK => ?_) ?_
                  · go_simp
                    refine (HOWN.out _ _ hp.conf).mono ?_
                    rintro e Wd ⟨L7, a7, R7, d7, rfl, _, _, _, z7⟩
                    replace hp := hp.below z7
                    clear z7
                    refine hK.out _ _ ?_ (fun hHeld => ?_)
                    · trivial
                    clear hK K
                    try simp only [Act.put, List.setIfInBounds_toArray, List.set_cons_zero, List.set_cons_succ]
                    refine wpAnyH_ready (rs := [6]) (by kernel_rfl) (by simp) ?_
                    refine AllReadyH.cons rfl (fun K hK => ?_) ?_
                    · go_simp
                      have z6 : Below Wd.heap.size Wd (Wd.alloc (.cells #[.int .i64 nx.q, .slice L7 nx.xs.length a7, .slice R7 nx.ys.length d7] 172)) := (Below.refl _ _).alloc (Nat.le_refl _) _
                      replace hp := hp.below z6
                      refine hK.out _ _ ?_ (fun hHeld => ?_)
                      · trivial
                      clear hK K
                      try simp only [Act.put, List.setIfInBounds_toArray, List.set_cons_zero, List.set_cons_succ]
                      refine wpAnyH_ready (rs := [7]) (by kernel_rfl) (by simp) ?_
                      refine AllReadyH.cons rfl (fun K hK => ?_) ?_
                      · rw [if_pos (by rfl)]
                        refine wp_append_Own (.tmp 82) (.tmp 84) rfl elCfg (lo := w.heap.size) rfl hp.cfs rfl (Cf.new Wd ⟨nx.q, L7, a7, nx.xs, R7, d7, nx.ys⟩) (fun u hu => Cf.one [⟨nx.q, L7, a7, nx.xs, R7, d7, nx.ys⟩] u (by simpa using hu)) (by omega) (by simp only [maxLen]; omega) hp.low.size ?_
                        intro A3 c3 W3 ho3 hg3 hw3
                        have hpF := hp.cfg_ ho3 hg3 hw3.1
                        have hb3 := hp.box.growt hp.cfs hg3 (by decide)
                        refine hK.out _ _ ?_ (fun hHeld => ?_)
                        · trivial
                        clear hK K
                        try simp only [Act.put, List.setIfInBounds_toArray]
                        refine wpAnyH_take (i := 8) (v := ?_) rfl (by kernel_rfl) (by kernel_rfl) (by kernel_rfl) (fun _ _ _ h => h) (Or.inl ⟨by rfl, ?_⟩) (by assumption) ?_
                        rotate_left
                        · intro w hSw
                          try dsimp only at hSw
                          go_simp
                          try with_reducible rfl
                        try simp only [Act.put]
                        refine wpAnyH_take (i := 9) (v := ?_) rfl (by kernel_rfl) (by kernel_rfl) (by kernel_rfl) (fun _ _ _ h => h) (Or.inl ⟨by rfl, ?_⟩) (by assumption) ?_
                        rotate_left
                        · intro w hSw
                          try dsimp only at hSw
                          go_simp
                          try with_reducible rfl
                        try simp only [Act.put]
                        refine wpAnyH_ready (rs := [10]) (by kernel_rfl) (by simp) ?_
                        refine AllReadyH.cons rfl (fun K hK => ?_) ?_
                        · have cc1 := hb3.cell 2
                          have ff1 := hb3.frozen 2
                          go_simp
                          clear cc1 ff1
                          refine hK.out _ _ ?_ (fun hHeld => ?_)
                          · trivial
                          clear hK K
                          try simp only [Act.put, List.setIfInBounds_toArray]
                          refine wpAnyH_done (by kernel_rfl) ?_ _
                          refine NoPanic.normal ?_
                          go_wp2_with fail
                          go_meet
                          exact ⟨_, us1, R1, rc1, _, _, c3, _, rfl, Lib.hid (by rw [if_pos HCD.out]), hpF, Lib.hid (by rw [if_pos HCD.out]; exact hnu1.out), by omega, by omega⟩
                        exact AllReadyH.nil
                      exact AllReadyH.nil
                    exact AllReadyH.nil
                  exact AllReadyH.nil
                refine AllReadyH.cons rfl (fun K hK => ?_) ?_
                · go_simp
                  refine (HOWN.out _ _ hp.conf).mono ?_
                  rintro e Wd ⟨L7, a7, R7, d7, rfl, _, _, _, z7⟩
                  replace hp := hp.below z7
                  clear z7
                  refine hK.out _ _ ?_ (fun hHeld => ?_)
                  · trivial
                  clear hK K
                  try simp only [Act.put, List.setIfInBounds_toArray, List.set_cons_zero, List.set_cons_succ]
                  refine wpAnyH_ready (rs := [4, 6]) (by kernel_rfl) (by simp) ?_
                  refine AllReadyH.cons rfl (fun K hK => ?_) ?_
                  · have cc1 := hp.box.cell 2
                    go_simp
                    clear cc1
                    refine hK.out _ _ ?_ (fun hHeld => ?_)
                    · trivial
                    clear hK K
                    try simp only [Act.put, List.setIfInBounds_toArray, List.set_cons_zero, List.set_cons_succ]
                    refine wpAnyH_ready (rs := [6]) (by kernel_rfl) (by simp) ?_
                    refine AllReadyH.cons rfl (fun K hK => ?_) ?_
                    · go_simp
                      have z6 : Below Wd.heap.size Wd (Wd.alloc (.cells #[.int .i64 nx.q, .slice L7 nx.xs.length a7, .slice R7 nx.ys.length d7] 172)) := (Below.refl _ _).alloc (Nat.le_refl _) _
                      replace hp := hp.below z6
                      refine hK.out _ _ ?_ (fun hHeld => ?_)
                      · trivial
                      clear hK K
                      try simp only [Act.put, List.setIfInBounds_toArray, List.set_cons_zero, List.set_cons_succ]
                      refine wpAnyH_ready (rs := [7]) (by kernel_rfl) (by simp) ?_
                      refine AllReadyH.cons rfl (fun K hK => ?_) ?_
                      · rw [if_pos (by rfl)]
                        refine wp_append_Own (.tmp 82) (.tmp 84) rfl elCfg (lo := w.heap.size) rfl hp.cfs rfl (Cf.new Wd ⟨nx.q, L7, a7, nx.xs, R7, d7, nx.ys⟩) (fun u hu => Cf.one [⟨nx.q, L7, a7, nx.xs, R7, d7, nx.ys⟩] u (by simpa using hu)) (by omega) (by simp only [maxLen]; omega) hp.low.size ?_
                        intro A3 c3 W3 ho3 hg3 hw3
                        have hpF := hp.cfg_ ho3 hg3 hw3.1
                        have hb3 := hp.box.growt hp.cfs hg3 (by decide)
                        refine hK.out _ _ ?_ (fun hHeld => ?_)
                        · trivial
                        clear hK K
                        try simp only [Act.put, List.setIfInBounds_toArray]
                        refine wpAnyH_take (i := 8) (v := ?_) rfl (by kernel_rfl) (by kernel_rfl) (by kernel_rfl) (fun _ _ _ h => h) (Or.inl ⟨by rfl, ?_⟩) (by assumption) ?_
                        rotate_left
                        · intro w hSw
                          try dsimp only at hSw
                          go_simp
                          try with_reducible rfl
                        try simp only [Act.put]
                        refine wpAnyH_take (i := 9) (v := ?_) rfl (by kernel_rfl) (by kernel_rfl) (by kernel_rfl) (fun _ _ _ h => h) (Or.inl ⟨by rfl, ?_⟩) (by assumption) ?_
                        rotate_left
                        · intro w hSw
                          try dsimp only at hSw
                          go_simp
                          try with_reducible rfl
                        try simp only [Act.put]
                        refine wpAnyH_ready (rs := [10]) (by kernel_rfl) (by simp) ?_
                        refine AllReadyH.cons rfl (fun K hK => ?_) ?_
                        · have cc1 := hb3.cell 2
                          have ff1 := hb3.frozen 2
                          go_simp
                          clear cc1 ff1
                          refine hK.out _ _ ?_ (fun hHeld => ?_)
                          · trivial
                          clear hK K
                          try simp only [Act.put, List.setIfInBounds_toArray]
                          refine wpAnyH_done (by kernel_rfl) ?_ _
                          refine NoPanic.normal ?_
                          go_wp2_with fail
                          go_meet
                          exact ⟨_, us1, R1, rc1, _, _, c3, _, rfl, Lib.hid (by rw [if_pos HCD.out]), hpF, Lib.hid (by rw [if_pos HCD.out]; exact hnu1.out), by omega, by omega⟩
                        exact AllReadyH.nil
                      exact AllReadyH.nil
                    exact AllReadyH.nil
                  refine AllReadyH.cons rfl (fun K hK => ?_) ?_
                  · go_simp
                    have z6 : Below Wd.heap.size Wd (Wd.alloc (.cells #[.int .i64 nx.q, .slice L7 nx.xs.length a7, .slice R7 nx.ys.length d7] 172)) := (Below.refl _ _).alloc (Nat.le_refl _) _
                    replace hp := hp.below z6
                    refine hK.out _ _ ?_ (fun hHeld => ?_)
                    · trivial
                    clear hK K
                    try simp only [Act.put, List.setIfInBounds_toArray, List.set_cons_zero, List.set_cons_succ]
                    refine wpAnyH_ready (rs := [4]) (by kernel_rfl) (by simp) ?_
                    refine AllReadyH.cons rfl (fun K hK => ?_) ?_
                    · have cc1 := hp.box.cell 2
                      go_simp
                      clear cc1
                      refine hK.out _ _ ?_ (fun hHeld => ?_)
                      · trivial
                      clear hK K
                      try simp only [Act.put, List.setIfInBounds_toArray, List.set_cons_zero, List.set_cons_succ]
                      refine wpAnyH_ready (rs := [7]) (by kernel_rfl) (by simp) ?_
                      refine AllReadyH.cons rfl (fun K hK => ?_) ?_
                      · rw [if_pos (by rfl)]
                        refine wp_append_Own (.tmp 82) (.tmp 84) rfl elCfg (lo := w.heap.size) rfl hp.cfs rfl (Cf.new Wd ⟨nx.q, L7, a7, nx.xs, R7, d7, nx.ys⟩) (fun u hu => Cf.one [⟨nx.q, L7, a7, nx.xs, R7, d7, nx.ys⟩] u (by simpa using hu)) (by omega) (by simp only [maxLen]; omega) hp.low.size ?_
                        intro A3 c3 W3 ho3 hg3 hw3
                        have hpF := hp.cfg_ ho3 hg3 hw3.1
                        have hb3 := hp.box.growt hp.cfs hg3 (by decide)
                        refine hK.out _ _ ?_ (fun hHeld => ?_)
                        · trivial
                        clear hK K
                        try simp only [Act.put, List.setIfInBounds_toArray]
                        refine wpAnyH_take (i := 8) (v := ?_) rfl (by kernel_rfl) (by kernel_rfl) (by kernel_rfl) (fun _ _ _ h => h) (Or.inl ⟨by rfl, ?_⟩) (by assumption) ?_
                        rotate_left
                        · intro w hSw
                          try dsimp only at hSw
                          go_simp
                          try with_reducible rfl
                        try simp only [Act.put]
                        refine wpAnyH_take (i := 9) (v := ?_) rfl (by kernel_rfl) (by kernel_rfl) (by kernel_rfl) (fun _ _ _ h => h) (Or.inl ⟨by rfl, ?_⟩) (by assumption) ?_
                        rotate_left
                        · intro w hSw
                          try dsimp only at hSw
                          go_simp
                          try with_reducible rfl
                        try simp only [Act.put]
                        refine wpAnyH_ready (rs := [10]) (by kernel_rfl) (by simp) ?_
                        refine AllReadyH.cons rfl (fun K hK => ?_) ?_
                        · have cc1 := hb3.cell 2
                          have ff1 := hb3.frozen 2
                          go_simp
                          clear cc1 ff1
                          refine hK.out _ _ ?_ (fun hHeld => ?_)
                          · trivial
                          clear hK K
                          try simp only [Act.put, List.setIfInBounds_toArray]
                          refine wpAnyH_done (by kernel_rfl) ?_ _
                          refine NoPanic.normal ?_
                          go_wp2_with fail
                          go_meet
                          exact ⟨_, us1, R1, rc1, _, _, c3, _, rfl, Lib.hid (by rw [if_pos HCD.out]), hpF, Lib.hid (by rw [if_pos HCD.out]; exact hnu1.out), by omega, by omega⟩
                        exact AllReadyH.nil
                      exact AllReadyH.nil
                    exact AllReadyH.nil
                  exact AllReadyH.nil
                exact AllReadyH.nil
            · have HCD := Lib.hid hcd
              go_wp2_with fail
              go_meet
              exact ⟨_, us, R, rc, C, nc, cc, cs, rfl, Lib.hid (by rw [if_neg (by have := HCD.out; omega)]), hp, Lib.hid (by rw [if_neg (by have := HCD.out; omega)]), by omega, by omega⟩
          case rest =>
          obtain ⟨gv, usA, RA, rcA, CA, ncA, ccA, csA, rfl, hgv, hp', hnuA, hulA, hncA⟩ := hcut
          clear hp
          have hp := hp'
          clear hp'
          have HPS : Hid (posTo sy rs blankC (i + 1 + 1) = posTo sy rs blankC (i + 1) ++ [pv]) := Lib.hid (by rw [posTo_next, HPN.out])
          have HE2 : Hid (exF sy rs blankC (i + 1 + 1) = if gx < pv then (lx, pv, rcs ++ [(((i + 1 : Nat) : Int), 1, nx.q)]) else if pv < lx then (pv, gx, rcs ++ [(((i + 1 : Nat) : Int), -1, nx.q)]) else (lx, gx, rcs)) := Lib.hid (by
            have e1 : posF sy rs blankC (i + 1) = pv := HPN.out
            have e2 := HEX.out
            rw [e1, HNX.out] at e2
            exact e2)
          by_cases hcd : pv < lx
          · have HCD := Lib.hid hcd
            go_upto_region 24 with fail
            go_cut [102] (fun _ wx => ∃ (us1 : List Sl) (R1 : Option Addr) (rc1 : Nat), PX w b f nx (posTo sy rs blankC (i + 1) ++ [pv]) us1 A8 (i + 1 + 1) c8 R1 rc1 CA ncA ccA csA false false wx ∧ Hid (nums us1 = nums usA ++ [[(i : Int) + 1, -1, nx.q]]) ∧ us1.length = usA.length + 1)
            case first =>
              refine wp_region_noPanic ?_
              refine wp_region_held_drew (S := (fun w' => w'.cell? ⟨f, 0, none⟩ = some (.int .i64 nx.q))) (by kernel_rfl) ?_ (fun hHeld => ?_)
              · exact hp.conf.qcell
              have hqd_ : PX w b f nx (posTo sy rs blankC (i + 1) ++ [pv]) usA A8 (i + 1 + 1) c8 RA rcA CA ncA ccA csA false false wc.drew := hp.below (show Below wc.heap.size wc wc.drew from below_drewN (Below.refl _ _) 1)
              clear hp
              have hp := hqd_
              clear hqd_
              generalize wc.drew = Wc at *
              refine wpAnyH_take (i := 0) (v := ?_) rfl (by kernel_rfl) (by kernel_rfl) (by kernel_rfl) (fun _ _ _ h => h) (Or.inl ⟨by rfl, ?_⟩) (by assumption) ?_
              rotate_left
              · intro w hSw
                try dsimp only at hSw
                go_simp
                try with_reducible rfl
              try simp only [Act.put, List.setIfInBounds_toArray]
              refine wpAnyH_take (i := 1) (v := ?_) rfl (by kernel_rfl) (by kernel_rfl) (by kernel_rfl) (fun _ _ _ h => h) (Or.inl ⟨by rfl, ?_⟩) (by assumption) ?_
              rotate_left
              · intro w hSw
                try dsimp only at hSw
                go_simp
                try with_reducible rfl
              try simp only [Act.put]
              refine wpAnyH_take (i := 2) (v := ?_) rfl (by kernel_rfl) (by kernel_rfl) (by kernel_rfl) (fun _ _ _ h => h) (Or.inl ⟨by rfl, ?_⟩) (by assumption) ?_
              rotate_left
              · intro w hSw
                try dsimp only at hSw
                go_simp
                try with_reducible rfl
              try simp only [Act.put]
              refine wpAnyH_take (i := 3) (v := ?_) rfl (by kernel_rfl) (by kernel_rfl) (by kernel_rfl) (fun _ _ _ h => h) (Or.inl ⟨by rfl, ?_⟩) (by assumption) ?_
              rotate_left
              · intro w hSw
                try dsimp only at hSw
                go_simp
                try with_reducible rfl
              try simp only [Act.put]
              refine wpAnyH_take (i := 5) (v := ?_) rfl (by kernel_rfl) (by kernel_rfl) (by kernel_rfl) (fun _ _ _ h => h) (Or.inl ⟨by rfl, ?_⟩) (by assumption) ?_
              rotate_left
              · intro w hSw
                try dsimp only at hSw
                go_simp
                try with_reducible rfl
              try simp only [Act.put]
              refine wpAnyH_take (i := 6) (v := ?_) rfl (by kernel_rfl) (by kernel_rfl) (by kernel_rfl) (fun _ _ _ h => h) (Or.inl ⟨by rfl, ?_⟩) (by assumption) ?_
              rotate_left
              · intro w hSw
                try dsimp only at hSw
                go_simp
                try with_reducible rfl
              try simp only [Act.put]
              refine wpAnyH_take (i := 7) (v := ?_) rfl (by kernel_rfl) (by kernel_rfl) (by kernel_rfl) (fun _ _ _ h => h) (Or.inl ⟨by rfl, ?_⟩) (by assumption) ?_
              rotate_left
              · intro w hSw
                try dsimp only at hSw
                go_simp
                try with_reducible rfl
              try simp only [Act.put]
              refine wpAnyH_ready (rs := [4, 8]) (by kernel_rfl) (by simp) ?_
              refine AllReadyH.cons rfl (fun K hK => ?_) ?_
              · have cc1 := hp.box.cell 1
                go_simp
                clear cc1
                refine hK.out _ _ ?_ (fun hHeld => ?_)
                · first | exact hpF.conf.qcell | exact hf3 | exact hp.conf.qcell
                clear hK K
                try simp only [Act.put, List.setIfInBounds_toArray, List.set_cons_zero, List.set_cons_succ]
                refine wpAnyH_ready (rs := [8]) (by kernel_rfl) (by simp) ?_
                refine AllReadyH.cons rfl (fun K hK => ?_) ?_
                · go_simp
                  have hpa := hp
                  have ou : Own (Wc.alloc (.cells #[.int .i64 ((i : Int) + 1), .int .i64 (-1), .int .i64 nx.q] 2)) Wc.heap.size 2 1 (some ⟨Wc.heap.size, 0, none⟩) 3 3 (ints [(i : Int) + 1, -1, nx.q]) := Own.lit Wc #[.int .i64 ((i : Int) + 1), .int .i64 (-1), .int .i64 nx.q] 2 3 1 _ rfl (by simp [maxLen]) (Nat.le_refl _)
                  replace hp := hp.below ((Below.refl _ _).alloc (Nat.le_refl _) (.cells #[.int .i64 ((i : Int) + 1), .int .i64 (-1), .int .i64 nx.q] 2))
                  refine hK.out _ _ ?_ (fun hHeld => ?_)
                  · first | exact hpF.conf.qcell | exact hf3 | exact hp.conf.qcell
                  clear hK K
                  try simp only [Act.put, List.setIfInBounds_toArray, List.set_cons_zero, List.set_cons_succ]
                  refine wpAnyH_ready (rs := [9]) (by kernel_rfl) (by simp) ?_
                  refine AllReadyH.cons rfl (fun K hK => ?_) ?_
                  · go_simp
                    have ou2 := ou.alloc (.cells #[.slice (some ⟨Wc.heap.size, 0, none⟩) 3 3] 25)
                    have rd9 : Rd ((Wc.alloc (.cells #[.int .i64 ((i : Int) + 1), .int .i64 (-1), .int .i64 nx.q] 2)).alloc (.cells #[.slice (some ⟨Wc.heap.size, 0, none⟩) 3 3] 25)) 1 (some ⟨Wc.heap.size + 1, 0, none⟩) 1 [.slice (some ⟨Wc.heap.size, 0, none⟩) 3 3] := by have h := Rd.new1 (Wc.alloc (.cells #[.int .i64 ((i : Int) + 1), .int .i64 (-1), .int .i64 nx.q] 2)) (.slice (some ⟨Wc.heap.size, 0, none⟩) 3 3) 25; rw [show (Wc.alloc (.cells #[.int .i64 ((i : Int) + 1), .int .i64 (-1), .int .i64 nx.q] 2)).heap.size = Wc.heap.size + 1 by simp] at h; exact h
                    replace hp := hp.below ((Below.refl _ _).alloc (Nat.le_refl _) (.cells #[.slice (some ⟨Wc.heap.size, 0, none⟩) 3 3] 25))
                    refine hK.out _ _ ?_ (fun hHeld => ?_)
                    · first | exact hpF.conf.qcell | exact hf3 | exact hp.conf.qcell
                    clear hK K
                    try simp only [Act.put, List.setIfInBounds_toArray, List.set_cons_zero, List.set_cons_succ]
                    refine wpAnyH_ready (rs := [10]) (by kernel_rfl) (by simp) ?_
                    refine AllReadyH.cons rfl (fun K hK => ?_) ?_
                    · rw [if_pos (by rfl)]
                      refine wp_append_Own (.tmp 96) (.tmp 101) rfl elII (lo := w.heap.size) rfl hp.recs.1 rfl rd9 (by simp [Value.oneCell']) (by omega) (by simp only [maxLen]; omega) hp.low.size ?_
                      intro A3 c3 W3 ho3 hg3 hw3
                      have hpF := PX.rec_ (t := ⟨some ⟨Wc.heap.size, 0, none⟩, 3, [(i : Int) + 1, -1, nx.q]⟩) hpa hp ho3 hg3 ou2 (Nat.le_refl _)
                      have hb3 := hp.box.growt hp.recs.1 hg3 (by decide)
                      have hf3 := (hp.conf.grown' hp.recs.1 hg3 (by decide) hp.nRf).qcell
                      refine hK.out _ _ ?_ (fun hHeld => ?_)
                      · first | exact hpF.conf.qcell | exact hf3 | exact hp.conf.qcell
                      clear hK K
                      try simp only [Act.put, List.setIfInBounds_toArray]
                      refine wpAnyH_take (i := 11) (v := ?_) rfl (by kernel_rfl) (by kernel_rfl) (by kernel_rfl) (fun _ _ _ h => h) (Or.inl ⟨by rfl, ?_⟩) (by assumption) ?_
                      rotate_left
                      · intro w hSw
                        try dsimp only at hSw
                        go_simp
                        try with_reducible rfl
                      try simp only [Act.put]
                      refine wpAnyH_take (i := 12) (v := ?_) rfl (by kernel_rfl) (by kernel_rfl) (by kernel_rfl) (fun _ _ _ h => h) (Or.inl ⟨by rfl, ?_⟩) (by assumption) ?_
                      rotate_left
                      · intro w hSw
                        try dsimp only at hSw
                        go_simp
                        try with_reducible rfl
                      try simp only [Act.put]
                      refine wpAnyH_ready (rs := [13]) (by kernel_rfl) (by simp) ?_
                      refine AllReadyH.cons rfl (fun K hK => ?_) ?_
                      · have cc1 := hb3.cell 1
                        have ff1 := hb3.frozen 1
                        go_simp
                        clear cc1 ff1
                        refine hK.out _ _ ?_ (fun hHeld => ?_)
                        · first | exact hpF.conf.qcell | exact hf3 | exact hp.conf.qcell
                        clear hK K
                        try simp only [Act.put, List.setIfInBounds_toArray]
                        refine wpAnyH_done (by kernel_rfl) ?_ _
                        refine NoPanic.normal ?_
                        go_wp2_with fail
                        go_meet
                        exact ⟨_, A3, c3, hpF, Lib.hid (by rw [nums_append]), by simp⟩
                      exact AllReadyH.nil
                    exact AllReadyH.nil
                  exact AllReadyH.nil
                exact AllReadyH.nil
              refine AllReadyH.cons rfl (fun K hK => ?_) ?_
              · go_simp
                have hpa := hp
                have ou : Own (Wc.alloc (.cells #[.int .i64 ((i : Int) + 1), .int .i64 (-1), .int .i64 nx.q] 2)) Wc.heap.size 2 1 (some ⟨Wc.heap.size, 0, none⟩) 3 3 (ints [(i : Int) + 1, -1, nx.q]) := Own.lit Wc #[.int .i64 ((i : Int) + 1), .int .i64 (-1), .int .i64 nx.q] 2 3 1 _ rfl (by simp [maxLen]) (Nat.le_refl _)
                replace hp := hp.below ((Below.refl _ _).alloc (Nat.le_refl _) (.cells #[.int .i64 ((i : Int) + 1), .int .i64 (-1), .int .i64 nx.q] 2))
                refine hK.out _ _ ?_ (fun hHeld => ?_)
                · first | exact hpF.conf.qcell | exact hf3 | exact hp.conf.qcell
                clear hK K
                try simp only [Act.put, List.setIfInBounds_toArray, List.set_cons_zero, List.set_cons_succ]
                refine wpAnyH_ready (rs := [4, 9]) (by kernel_rfl) (by simp) ?_
                refine AllReadyH.cons rfl (fun K hK => ?_) ?_
                · have cc1 := hp.box.cell 1
                  go_simp
                  clear cc1
                  refine hK.out _ _ ?_ (fun hHeld => ?_)
                  · first | exact hpF.conf.qcell | exact hf3 | exact hp.conf.qcell
                  clear hK K
                  try simp only [Act.put, List.setIfInBounds_toArray, List.set_cons_zero, List.set_cons_succ]
                  refine wpAnyH_ready (rs := [9]) (by kernel_rfl) (by simp) ?_
                  refine AllReadyH.cons rfl (fun K hK => ?_) ?_
                  · go_simp
                    have ou2 := ou.alloc (.cells #[.slice (some ⟨Wc.heap.size, 0, none⟩) 3 3] 25)
                    have rd9 : Rd ((Wc.alloc (.cells #[.int .i64 ((i : Int) + 1), .int .i64 (-1), .int .i64 nx.q] 2)).alloc (.cells #[.slice (some ⟨Wc.heap.size, 0, none⟩) 3 3] 25)) 1 (some ⟨Wc.heap.size + 1, 0, none⟩) 1 [.slice (some ⟨Wc.heap.size, 0, none⟩) 3 3] := by have h := Rd.new1 (Wc.alloc (.cells #[.int .i64 ((i : Int) + 1), .int .i64 (-1), .int .i64 nx.q] 2)) (.slice (some ⟨Wc.heap.size, 0, none⟩) 3 3) 25; rw [show (Wc.alloc (.cells #[.int .i64 ((i : Int) + 1), .int .i64 (-1), .int .i64 nx.q] 2)).heap.size = Wc.heap.size + 1 by simp] at h; exact h
                    replace hp := hp.below ((Below.refl _ _).alloc (Nat.le_refl _) (.cells #[.slice (some ⟨Wc.heap.size, 0, none⟩) 3 3] 25))
                    refine hK.out _ _ ?_ (fun hHeld => ?_)
                    · first | exact hpF.conf.qcell | exact hf3 | exact hp.conf.qcell
                    clear hK K
                    try simp only [Act.put, List.setIfInBounds_toArray, List.set_cons_zero, List.set_cons_succ]
                    refine wpAnyH_ready (rs := [10]) (by kernel_rfl) (by simp) ?_
                    refine AllReadyH.cons rfl (fun K hK => ?_) ?_
                    · rw [if_pos (by rfl)]
                      refine wp_append_Own (.tmp 96) (.tmp 101) rfl elII (lo := w.heap.size) rfl hp.recs.1 rfl rd9 (by simp [Value.oneCell']) (by omega) (by simp only [maxLen]; omega) hp.low.size ?_
                      intro A3 c3 W3 ho3 hg3 hw3
                      have hpF := PX.rec_ (t := ⟨some ⟨Wc.heap.size, 0, none⟩, 3, [(i : Int) + 1, -1, nx.q]⟩) hpa hp ho3 hg3 ou2 (Nat.le_refl _)
                      have hb3 := hp.box.growt hp.recs.1 hg3 (by decide)
                      have hf3 := (hp.conf.grown' hp.recs.1 hg3 (by decide) hp.nRf).qcell
                      refine hK.out _ _ ?_ (fun hHeld => ?_)
                      · first | exact hpF.conf.qcell | exact hf3 | exact hp.conf.qcell
                      clear hK K
                      try simp only [Act.put, List.setIfInBounds_toArray]
                      refine wpAnyH_take (i := 11) (v := ?_) rfl (by kernel_rfl) (by kernel_rfl) (by kernel_rfl) (fun _ _ _ h => h) (Or.inl ⟨by rfl, ?_⟩) (by assumption) ?_
                      rotate_left
                      · intro w hSw
                        try dsimp only at hSw
                        go_simp
                        try with_reducible rfl
                      try simp only [Act.put]
                      refine wpAnyH_take (i := 12) (v := ?_) rfl (by kernel_rfl) (by kernel_rfl) (by kernel_rfl) (fun _ _ _ h => h) (Or.inl ⟨by rfl, ?_⟩) (by assumption) ?_
                      rotate_left
                      · intro w hSw
                        try dsimp only at hSw
                        go_simp
                        try with_reducible rfl
                      try simp only [Act.put]
                      refine wpAnyH_ready (rs := [13]) (by kernel_rfl) (by simp) ?_
                      refine AllReadyH.cons rfl (fun K hK => ?_) ?_
                      · have cc1 := hb3.cell 1
                        have ff1 := hb3.frozen 1
                        go_simp
                        clear cc1 ff1
                        refine hK.out _ _ ?_ (fun hHeld => ?_)
                        · first | exact hpF.conf.qcell | exact hf3 | exact hp.conf.qcell
                        clear hK K
                        try simp only [Act.put, List.setIfInBounds_toArray]
                        refine wpAnyH_done (by kernel_rfl) ?_ _
                        refine NoPanic.normal ?_
                        go_wp2_with fail
                        go_meet
                        exact ⟨_, A3, c3, hpF, Lib.hid (by rw [nums_append]), by simp⟩
                      exact AllReadyH.nil
                    exact AllReadyH.nil
                  exact AllReadyH.nil
                refine AllReadyH.cons rfl (fun K hK => ?_) ?_
                · go_simp
                  have ou2 := ou.alloc (.cells #[.slice (some ⟨Wc.heap.size, 0, none⟩) 3 3] 25)
                  have rd9 : Rd ((Wc.alloc (.cells #[.int .i64 ((i : Int) + 1), .int .i64 (-1), .int .i64 nx.q] 2)).alloc (.cells #[.slice (some ⟨Wc.heap.size, 0, none⟩) 3 3] 25)) 1 (some ⟨Wc.heap.size + 1, 0, none⟩) 1 [.slice (some ⟨Wc.heap.size, 0, none⟩) 3 3] := by have h := Rd.new1 (Wc.alloc (.cells #[.int .i64 ((i : Int) + 1), .int .i64 (-1), .int .i64 nx.q] 2)) (.slice (some ⟨Wc.heap.size, 0, none⟩) 3 3) 25; rw [show (Wc.alloc (.cells #[.int .i64 ((i : Int) + 1), .int .i64 (-1), .int .i64 nx.q] 2)).heap.size = Wc.heap.size + 1 by simp] at h; exact h
                  replace hp := hp.below ((Below.refl _ _).alloc (Nat.le_refl _) (.cells #[.slice (some ⟨Wc.heap.size, 0, none⟩) 3 3] 25))
                  refine hK.out _ _ ?_ (fun hHeld => ?_)
                  · first | exact hpF.conf.qcell | exact hf3 | exact hp.conf.qcell
                  clear hK K
                  try simp only [Act.put, List.setIfInBounds_toArray, List.set_cons_zero, List.set_cons_succ]
                  refine wpAnyH_ready (rs := [4]) (by kernel_rfl) (by simp) ?_
                  refine AllReadyH.cons rfl (fun K hK => ?_) ?_
                  · have cc1 := hp.box.cell 1
                    go_simp
                    clear cc1
                    refine hK.out _ _ ?_ (fun hHeld => ?_)
                    · first | exact hpF.conf.qcell | exact hf3 | exact hp.conf.qcell
                    clear hK K
                    try simp only [Act.put, List.setIfInBounds_toArray, List.set_cons_zero, List.set_cons_succ]
                    refine wpAnyH_ready (rs := [10]) (by kernel_rfl) (by simp) ?_
                    refine AllReadyH.cons rfl (fun K hK => ?_) ?_
                    · rw [if_pos (by rfl)]
                      refine wp_append_Own (.tmp 96) (.tmp 101) rfl elII (lo := w.heap.size) rfl hp.recs.1 rfl rd9 (by simp [Value.oneCell']) (by omega) (by simp only [maxLen]; omega) hp.low.size ?_
                      intro A3 c3 W3 ho3 hg3 hw3
                      have hpF := PX.rec_ (t := ⟨some ⟨Wc.heap.size, 0, none⟩, 3, [(i : Int) + 1, -1, nx.q]⟩) hpa hp ho3 hg3 ou2 (Nat.le_refl _)
                      have hb3 := hp.box.growt hp.recs.1 hg3 (by decide)
                      have hf3 := (hp.conf.grown' hp.recs.1 hg3 (by decide) hp.nRf).qcell
                      refine hK.out _ _ ?_ (fun hHeld => ?_)
                      · first | exact hpF.conf.qcell | exact hf3 | exact hp.conf.qcell
                      clear hK K
                      try simp only [Act.put, List.setIfInBounds_toArray]
                      refine wpAnyH_take (i := 11) (v := ?_) rfl (by kernel_rfl) (by kernel_rfl) (by kernel_rfl) (fun _ _ _ h => h) (Or.inl ⟨by rfl, ?_⟩) (by assumption) ?_
                      rotate_left
                      · intro w hSw
                        try dsimp only at hSw
                        go_simp
                        try with_reducible rfl
                      try simp only [Act.put]
                      refine wpAnyH_take (i := 12) (v := ?_) rfl (by kernel_rfl) (by kernel_rfl) (by kernel_rfl) (fun _ _ _ h => h) (Or.inl ⟨by rfl, ?_⟩) (by assumption) ?_
                      rotate_left
                      · intro w hSw
                        try dsimp only at hSw
                        go_simp
                        try with_reducible rfl
                      try simp only [Act.put]
                      refine wpAnyH_ready (rs := [13]) (by kernel_rfl) (by simp) ?_
                      refine AllReadyH.cons rfl (fun K hK => ?_) ?_
                      · have cc1 := hb3.cell 1
                        have ff1 := hb3.frozen 1
                        go_simp
                        clear cc1 ff1
                        refine hK.out _ _ ?_ (fun hHeld => ?_)
                        · first | exact hpF.conf.qcell | exact hf3 | exact hp.conf.qcell
                        clear hK K
                        try simp only [Act.put, List.setIfInBounds_toArray]
                        refine wpAnyH_done (by kernel_rfl) ?_ _
                        refine NoPanic.normal ?_
                        go_wp2_with fail
                        go_meet
                        exact ⟨_, A3, c3, hpF, Lib.hid (by rw [nums_append]), by simp⟩
                      exact AllReadyH.nil
                    exact AllReadyH.nil
                  exact AllReadyH.nil
                exact AllReadyH.nil
              exact AllReadyH.nil
            case rest =>
              obtain ⟨us1, R1, rc1, hp', hnu1, hul1⟩ := hcut
              clear hp
              have hp := hp'
              clear hp'
              have hng : ¬ gx < pv := by have := HCD.out; omega
              have H7 : Hid ((exF sy rs blankC (i + 1 + 1)).1 = pv) := Lib.hid (by rw [HE2.out, if_neg hng, if_pos HCD.out])
              have H8 : Hid ((exF sy rs blankC (i + 1 + 1)).2.1 = if gx < pv then pv else gx) := Lib.hid (by rw [HE2.out, if_neg hng, if_pos HCD.out, if_neg hng])
              have HR2 : Hid (nums us1 = (exF sy rs blankC (i + 1 + 1)).2.2.map r3I) := Lib.hid (by rw [HE2.out, if_neg hng, if_pos HCD.out, hnu1.out, hnuA.out, if_neg hng, hnu.out]; simp [r3I])
              clear hng
              go_upto_region 25 with fail
              refine wp_region_noPanic ?_
              refine wp_region_held_drew (S := (fun _ => True)) (by kernel_rfl) ?_ (fun hHeld => ?_)
              · trivial
              have hqd_ : PX w b f nx (posTo sy rs blankC (i + 1) ++ [pv]) us1 A8 (i + 1 + 1) c8 R1 rc1 CA ncA ccA csA false false wc.drew := hp.below (show Below wc.heap.size wc wc.drew from below_drewN (Below.refl _ _) 1)
              clear hp
              have hp := hqd_
              clear hqd_
              generalize wc.drew = Wc at *
              refine wpAnyH_take (i := 0) (v := ?_) rfl (by kernel_rfl) (by kernel_rfl) (by kernel_rfl) (fun _ _ _ h => h) (Or.inl ⟨by rfl, ?_⟩) (by assumption) ?_
              rotate_left
              · intro w hSw
                try dsimp only at hSw
                go_simp
                try with_reducible rfl
              try simp only [Act.put, List.setIfInBounds_toArray]
              refine wpAnyH_take (i := 1) (v := ?_) rfl (by kernel_rfl) (by kernel_rfl) (by kernel_rfl) (fun _ _ _ h => h) (Or.inl ⟨by rfl, ?_⟩) (by assumption) ?_
              rotate_left
              · intro w hSw
                try dsimp only at hSw
                go_simp
                try with_reducible rfl
              try simp only [Act.put]
              refine wpAnyH_take (i := 2) (v := ?_) rfl (by kernel_rfl) (by kernel_rfl) (by kernel_rfl) (fun _ _ _ h => h) (Or.inl ⟨by rfl, ?_⟩) (by assumption) ?_
              rotate_left
              · intro w hSw
                try dsimp only at hSw
                go_simp
                try with_reducible rfl
              try simp only [Act.put]
              refine wpAnyH_take (i := 3) (v := ?_) rfl (by kernel_rfl) (by kernel_rfl) (by kernel_rfl) (fun _ _ _ h => h) (Or.inl ⟨by rfl, ?_⟩) (by assumption) ?_
              rotate_left
              · intro w hSw
                try dsimp only at hSw
                go_simp
                try with_reducible rfl
              try simp only [Act.put]
              refine wpAnyH_ready (rs := [4, 5]) (by kernel_rfl) (by simp) ?_
              refine AllReadyH.cons rfl (fun K hK => ?_) ?_
              · have cc1 := hp.box.cell 2
                go_simp
                clear cc1
                refine hK.out _ _ ?_ (fun hHeld => ?_)
                · trivial
                clear hK K
                try simp only [Act.put, List.setIfInBounds_toArray, List.set_cons_zero, List.set_cons_succ]
                refine wpAnyH_ready (rs := [5]) (by kernel_rfl) (by simp) ?_
                refine AllReadyH.cons rfl (fun K hK => ?_) ?_
                · go_simp
                  refine (HOWN.out _ _ hp.conf).mono ?_
                  rintro e Wd ⟨L7, a7, R7, d7, rfl, _, _, _, z7⟩
                  replace hp := hp.below z7
                  clear z7
                  refine hK.out _ _ ?_ (fun hHeld => ?_)
                  · trivial
                  clear hK K
                  try simp only [Act.put, List.setIfInBounds_toArray, List.set_cons_zero, List.set_cons_succ]
                  refine wpAnyH_ready (rs := [6]) (by kernel_rfl) (by simp) ?_
                  refine AllReadyH.cons rfl (fun K hK => ?_) ?_
                  · go_simp
                    have z6 : Below Wd.heap.size Wd (Wd.alloc (.cells #[.int .i64 nx.q, .slice L7 nx.xs.length a7, .slice R7 nx.ys.length d7] 172)) := (Below.refl _ _).alloc (Nat.le_refl _) _
                    replace hp := hp.below z6
                    refine hK.out _ _ ?_ (fun hHeld => ?_)
                    · trivial
                    clear hK K
                    try simp only [Act.put, List.setIfInBounds_toArray, List.set_cons_zero, List.set_cons_succ]
                    refine wpAnyH_ready (rs := [7]) (by kernel_rfl) (by simp) ?_
                    refine AllReadyH.cons rfl (fun K hK => ?_) ?_
                    · rw [if_pos (by rfl)]
                      refine wp_append_Own (.tmp 109) (.tmp 111) rfl elCfg (lo := w.heap.size) rfl hp.cfs rfl (Cf.new Wd ⟨nx.q, L7, a7, nx.xs, R7, d7, nx.ys⟩) (fun u hu => Cf.one [⟨nx.q, L7, a7, nx.xs, R7, d7, nx.ys⟩] u (by simpa using hu)) (by omega) (by simp only [maxLen]; omega) hp.low.size ?_
                      intro A3 c3 W3 ho3 hg3 hw3
                      have hpF := hp.cfg_ ho3 hg3 hw3.1
                      have hb3 := hp.box.growt hp.cfs hg3 (by decide)
                      refine hK.out _ _ ?_ (fun hHeld => ?_)
                      · trivial
                      clear hK K
                      try simp only [Act.put, List.setIfInBounds_toArray]
                      refine wpAnyH_take (i := 8) (v := ?_) rfl (by kernel_rfl) (by kernel_rfl) (by kernel_rfl) (fun _ _ _ h => h) (Or.inl ⟨by rfl, ?_⟩) (by assumption) ?_
                      rotate_left
                      · intro w hSw
                        try dsimp only at hSw
                        go_simp
                        try with_reducible rfl
                      try simp only [Act.put]
                      refine wpAnyH_take (i := 9) (v := ?_) rfl (by kernel_rfl) (by kernel_rfl) (by kernel_rfl) (fun _ _ _ h => h) (Or.inl ⟨by rfl, ?_⟩) (by assumption) ?_
                      rotate_left
                      · intro w hSw
                        try dsimp only at hSw
                        go_simp
                        try with_reducible rfl
                      try simp only [Act.put]
                      refine wpAnyH_ready (rs := [10]) (by kernel_rfl) (by simp) ?_
                      refine AllReadyH.cons rfl (fun K hK => ?_) ?_
                      · have cc1 := hb3.cell 2
                        have ff1 := hb3.frozen 2
                        go_simp
                        clear cc1 ff1
                        refine hK.out _ _ ?_ (fun hHeld => ?_)
                        · trivial
                        clear hK K
                        try simp only [Act.put, List.setIfInBounds_toArray]
                        refine wpAnyH_done (by kernel_rfl) ?_ _
                        refine NoPanic.normal ?_
                        go_wp2_with fail
                        go_roundw
                        case rel => exact ⟨i + 1, A8, c8, us1, R1, rc1, _, _, c3, _, by go_num, by rw [H7.out], by rw [H8.out, hgv.out], by omega, HNXT.out HRO.out, by rw [HNX.out, HPS.out]; exact hpF, HR2, by omega, by omega⟩
                        case measure => simp [intOf]; omega
                      exact AllReadyH.nil
                    exact AllReadyH.nil
                  exact AllReadyH.nil
                exact AllReadyH.nil
              refine AllReadyH.cons rfl (fun K hK => ?_) ?_
              · go_simp
                refine (HOWN.out _ _ hp.conf).mono ?_
                rintro e Wd ⟨L7, a7, R7, d7, rfl, _, _, _, z7⟩
                replace hp := hp.below z7
                clear z7
                refine hK.out _ _ ?_ (fun hHeld => ?_)
                · trivial
                clear hK K
                try simp only [Act.put, List.setIfInBounds_toArray, List.set_cons_zero, List.set_cons_succ]
                refine wpAnyH_ready (rs := [4, 6]) (by kernel_rfl) (by simp) ?_
                refine AllReadyH.cons rfl (fun K hK => ?_) ?_
                · have cc1 := hp.box.cell 2
                  go_simp
                  clear cc1
                  refine hK.out _ _ ?_ (fun hHeld => ?_)
                  · trivial
                  clear hK K
                  try simp only [Act.put, List.setIfInBounds_toArray, List.set_cons_zero, List.set_cons_succ]
                  refine wpAnyH_ready (rs := [6]) (by kernel_rfl) (by simp) ?_
                  refine AllReadyH.cons rfl (fun K hK => ?_) ?_
                  · go_simp
                    have z6 : Below Wd.heap.size Wd (Wd.alloc (.cells #[.int .i64 nx.q, .slice L7 nx.xs.length a7, .slice R7 nx.ys.length d7] 172)) := (Below.refl _ _).alloc (Nat.le_refl _) _
                    replace hp := hp.below z6
                    refine hK.out _ _ ?_ (fun hHeld => ?_)
                    · trivial
                    clear hK K
                    try simp only [Act.put, List.setIfInBounds_toArray, List.set_cons_zero, List.set_cons_succ]
                    refine wpAnyH_ready (rs := [7]) (by kernel_rfl) (by simp) ?_
                    refine AllReadyH.cons rfl (fun K hK => ?_) ?_
                    · rw [if_pos (by rfl)]
                      refine wp_append_Own (.tmp 109) (.tmp 111) rfl elCfg (lo := w.heap.size) rfl hp.cfs rfl (Cf.new Wd ⟨nx.q, L7, a7, nx.xs, R7, d7, nx.ys⟩) (fun u hu => Cf.one [⟨nx.q, L7, a7, nx.xs, R7, d7, nx.ys⟩] u (by simpa using hu)) (by omega) (by simp only [maxLen]; omega) hp.low.size ?_
                      intro A3 c3 W3 ho3 hg3 hw3
                      have hpF := hp.cfg_ ho3 hg3 hw3.1
                      have hb3 := hp.box.growt hp.cfs hg3 (by decide)
                      refine hK.out _ _ ?_ (fun hHeld => ?_)
                      · trivial
                      clear hK K
                      try simp only [Act.put, List.setIfInBounds_toArray]
                      refine wpAnyH_take (i := 8) (v := ?_) rfl (by kernel_rfl) (by kernel_rfl) (by kernel_rfl) (fun _ _ _ h => h) (Or.inl ⟨by rfl, ?_⟩) (by assumption) ?_
                      rotate_left
                      · intro w hSw
                        try dsimp only at hSw
                        go_simp
                        try with_reducible rfl
                      try simp only [Act.put]
                      refine wpAnyH_take (i := 9) (v := ?_) rfl (by kernel_rfl) (by kernel_rfl) (by kernel_rfl) (fun _ _ _ h => h) (Or.inl ⟨by rfl, ?_⟩) (by assumption) ?_
                      rotate_left
                      · intro w hSw
                        try dsimp only at hSw
                        go_simp
                        try with_reducible rfl
                      try simp only [Act.put]
                      refine wpAnyH_ready (rs := [10]) (by kernel_rfl) (by simp) ?_
                      refine AllReadyH.cons rfl (fun K hK => ?_) ?_
                      · have cc1 := hb3.cell 2
                        have ff1 := hb3.frozen 2
                        go_simp
                        clear cc1 ff1
                        refine hK.out _ _ ?_ (fun hHeld => ?_)
                        · trivial
                        clear hK K
                        try simp only [Act.put, List.setIfInBounds_toArray]
                        refine wpAnyH_done (by kernel_rfl) ?_ _
                        refine NoPanic.normal ?_
                        go_wp2_with fail
                        go_roundw
                        case rel => exact ⟨i + 1, A8, c8, us1, R1, rc1, _, _, c3, _, by go_num, by rw [H7.out], by rw [H8.out, hgv.out], by omega, HNXT.out HRO.out, by rw [HNX.out, HPS.out]; exact hpF, HR2, by omega, by omega⟩
                        case measure => simp [intOf]; omega
                      exact AllReadyH.nil
                    exact AllReadyH.nil
                  exact AllReadyH.nil
                refine AllReadyH.cons rfl (fun K hK => ?_) ?_
                · go_simp
                  have z6 : Below Wd.heap.size Wd (Wd.alloc (.cells #[.int .i64 nx.q, .slice L7 nx.xs.length a7, .slice R7 nx.ys.length d7] 172)) := (Below.refl _ _).alloc (Nat.le_refl _) _
                  replace hp := hp.below z6
                  refine hK.out _ _ ?_ (fun hHeld => ?_)
                  · trivial
                  clear hK K
                  try simp only [Act.put, List.setIfInBounds_toArray, List.set_cons_zero, List.set_cons_succ]
                  refine wpAnyH_ready (rs := [4]) (by kernel_rfl) (by simp) ?_
                  refine AllReadyH.cons rfl (fun K hK => ?_) ?_
                  · have cc1 := hp.box.cell 2
                    go_simp
                    clear cc1
                    refine hK.out _ _ ?_ (fun hHeld => ?_)
                    · trivial
                    clear hK K
                    try simp only [Act.put, List.setIfInBounds_toArray, List.set_cons_zero, List.set_cons_succ]
                    refine wpAnyH_ready (rs := [7]) (by kernel_rfl) (by simp) ?_
                    refine AllReadyH.cons rfl (fun K hK => ?_) ?_
                    · rw [if_pos (by rfl)]
                      refine wp_append_Own (.tmp 109) (.tmp 111) rfl elCfg (lo := w.heap.size) rfl hp.cfs rfl (Cf.new Wd ⟨nx.q, L7, a7, nx.xs, R7, d7, nx.ys⟩) (fun u hu => Cf.one [⟨nx.q, L7, a7, nx.xs, R7, d7, nx.ys⟩] u (by simpa using hu)) (by omega) (by simp only [maxLen]; omega) hp.low.size ?_
                      intro A3 c3 W3 ho3 hg3 hw3
                      have hpF := hp.cfg_ ho3 hg3 hw3.1
                      have hb3 := hp.box.growt hp.cfs hg3 (by decide)
                      refine hK.out _ _ ?_ (fun hHeld => ?_)
                      · trivial
                      clear hK K
                      try simp only [Act.put, List.setIfInBounds_toArray]
                      refine wpAnyH_take (i := 8) (v := ?_) rfl (by kernel_rfl) (by kernel_rfl) (by kernel_rfl) (fun _ _ _ h => h) (Or.inl ⟨by rfl, ?_⟩) (by assumption) ?_
                      rotate_left
                      · intro w hSw
                        try dsimp only at hSw
                        go_simp
                        try with_reducible rfl
                      try simp only [Act.put]
                      refine wpAnyH_take (i := 9) (v := ?_) rfl (by kernel_rfl) (by kernel_rfl) (by kernel_rfl) (fun _ _ _ h => h) (Or.inl ⟨by rfl, ?_⟩) (by assumption) ?_
                      rotate_left
                      · intro w hSw
                        try dsimp only at hSw
                        go_simp
                        try with_reducible rfl
                      try simp only [Act.put]
                      refine wpAnyH_ready (rs := [10]) (by kernel_rfl) (by simp) ?_
                      refine AllReadyH.cons rfl (fun K hK => ?_) ?_
                      · have cc1 := hb3.cell 2
                        have ff1 := hb3.frozen 2
                        go_simp
                        clear cc1 ff1
                        refine hK.out _ _ ?_ (fun hHeld => ?_)
                        · trivial
                        clear hK K
                        try simp only [Act.put, List.setIfInBounds_toArray]
                        refine wpAnyH_done (by kernel_rfl) ?_ _
                        refine NoPanic.normal ?_
                        go_wp2_with fail
                        go_roundw
                        case rel => exact ⟨i + 1, A8, c8, us1, R1, rc1, _, _, c3, _, by go_num, by rw [H7.out], by rw [H8.out, hgv.out], by omega, HNXT.out HRO.out, by rw [HNX.out, HPS.out]; exact hpF, HR2, by omega, by omega⟩
                        case measure => simp [intOf]; omega
                      exact AllReadyH.nil
                    exact AllReadyH.nil
                  exact AllReadyH.nil
                exact AllReadyH.nil
              exact AllReadyH.nil
          · have HCD := Lib.hid hcd
            have H7 : Hid ((exF sy rs blankC (i + 1 + 1)).1 = lx) := Lib.hid (by
              rw [HE2.out]
              by_cases h1 : gx < pv
              · rw [if_pos h1]
              · rw [if_neg h1, if_neg hcd])
            have H8 : Hid ((exF sy rs blankC (i + 1 + 1)).2.1 = if gx < pv then pv else gx) := Lib.hid (by
              rw [HE2.out]
              by_cases h1 : gx < pv
              · rw [if_pos h1, if_pos h1]
              · rw [if_neg h1, if_neg hcd, if_neg h1])
            have HR2 : Hid (nums usA = (exF sy rs blankC (i + 1 + 1)).2.2.map r3I) := Lib.hid (by
              rw [HE2.out, hnuA.out, hnu.out]
              by_cases h1 : gx < pv
              · simp [h1, r3I]
              · rw [if_neg h1, if_neg h1, if_neg hcd])
            go_wp2_with fail
            go_roundw
            case rel => exact ⟨i + 1, A8, c8, usA, RA, rcA, CA, ncA, ccA, csA, by go_num, by rw [H7.out], by rw [H8.out, hgv.out], by omega, HNXT.out HRO.out, by rw [HNX.out, HPS.out]; exact hp, HR2, by omega, by omega⟩
            case measure => simp [intOf]; omega
    · obtain rfl : i = N := by omega
      have j1 : ¬ ((i : Int) + 1 ≤ (i : Int)) := by omega
      have HEN : Hid (Ended sy rs blankC i i) := Lib.hid ⟨Nat.le_refl _, HAL.out, .inl rfl⟩
      go_wp2_with fail
      refine HHALT.out.mono ?_
      rintro e W3 ⟨rfl, z3⟩
      replace hp := hp.below z3
      have x3 := hp.box.cell 3
      have f3 := hp.box.frozen 3
      go_wp2_with fail
      have hpE := hp.halt_ (haltC sy rs (itC sy rs blankC i))
      go_ret
      exact .inl ⟨i, b, P, pc, R, rc, C, nc, cc, us, _, HEN.out, rfl, hpE.box, hpE.recs, hnu.out, hpE.low⟩
end Go.Proofs.Ythipbeggaeogcaa
