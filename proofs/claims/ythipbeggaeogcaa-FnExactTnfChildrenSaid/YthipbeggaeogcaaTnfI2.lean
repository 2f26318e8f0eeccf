/-
  Contract of impl.childRules.
-/
import Derived.Test.YthipbeggaeogcaaTnfI1
namespace Go.Proofs.Ythipbeggaeogcaa
open Go.RowKit

theorem cells3_snoc (xs : List R3) (r : R3) : cells3 xs ++ [.int .i64 r.a, .int .i64 r.b, .int .i64 r.c] = cells3 (xs ++ [r]) := by simp [cells3, R3.cells]
theorem moves_at {rs : List R3} {j : Nat} (hj : j < (movesF rs).length) : ∃ mv, (movesF rs)[j]? = some mv := ⟨_, List.getElem?_eq_getElem hj⟩
/-- The rules up to a place in the three loops. -/
def upL (ms : List Int) (NX j i q : Nat) (mv : Int) : List R3 := row1 j ms NX ++ (row2 (j : Int) (ms.take i) NX ++ row3 (j : Int) mv q)
theorem upL_start (ms : List Int) (NX j : Nat) (mv : Int) : upL ms NX j 0 0 mv = row1 j ms NX := by simp [upL, row2, row3]
theorem upL_step (ms : List Int) (NX j i q : Nat) (mv : Int) : upL ms NX j i (q + 1) mv = upL ms NX j i q mv ++ [⟨(j : Int), mv, (q : Int)⟩] := by simp [upL, row3_next]
theorem upL_row {ms : List Int} {NX j i : Nat} {mv : Int} (mv' : Int) (h : ms[i]? = some mv) : upL ms NX j i NX mv = upL ms NX j (i + 1) 0 mv' := by
  unfold upL
  rw [row2_next NX h, row3_zero, List.append_nil]
theorem upL_zero (ms : List Int) (NX j i : Nat) (mv mv' : Int) : upL ms NX j i 0 mv = upL ms NX j i 0 mv' := by simp [upL, row3]
theorem upL_end {ms : List Int} {NX j i : Nat} (mv : Int) (h : ms.length ≤ i) : upL ms NX j i 0 mv = row1 (j + 1) ms NX := by
  unfold upL
  rw [List.take_of_length_le h, row3_zero, List.append_nil, row1_next]
theorem upL_len {ms : List Int} {NX j i q : Nat} {mv : Int} (hj : j ≤ 6) (hm : ms.length ≤ 2) (hn : NX ≤ 1000) (hq : q ≤ 1000) : (upL ms NX j i q mv).length ≤ 20000 := by
  unfold upL
  rw [List.length_append, List.length_append, row1_len, row2_len, row3_len]
  have h1 : j * (ms.length * NX) ≤ 6 * (2 * 1000) := Nat.mul_le_mul hj (Nat.mul_le_mul hm hn)
  have h2 : (ms.take i).length * NX ≤ 2 * 1000 := Nat.mul_le_mul (by rw [List.length_take]; omega) hn
  omega
theorem rd_new3 (w : World) (r : R3) : Rd (w.alloc (.cells #[.int .i64 r.a, .int .i64 r.b, .int .i64 r.c] 169)) 3 (some ⟨w.heap.size, 0, none⟩) 1 [.int .i64 r.a, .int .i64 r.b, .int .i64 r.c] := by
  refine ⟨rfl, fun _ => ⟨_, 0, rfl, fun k hk => ?_⟩⟩
  rw [cell_of_row _ w.heap.size (0 + k) _ 169 (0, 0) (heap_alloc_new w _)]
  simp at hk
  match k, hk with
  | 0, _ => rfl
  | 1, _ => rfl
  | 2, _ => rfl

set_option maxRecDepth 100000 in
set_option maxHeartbeats 8000000 in
theorem childRules_any (sy st : Int) (A : Option Addr) (n k : Nat) (rs : List R3) (w : World) (hrs : S3 w A n rs) (hn : n ≤ 1048576) (hs : SmallR rs) (h1 : 2 ≤ sy) (h2 : sy ≤ 6) (h3 : 1 ≤ st) (h4 : st ≤ 1000) :
    Calls Try.prog 134 #[.agg #[.int .i64 sy, .int .i64 st, .slice A n k]] w (NewR w (childR sy st rs)) := by
  have hrl : rs.length = n := hrs.len
  have hus := usedTo_small hs (k := rs.length) (Nat.le_refl _)
  have hfr := used_free rs
  have HML : Hid (∀ j, j < (movesF rs).length → ∃ mv, (movesF rs)[j]? = some mv) := Lib.hid (fun j hj => moves_at hj)
  have HMO : Hid (movesF rs = if (usedF rs).2.2 = 0 then [1] else [-1, 1]) := Lib.hid rfl
  have HWR : Hid ((wrF sy rs : Int) = min ((usedF rs).2.1 + 1) sy) := Lib.hid (by unfold wrF; have : 1 ≤ (usedF rs).2.1 := hus.2.2.1; omega)
  have HNX : Hid ((nxF st rs : Int) = min ((usedF rs).1 + 1) st) := Lib.hid (by unfold nxF; have : 1 ≤ (usedF rs).1 := hus.1; omega)
  have hu1 : 1 ≤ (usedF rs).1 ∧ (usedF rs).1 ≤ 100001 := ⟨hus.1, hus.2.1⟩
  have hu2 : 1 ≤ (usedF rs).2.1 ∧ (usedF rs).2.1 ≤ 100001 := ⟨hus.2.2.1, hus.2.2.2.1⟩
  have hwr : wrF sy rs ≤ 6 := by unfold wrF; omega
  have hnx : nxF st rs ≤ 1000 := by unfold nxF; omega
  have HFR : Hid ((usedF rs).2.2 = 0 ↔ (freeF rs).length = n) := Lib.hid (by rw [hrl] at hfr; omega)
  have HFL : Hid ((freeF rs).length ≤ n) := Lib.hid (by have := freeTo_len rs rs.length; rw [← hrl]; exact this)
  have HCR : Hid (childR sy st rs = row1 (wrF sy rs) (movesF rs) (nxF st rs)) := Lib.hid rfl
  have HCL := Lib.hid (childR_len (sy := sy) (st := st) (rs := rs) h2 h4)
  have HUS := Lib.hid (usedCounts_any sy st A n k rs)
  have HFREE := Lib.hid (freeRules_any sy st A n k rs)
  have hs' := Lib.hid hs
  clear hus hfr hrl hs
  generalize wrF sy rs = WR at *
  generalize nxF st rs = NX at *
  obtain ⟨u, hu⟩ : ∃ u, u = usedF rs := ⟨_, rfl⟩
  have HMO' : Hid (movesF rs = if u.2.2 = 0 then [1] else [-1, 1]) := Lib.hid (by rw [hu]; exact HMO.out)
  have HFR' : Hid (u.2.2 = 0 ↔ (freeF rs).length = n) := Lib.hid (by rw [hu]; exact HFR.out)
  rw [← hu] at HWR HNX hu1 hu2
  have HUS' : Hid (∀ w : World, S3 w A n rs → Calls Try.prog 182 #[.agg #[.int .i64 sy, .int .i64 st, .slice A n k]] w (UsedP2 w (u.1, u.2.1))) := Lib.hid (fun w h => by rw [hu]; exact HUS.out w h hn hs'.out)
  clear hu HMO HFR HUS
  obtain ⟨u1, u2, u3⟩ := u
  dsimp only at HWR HNX hu1 hu2 HMO' HFR' HUS'
  obtain ⟨u1a, u1b⟩ := hu1
  obtain ⟨u2a, u2b⟩ := hu2
  obtain ⟨W, hW_⟩ : ∃ W, W = w.alloc (.cells #[.int .i64 sy, .int .i64 st, .slice A n k] 82) := ⟨_, rfl⟩
  have b0 : Blk W w.heap.size 82 #[.int .i64 sy, .int .i64 st, .slice A n k] := by rw [hW_]; exact Blk.new w _ _
  have y0 : Below w.heap.size w W := by rw [hW_]; exact (Below.refl _ _).alloc (Nat.le_refl _) _
  have HW := Lib.hid hW_
  clear hW_
  have q0 : W.cell? ⟨w.heap.size, 0, none⟩ = some (.int .i64 sy) := b0.cell 0
  have q1 : W.cell? ⟨w.heap.size, 1, none⟩ = some (.int .i64 st) := b0.cell 1
  have q2 : W.cell? ⟨w.heap.size, 2, none⟩ = some (.slice A n k) := b0.cell 2
  go_enter Try.func134, Try.ntmps134
  go_wp2_with fail
  rw [← HW.out]
  clear HW
  refine (HUS'.out _ (hrs.below y0)).mono ?_
  rintro e W1 ⟨rfl, z1⟩
  have y1 := y0.trans (z1.mono y0.size)
  have c1 := b0.below' z1
  clear q0 q1 q2
  obtain ⟨W2, hW_⟩ : ∃ W_, W_ = W1.alloc (.cells #[.int .i64 (-1), .int .i64 1] 2) := ⟨_, rfl⟩
  have m2 : Blk W2 W1.heap.size 2 #[.int .i64 (-1), .int .i64 1] := by rw [hW_]; exact Blk.new W1 _ _
  have z2 : Below W1.heap.size W1 W2 := by rw [hW_]; exact (Below.refl _ _).alloc (Nat.le_refl _) _
  have HW2 := Lib.hid hW_
  clear hW_
  have om2 : Own W2 w.heap.size 2 1 (some ⟨W1.heap.size, 0, none⟩) 2 2 (ints [-1, 1]) := by rw [HW2.out]; exact Own.lit _ _ _ 2 1 _ rfl (by simp [maxLen]) y1.size
  have y2 := y1.trans (z2.mono y1.size)
  have c2 := c1.below' z2
  have q0 : W2.cell? ⟨w.heap.size, 0, none⟩ = some (.int .i64 sy) := c2.cell 0
  have q1 : W2.cell? ⟨w.heap.size, 1, none⟩ = some (.int .i64 st) := c2.cell 1
  have q2 : W2.cell? ⟨w.heap.size, 2, none⟩ = some (.slice A n k) := c2.cell 2
  go_upto_region 3 with fail
  rw [← HW2.out]
  clear HW2
  go_cut [23] (fun s23 wx => s23 = .bool (decide ((freeF rs).length = n)) ∧ Below W2.heap.size W2 wx)
  case first =>
    have hfl := HFL.out
    have g23 : (((freeF rs).length : Int) == (n : Int)) = decide ((freeF rs).length = n) := by
      by_cases h : (freeF rs).length = n
      · rw [h]; simp
      · have : ¬ (((freeF rs).length : Int) = (n : Int)) := by omega
        simp [h, this]
    have G23 := Lib.hid g23
    clear g23
    go_region_held3 (fun w' => w'.cell? ⟨w.heap.size, 0, none⟩ = some (.int .i64 sy) ∧ w'.cell? ⟨w.heap.size, 1, none⟩ = some (.int .i64 st) ∧ w'.cell? ⟨w.heap.size, 2, none⟩ = some (.slice A n k))
      (first
        | (go_keep; done)
        | (exact ⟨(c2.below' z3).cell 0, (c2.below' z3).cell 1, (c2.below' z3).cell 2⟩))
      (first
        | (go_at_call 180; refine (HFREE.out _ ((hrs.below y2).drewN 1) hn).mono ?_; rintro e W3 ⟨B3, cB3, rfl, oB3, z3'⟩; have z3 : Below W2.heap.size W2 W3 := below_undrew z3'))
    all_goals
      go_wp2_with fail
      go_meet
      refine ⟨?_, z3⟩
      rw [← G23.out]
  case rest =>
  obtain ⟨rfl, z3⟩ := hcut
  have y3 := y2.trans (z3.mono y2.size)
  have c3 := c2.below' z3
  have om3 := om2.below z3
  clear q0 q1 q2 om2 m2
  go_upto_if 23 with fail
  go_cut [5] (fun s5 wx => ∃ D L, s5 = .slice D L L ∧ Own wx 0 2 1 D L L (ints (movesF rs)) ∧ Below w.heap.size w wx ∧ Blk wx w.heap.size 82 #[.int .i64 sy, .int .i64 st, .slice A n k])
  case first =>
    by_cases hf : (freeF rs).length = n
    · have HM : Hid (movesF rs = [1]) := Lib.hid (by rw [HMO'.out, if_pos (HFR'.out.2 hf)])
      go_wp2_with fail
      go_meet
      refine ⟨_, _, rfl, ?_, y3.alloc y3.size _, c3.alloc _⟩
      rw [HM.out]
      exact Own.lit _ #[.int .i64 1] 2 1 1 0 rfl (by simp [maxLen]) (Nat.zero_le _)
    · have HM : Hid (movesF rs = [-1, 1]) := Lib.hid (by rw [HMO'.out, if_neg (fun h => hf (HFR'.out.1 h))])
      go_wp2_with fail
      go_meet
      refine ⟨_, _, rfl, ?_, y3, c3⟩
      rw [HM.out]
      exact om3.mono (Nat.zero_le _)
  case rest =>
  obtain ⟨D0, L, rfl, hD, hy, hB⟩ := hcut
  clear om3 c3 y3 z3 c2 y2 z2 c1 y1 z1 b0 y0 HFREE HUS' HFR' HMO' HFL
  have hdl : (movesF rs).length = L := (SI.len (xs := movesF rs) hD.rd)
  have HDL := Lib.hid hdl
  have hL2 : L ≤ 2 := by rw [← hdl]; exact movesF_len rs
  have HML2 : Hid ((movesF rs).length ≤ 2) := Lib.hid (movesF_len rs)
  generalize movesF rs = ms at *
  clear hdl
  obtain ⟨W4, hW_⟩ : ∃ W_, W_ = wc.alloc (.cells #[] 169) := ⟨_, rfl⟩
  have b4 : Blk W4 wc.heap.size 169 #[] := by rw [hW_]; exact Blk.new wc _ _
  have z4 : Below wc.heap.size wc W4 := by rw [hW_]; exact (Below.refl _ _).alloc (Nat.le_refl _) _
  have HW4 := Lib.hid hW_
  clear hW_
  have y4 := hy.trans (z4.mono hy.size)
  have hB4 := hB.below' z4
  have hD4 := hD.below z4
  have o4 : Own W4 w.heap.size 169 3 (some ⟨wc.heap.size, 0, none⟩) (row1 0 ms NX).length 0 (cells3 (row1 0 ms NX)) := by rw [HW4.out, row1_zero]; exact (Own.lit0 wc _ 3).mono hy.size
  have q0 : W4.cell? ⟨w.heap.size, 0, none⟩ = some (.int .i64 sy) := hB4.cell 0
  have q1 : W4.cell? ⟨w.heap.size, 1, none⟩ = some (.int .i64 st) := hB4.cell 1
  have q2 : W4.cell? ⟨w.heap.size, 2, none⟩ = some (.slice A n k) := hB4.cell 2
  go_upto_region 6 with fail
  rw [← HW4.out]
  go_wp2_with fail
  clear HW4 b4 hB hy hD
  go_loopw [6, 31] (fun v i wr => ∃ (j : Nat) (D : Option Addr) (c : Nat), j ≤ WR ∧ i = .int .i64 (j : Int) ∧ v = .slice D (row1 j ms NX).length c ∧ Own wr w.heap.size 169 3 D (row1 j ms NX).length c (cells3 (row1 j ms NX)) ∧ Own wr 0 2 1 D0 L L (ints ms) ∧ Blk wr w.heap.size 82 #[.int .i64 sy, .int .i64 st, .slice A n k] ∧ Below w.heap.size w wr) (fun _ i _ => WR - (intOf i).toNat)
  case atStart => exact ⟨0, _, 0, Nat.zero_le _, rfl, rfl, o4, hD4, hB4, y4⟩
  case round =>
    obtain ⟨j, D, c, hj, rfl, rfl, ho, hD, hB, hy⟩ := hrel
    clear q0 q1 q2 o4 hD4 hB4 y4 z4
    by_cases hlt : j < WR
    · have i1 : (j : Int) < min (u2 + 1) sy := by rw [← HWR.out]; omega
      go_wp2_with fail
      go_loopw [6, 36] (fun v i wr => ∃ (t : Nat) (E : Option Addr) (d : Nat), t ≤ L ∧ i = .int .i64 (t : Int) ∧ v = .slice E (upL ms NX j t 0 0).length d ∧ Own wr w.heap.size 169 3 E (upL ms NX j t 0 0).length d (cells3 (upL ms NX j t 0 0)) ∧ Own wr 0 2 1 D0 L L (ints ms) ∧ Blk wr w.heap.size 82 #[.int .i64 sy, .int .i64 st, .slice A n k] ∧ Below w.heap.size w wr) (fun _ i _ => L - (intOf i).toNat)
      case atStart => exact ⟨0, D, c, Nat.zero_le _, rfl, by rw [upL_start], by rw [upL_start]; exact ho, hD, hB, hy⟩
      case round =>
        obtain ⟨t, E, d, ht, rfl, rfl, ho2, hD2, hB2, hy2⟩ := hrel
        clear ho hD hB hy
        by_cases htl : t < L
        · obtain ⟨mv, hmv⟩ := HML.out t (by rw [HDL.out]; exact htl)
          obtain ⟨b, off, rfl, hbl, hc⟩ := SI.at_ (xs := ms) hD2.rd htl
          have hmv2 : ms[t]'(by rw [HDL.out]; exact htl) = mv := by
            obtain ⟨h, e⟩ := List.getElem?_eq_some_iff.1 hmv
            exact e
          rw [hmv2] at hc
          have HMV := Lib.hid hmv
          clear hmv hmv2
          have i2 : (t : Int) < (L : Int) := by omega
          have i2' : (0 : Int) ≤ (t : Int) := by omega
          have q0 : wr.cell? ⟨w.heap.size, 0, none⟩ = some (.int .i64 sy) := hB2.cell 0
          have q1 : wr.cell? ⟨w.heap.size, 1, none⟩ = some (.int .i64 st) := hB2.cell 1
          have q2 : wr.cell? ⟨w.heap.size, 2, none⟩ = some (.slice A n k) := hB2.cell 2
          go_wp2_with fail
          clear q0 q1 q2 hc
          go_loopw [6, 45] (fun v i wr => ∃ (q : Nat) (F : Option Addr) (e : Nat), q ≤ NX ∧ i = .int .i64 (q : Int) ∧ v = .slice F (upL ms NX j t q mv).length e ∧ Own wr w.heap.size 169 3 F (upL ms NX j t q mv).length e (cells3 (upL ms NX j t q mv)) ∧ Own wr 0 2 1 (some ⟨b, off, none⟩) L L (ints ms) ∧ Blk wr w.heap.size 82 #[.int .i64 sy, .int .i64 st, .slice A n k] ∧ Below w.heap.size w wr) (fun _ i _ => NX - (intOf i).toNat)
          case atStart => exact ⟨0, E, d, Nat.zero_le _, rfl, by rw [upL_zero ms NX j t mv 0], by rw [upL_zero ms NX j t mv 0]; exact ho2, hD2, hB2, hy2⟩
          case round =>
            obtain ⟨q, F, e, hq, rfl, rfl, ho3, hD3, hB3, hy3⟩ := hrel
            clear ho2 hD2 hB2 hy2
            by_cases hql : q < NX
            · have i3 : (q : Int) < min (u1 + 1) st := by rw [← HNX.out]; omega
              have hlen : (upL ms NX j t q mv).length ≤ 20000 := upL_len (by omega) HML2.out hnx (by omega)
              have HSTEP := Lib.hid (upL_step ms NX j t q mv)
              go_wp2_with (at_builtin; refine wpList_append_Own rfl (.tmp 48) (.tmp 53) rfl elR (lo := w.heap.size) rfl (ho3.alloc _) rfl (rd_new3 wr ⟨(j : Int), mv, (q : Int)⟩) (by simp [Value.oneCell']) (by omega) (by simp only [maxLen]; omega) (by have := hy3.size; simp; omega) ?_; intro A2 c2 w2 ho7 hg7 hw7)
              have hy7 : Below w.heap.size w w2 := (ho3.alloc _).below_of (hy3.alloc hy3.size _) hg7 (by have := hy3.size; simp; omega)
              have hB7 : Blk w2 w.heap.size 82 #[.int .i64 sy, .int .i64 st, .slice A n k] := Blk.grown (hB3.alloc _) (ho3.alloc _) hg7 (by decide)
              have hD7 := Own.grown_apt (hD3.alloc _) (ho3.alloc _) hg7 (by decide)
              have ho8 : Own w2 w.heap.size 169 3 A2 (upL ms NX j t (q + 1) mv).length c2 (cells3 (upL ms NX j t (q + 1) mv)) := by
                have e1 : (upL ms NX j t (q + 1) mv).length = (upL ms NX j t q mv).length + 1 := by rw [HSTEP.out]; simp
                rw [e1, HSTEP.out, ← cells3_snoc]; exact ho7
              have HLEN : Hid ((upL ms NX j t q mv).length + 1 = (upL ms NX j t (q + 1) mv).length) := Lib.hid (by rw [HSTEP.out]; simp)
              clear ho7
              go_wp2_with fail
              go_roundw
              case rel => exact ⟨q + 1, A2, c2, by omega, by go_num, by rw [← HLEN.out], ho8, hD7, hB7, hy7⟩
              case measure => simp [intOf]; omega
            · have i3 : ¬ ((q : Int) < min (u1 + 1) st) := by rw [← HNX.out]; omega
              obtain rfl : q = NX := by omega
              have HROW := Lib.hid (upL_row (NX := q) (j := j) 0 HMV.out)
              go_wp2_with fail
              go_roundw
              case rel => exact ⟨t + 1, F, e, by omega, by go_num, by rw [← HROW.out], by rw [← HROW.out]; exact ho3, hD3, hB3, hy3⟩
              case measure => simp [intOf]; omega
        · have i2 : ¬ ((t : Int) < (L : Int)) := by omega
          have HEND := Lib.hid (upL_end (NX := NX) (j := j) (i := t) 0 (show ms.length ≤ t by rw [HDL.out]; omega))
          go_wp2_with fail
          go_roundw
          case rel => exact ⟨j + 1, E, d, by omega, by go_num, by rw [← HEND.out], by rw [← HEND.out]; exact ho2, hD2, hB2, hy2⟩
          case measure => simp [intOf]; omega
    · have i1 : ¬ ((j : Int) < min (u2 + 1) sy) := by rw [← HWR.out]; omega
      obtain rfl : j = WR := by omega
      go_wp2_with fail
      go_ret
      rw [HCR.out]
      exact ⟨D, c, rfl, ho, hy⟩
end Go.Proofs.Ythipbeggaeogcaa
