/-
  Contracts of the reference's l30Children, TnfChildren.
-/
import Derived.Test.YthipbeggaeogcaaTnfS
namespace Go.Proofs.Ythipbeggaeogcaa
open Go.RowKit

/-- Which of the moves comes at the t-th place of -1, 1. -/
def ixM (u3 : Int) (t : Nat) : Nat := if u3 = 0 then t - 1 else t
theorem childM_append (sy st : Int) (rs : List R3) (i : Nat) (l l' : List R3) : childM sy st rs i (l ++ l') = childM sy st rs i l ++ childM sy st rs i l' := by simp [childM]

set_option maxRecDepth 100000 in
set_option maxHeartbeats 16000000 in
theorem l30Children_any (g : Nat) (sy st : Int) (A : Option Addr) (n k : Nat) (rs : List R3) (i : Nat) (w : World) (hm : MachAt w g sy st A n k) (hrs : S3 w A n rs) (hn : n ≤ 1048576) (hs : SmallR rs) (h1 : 2 ≤ sy) (h2 : sy ≤ 6) (h3 : 1 ≤ st) (h4 : st ≤ 1000) (hi : i < n) :
    Calls Try.prog 131 #[.pointer (some ⟨g, 0, none⟩), .int .i64 (i : Int)] w fun e w' => ∃ D c ts, e = .returned (.slice D ts.length c) ∧ OMs w' w.heap.size D ts.length c ts ∧ machs ts = childM sy st rs i (childR sy st rs) ∧ Below w.heap.size w w' := by
  have hrl : rs.length = n := hrs.len
  have hus := usedTo_small hs (k := rs.length) (Nat.le_refl _)
  have HRL := Lib.hid hrl
  have HIL := Lib.hid hi
  have HMO : Hid (movesF rs = if (usedF rs).2.2 = 0 then [1] else [-1, 1]) := Lib.hid rfl
  have HWR : Hid ((wrF sy rs : Int) = min ((usedF rs).2.1 + 1) sy) := Lib.hid (by unfold wrF; have : 1 ≤ (usedF rs).2.1 := hus.2.2.1; omega)
  have HNX : Hid ((nxF st rs : Int) = min ((usedF rs).1 + 1) st) := Lib.hid (by unfold nxF; have : 1 ≤ (usedF rs).1 := hus.1; omega)
  have hu1 : 1 ≤ (usedF rs).1 ∧ (usedF rs).1 ≤ 100001 := ⟨hus.1, hus.2.1⟩
  have hu2 : 1 ≤ (usedF rs).2.1 ∧ (usedF rs).2.1 ≤ 100001 := ⟨hus.2.2.1, hus.2.2.2.1⟩
  have hu3 : 0 ≤ (usedF rs).2.2 ∧ (usedF rs).2.2 ≤ n := ⟨hus.2.2.2.2.1, by have h : (usedTo rs rs.length).2.2 ≤ (rs.length : Int) := hus.2.2.2.2.2; show (usedTo rs rs.length).2.2 ≤ (n : Int); omega⟩
  have hwr : wrF sy rs ≤ 6 := by unfold wrF; omega
  have hnx : nxF st rs ≤ 1000 := by unfold nxF; omega
  have HCR : Hid (childR sy st rs = row1 (wrF sy rs) (movesF rs) (nxF st rs)) := Lib.hid rfl
  have HML2 : Hid ((movesF rs).length ≤ 2) := Lib.hid (movesF_len rs)
  have HUS := Lib.hid (l30Used_any g sy st A n k rs w hm hrs hn hs)
  clear hus hrl hs hi
  generalize wrF sy rs = WR at *
  generalize nxF st rs = NX at *
  obtain ⟨u, hu⟩ : ∃ u, u = usedF rs := ⟨_, rfl⟩
  have HUS' : Hid (Calls Try.prog 174 #[.pointer (some ⟨g, 0, none⟩)] w (NodeP w u)) := Lib.hid (by rw [hu]; exact HUS.out)
  rw [← hu] at HWR HNX hu1 hu2 hu3 HMO
  clear hu HUS
  obtain ⟨u1, u2, u3⟩ := u
  dsimp only at HWR HNX hu1 hu2 hu3 HMO
  obtain ⟨u1a, u1b⟩ := hu1
  obtain ⟨u2a, u2b⟩ := hu2
  obtain ⟨u3a, u3b⟩ := hu3
  generalize movesF rs = ms at *
  go_enter Try.func131, Try.ntmps131
  go_wp2_with fail
  refine HUS'.out.mono ?_
  rintro e W1 ⟨rfl, z1⟩
  obtain ⟨W2, hW_⟩ : ∃ W_, W_ = W1.alloc (.cells #[] 82) := ⟨_, rfl⟩
  have b2 : Blk W2 W1.heap.size 82 #[] := by rw [hW_]; exact Blk.new W1 _ _
  have z2 : Below W1.heap.size W1 W2 := by rw [hW_]; exact (Below.refl _ _).alloc (Nat.le_refl _) _
  have HW2 := Lib.hid hW_
  clear hW_
  have y2 := z1.trans (z2.mono z1.size)
  have o2 : OMs W2 w.heap.size (some ⟨W1.heap.size, 0, none⟩) 0 0 [] := by
    refine OMs.nil ?_
    rw [HW2.out]
    exact (Own.lit0 W1 _ 3).mono z1.size
  go_upto_region 3 with fail
  rw [← HW2.out]
  clear HW2 b2
  go_wp2_with fail
  go_loopw [8, 9] (fun v i' wr => ∃ (j : Nat) (D : Option Addr) (cd : Nat) (ts : List Mc), j ≤ WR ∧ i' = .int .i64 (j : Int) ∧ v = .slice D ts.length cd ∧ OMs wr w.heap.size D ts.length cd ts ∧ Hid (machs ts = childM sy st rs i (row1 j ms NX)) ∧ Below w.heap.size w wr) (fun _ i' _ => WR - (intOf i').toNat)
  case atStart => exact ⟨0, _, 0, [], Nat.zero_le _, rfl, rfl, o2, rfl, y2⟩
  case round =>
    obtain ⟨j, D, cd, ts, hj, rfl, rfl, hO, hts, hy⟩ := hrel
    clear o2 y2 z2 z1
    obtain ⟨q0, q1, q2⟩ := id (hm.below hy)
    by_cases hlt : j < WR
    · have i1 : (j : Int) ≤ min u2 (sy - 1) := by have := HWR.out; omega
      go_wp2_with (go_at_call 176; refine (l00Min_any _ _ _).mono ?_; rintro e w' ⟨rfl, rfl⟩)
      clear q0 q1 q2
      go_loopw [8, 10] (fun v i' wr => ∃ (t : Nat) (mvI : Int) (D : Option Addr) (cd : Nat) (ts : List Mc), (t = 0 ∧ mvI = -1 ∨ t = 1 ∧ mvI = 1 ∨ t = 2 ∧ mvI = 3) ∧ i' = .int .i64 mvI ∧ v = .slice D ts.length cd ∧ OMs wr w.heap.size D ts.length cd ts ∧ Hid (machs ts = childM sy st rs i (upL ms NX j (ixM u3 t) 0 0)) ∧ Below w.heap.size w wr) (fun _ i' _ => (3 - intOf i').toNat)
      case atStart => exact ⟨0, -1, D, cd, ts, .inl ⟨rfl, rfl⟩, rfl, rfl, hO, Lib.hid (by rw [hts.out]; unfold ixM; simp [upL_start]), hy⟩
      case round =>
        clear hO hts hy
        obtain ⟨t, mvI, D, cd, ts, ht, rfl, rfl, hO, hts, hy⟩ := hrel
        obtain ⟨q0, q1, q2⟩ := id (hm.below hy)
        by_cases hskip : t = 0 ∧ u3 = 0
        · obtain ⟨rfl, rfl⟩ := hskip
          obtain rfl : mvI = -1 := by omega
          go_wp2_with fail
          go_roundw
          case rel => exact ⟨1, 1, D, cd, ts, .inr (.inl ⟨rfl, rfl⟩), by go_num, rfl, hO, Lib.hid (by rw [hts.out]; rfl), hy⟩
          case measure => simp [intOf]
        by_cases hend : t = 2
        · subst hend
          obtain rfl : mvI = 3 := by omega
          have HE : Hid (machs ts = childM sy st rs i (row1 (j + 1) ms NX)) := Lib.hid (by rw [hts.out, upL_end]; rw [HMO.out]; unfold ixM; split <;> simp)
          go_wp2_with fail
          go_roundw
          case rel => exact ⟨j + 1, D, cd, ts, by omega, by go_num, rfl, hO, HE, hy⟩
          case measure => simp [intOf]; omega
        have HMV : Hid (ms[ixM u3 t]? = some mvI) := Lib.hid (by
          rw [HMO.out]
          unfold ixM
          by_cases h0 : u3 = 0
          · obtain ⟨rfl, rfl⟩ : t = 1 ∧ mvI = 1 := by omega
            rw [if_pos h0, if_pos h0]; rfl
          · rw [if_neg h0, if_neg h0]
            rcases ht with ⟨rfl, rfl⟩ | ⟨rfl, rfl⟩ | ⟨rfl, rfl⟩
            · rfl
            · rfl
            · omega)
        have HIX : Hid (ixM u3 t + 1 = ixM u3 (t + 1)) := Lib.hid (by unfold ixM; split <;> omega)
        have hix : ixM u3 t ≤ 2 := by unfold ixM; split <;> omega
        have hT : Hid (t = 0 ∧ mvI = -1 ∧ ¬ u3 = 0 ∨ t = 1 ∧ mvI = 1) := Lib.hid (by omega)
        have hu30 : (t = 0 → ¬ u3 = 0) := fun h h' => hskip ⟨h, h'⟩
        have HU30 := Lib.hid hu30
        clear hskip hu30
        have h2t : t = 0 ∧ mvI = -1 ∨ t = 1 ∧ mvI = 1 := by omega
        clear ht hend
        rcases h2t with ⟨rfl, rfl⟩ | ⟨rfl, rfl⟩
        · have hu30 := HU30.out rfl
          go_wp2_with fail
          go_loopw [8, 11] (fun v i' wr => ∃ (q : Nat) (D : Option Addr) (cd : Nat) (ts : List Mc), q ≤ NX ∧ i' = .int .i64 (q : Int) ∧ v = .slice D ts.length cd ∧ OMs wr w.heap.size D ts.length cd ts ∧ Hid (machs ts = childM sy st rs i (upL ms NX j (ixM u3 0) q (-1))) ∧ Below w.heap.size w wr) (fun _ i' _ => NX - (intOf i').toNat)
          case atStart => exact ⟨0, D, cd, ts, Nat.zero_le _, rfl, rfl, hO, Lib.hid (by rw [hts.out, upL_zero ms NX j _ 0 (-1)]), hy⟩
          case round =>
            clear hO hts hy q0 q1 q2
            obtain ⟨q, D, cd, ts, hq, rfl, rfl, hO, hts, hy⟩ := hrel
            obtain ⟨q0, q1, q2⟩ := id (hm.below hy)
            by_cases hql : q < NX
            · have i3 : (q : Int) ≤ min u1 (st - 1) := by have := HNX.out; omega
              obtain ⟨r, hr⟩ : ∃ r : R3, r = ⟨(j : Int), -1, (q : Int)⟩ := ⟨_, rfl⟩
              have HN : Hid (childM sy st rs i (upL ms NX j (ixM u3 0) (q + 1) (-1)) = childM sy st rs i (upL ms NX j (ixM u3 0) q (-1)) ++ [⟨sy, st, rs.set i r⟩]) := Lib.hid (by rw [upL_step, childM_append, hr]; rfl)
              have HLN : Hid (ts.length ≤ 20000) := Lib.hid (by
                have h1 : ts.length = (machs ts).length := by simp [machs]
                rw [h1, hts.out, childM_len]; exact upL_len (by omega) HML2.out hnx (by omega))
              have HRA : Hid (r.a = (j : Int)) := Lib.hid (by rw [hr])
              have HRB : Hid (r.b = -1) := Lib.hid (by rw [hr])
              have HRC : Hid (r.c = (q : Int)) := Lib.hid (by rw [hr])
              clear hr
              go_wp2_with (go_at_call 176; refine (l00Min_any _ _ _).mono ?_; rintro e w' ⟨rfl, rfl⟩)
              refine (l05Own_any g sy st A n k rs _ (hm.below hy) (hrs.below hy) hn).mono ?_
              rintro e W1 ⟨A1, c1, rfl, o1, z1⟩
              have y1 := hy.trans (z1.mono hy.size)
              obtain ⟨W2, hW_⟩ : ∃ W_, W_ = W1.alloc (.cells #[.int .i64 sy, .int .i64 st, .slice A1 rs.length c1] 82) := ⟨_, rfl⟩
              have b3 : Blk W2 W1.heap.size 82 #[.int .i64 sy, .int .i64 st, .slice A1 rs.length c1] := by rw [hW_]; exact Blk.new W1 _ _
              have z2 : Below W1.heap.size W1 W2 := by rw [hW_]; exact (Below.refl _ _).alloc (Nat.le_refl _) _
              have HW2 := Lib.hid hW_
              clear hW_
              have z12 := z1.trans (z2.mono z1.size)
              have y2 := y1.trans (z2.mono y1.size)
              have o2 := o1.below z2
              have hO2 := hO.below z12
              have hi := HIL.out
              clear q0 q1 q2
              have hll : (cells3 rs).length = n * 3 := by rw [length_cells3, HRL.out]
              obtain ⟨b, off, hA, hlo, hbl, x0, f0⟩ := o2.at_ (k := i * 3) (by omega)
              obtain ⟨b', off', hA', _, _, x1, f1⟩ := o2.at_ (k := i * 3 + 1) (by omega)
              obtain ⟨b'', off'', hA'', _, _, x2, f2⟩ := o2.at_ (k := i * 3 + 2) (by omega)
              subst hA
              simp only [Option.some.injEq, Addr.mk.injEq, and_true] at hA' hA''
              obtain ⟨rfl, rfl⟩ := hA'
              obtain ⟨rfl, rfl⟩ := hA''
              have o3 := ((o2.set_ (k := i * 3) (by omega) (.int .i64 r.a)).set_ (k := i * 3 + 1) (by rw [List.length_set]; omega) (.int .i64 r.b)).set_ (k := i * 3 + 2) (by rw [List.length_set, List.length_set]; omega) (.int .i64 r.c)
              rw [cells3_set _ _ r (by rw [HRL.out]; exact hi), ← Nat.add_assoc, ← Nat.add_assoc] at o3
              rw [← Nat.add_assoc] at x1 f1 x2 f2
              have hbW : b < W1.heap.size := o1.blk_lt b rfl
              have n1 : ¬ W1.heap.size = b := by omega
              have b3' := ((b3.far (p := ⟨b, off + i * 3, none⟩) n1 (.int .i64 r.a)).far (p := ⟨b, off + i * 3 + 1, none⟩) n1 (.int .i64 r.b)).far (p := ⟨b, off + i * 3 + 2, none⟩) n1 (.int .i64 r.c)
              have hwr' := hy.size
              have y3 := ((y2.setCell (p := ⟨b, off + i * 3, none⟩) (by show w.heap.size ≤ b; omega) (.int .i64 r.a)).setCell (p := ⟨b, off + i * 3 + 1, none⟩) (by show w.heap.size ≤ b; omega) (.int .i64 r.b)).setCell (p := ⟨b, off + i * 3 + 2, none⟩) (by show w.heap.size ≤ b; omega) (.int .i64 r.c)
              have hO3 : OMs (((W2.setCell ⟨b, off + i * 3, none⟩ (.int .i64 r.a)).setCell ⟨b, off + i * 3 + 1, none⟩ (.int .i64 r.b)).setCell ⟨b, off + i * 3 + 2, none⟩ (.int .i64 r.c)) w.heap.size D ts.length cd ts := Recs.keptB hO2 (fun b' hb' => by
                have h1 := (Recs.blk_ge hO b' hb').2
                have h2 : b' ≠ b := by omega
                rw [Below.heap_setCell _ _ _ _ h2, Below.heap_setCell _ _ _ _ h2, Below.heap_setCell _ _ _ _ h2])
              have hW3s : wr.heap.size ≤ W2.heap.size := z12.size
              rw [HRA.out, HRB.out, HRC.out] at o3 b3' y3 hO3
              have q0 : W2.cell? ⟨W1.heap.size, 0, none⟩ = some (.int .i64 sy) := b3.cell 0
              have q1 : W2.cell? ⟨W1.heap.size, 1, none⟩ = some (.int .i64 st) := b3.cell 1
              have q2 : W2.cell? ⟨W1.heap.size, 2, none⟩ = some (.slice (some ⟨b, off, none⟩) rs.length c1) := b3.cell 2
              have i4 : (0 : Int) ≤ (i : Int) := by omega
              have i5 : (i : Int) < (rs.length : Int) := by rw [HRL.out]; omega
              go_upto_region 14 with fail
              rw [← HW2.out]
              go_upto_region 15 with fail
              generalize ((W2.setCell ⟨b, off + i * 3, none⟩ (.int .i64 (j : Int))).setCell ⟨b, off + i * 3 + 1, none⟩ (.int .i64 (-1))).setCell ⟨b, off + i * 3 + 2, none⟩ (.int .i64 (q : Int)) = W3 at *
              clear q0 q1 q2 x0 x1 x2 f0 f1 f2 HW2 b3 o1
              have hrl2 : Hid ((rs.set i r).length = rs.length) := Lib.hid List.length_set
              generalize rs.set i r = rs' at *
              rw [← hrl2.out] at b3' o3
              have q0 : W3.cell? ⟨W1.heap.size, 0, none⟩ = some (.int .i64 sy) := b3'.cell 0
              have q1 : W3.cell? ⟨W1.heap.size, 1, none⟩ = some (.int .i64 st) := b3'.cell 1
              have q2 : W3.cell? ⟨W1.heap.size, 2, none⟩ = some (.slice (some ⟨b, off, none⟩) rs'.length c1) := b3'.cell 2
              have hln := HLN.out
              rw [← hrl2.out]
              go_wp2_with (at_builtin; refine wpList_append_Own rfl (.tmp 62) (.tmp 64) rfl elMach (lo := w.heap.size) rfl (hO3.alloc _).spine rfl (Mc.new W3 ⟨sy, st, some ⟨b, off, none⟩, c1, rs'⟩) (by have := Mc.one [⟨sy, st, some ⟨b, off, none⟩, c1, rs'⟩]; simpa using this) (by omega) (by simp only [maxLen]; omega) (by have := y3.size; simp; omega) ?_; intro A7 c7 W7 h7 hg7 hw7)
              have hO7 : OMs W7 w.heap.size A7 (ts ++ ([⟨sy, st, some ⟨b, off, none⟩, c1, rs'⟩] : List Mc)).length c7 (ts ++ ([⟨sy, st, some ⟨b, off, none⟩, c1, rs'⟩] : List Mc)) := by
                rw [List.length_append]
                exact OMs.snoc (wa := wr) hO (Nat.le_refl _) (hO3.alloc _) h7 hg7 (o3.alloc _) hwr'
              have hy7 : Below w.heap.size w W7 := Own.below_of (hO3.alloc _).spine (y3.alloc y3.size _) hg7 (by have := y3.size; simp; omega)
              have HTS : Hid (machs (ts ++ ([⟨sy, st, some ⟨b, off, none⟩, c1, rs'⟩] : List Mc)) = childM sy st rs i (upL ms NX j (ixM u3 0) (q + 1) (-1))) := Lib.hid (by rw [HN.out, ← hts.out]; simp [machs, Mc.mach])
              have HLL : Hid (ts.length + 1 = (ts ++ ([⟨sy, st, some ⟨b, off, none⟩, c1, rs'⟩] : List Mc)).length) := Lib.hid (by rw [List.length_append]; rfl)
              go_wp2_with fail
              go_roundw
              case rel => exact ⟨q + 1, A7, c7, ts ++ ([⟨sy, st, some ⟨b, off, none⟩, c1, rs'⟩] : List Mc), by omega, by go_num, by rw [← HLL.out], hO7, HTS, hy7⟩
              case measure => simp [intOf]; omega
            · have i3 : ¬ ((q : Int) ≤ min u1 (st - 1)) := by have := HNX.out; omega
              obtain rfl : q = NX := by omega
              have HROW : Hid (machs ts = childM sy st rs i (upL ms q j (ixM u3 1) 0 0)) := Lib.hid (by rw [hts.out, upL_row 0 HMV.out, HIX.out])
              go_wp2_with (go_at_call 176; refine (l00Min_any _ _ _).mono ?_; rintro e w' ⟨rfl, rfl⟩)
              go_roundw
              case rel => exact ⟨1, 1, D, cd, ts, by omega, by go_num, rfl, hO, HROW, hy⟩
              case measure => simp [intOf]
        · go_wp2_with fail
          go_loopw [8, 11] (fun v i' wr => ∃ (q : Nat) (D : Option Addr) (cd : Nat) (ts : List Mc), q ≤ NX ∧ i' = .int .i64 (q : Int) ∧ v = .slice D ts.length cd ∧ OMs wr w.heap.size D ts.length cd ts ∧ Hid (machs ts = childM sy st rs i (upL ms NX j (ixM u3 1) q (1))) ∧ Below w.heap.size w wr) (fun _ i' _ => NX - (intOf i').toNat)
          case atStart => exact ⟨0, D, cd, ts, Nat.zero_le _, rfl, rfl, hO, Lib.hid (by rw [hts.out, upL_zero ms NX j _ 0 (1)]), hy⟩
          case round =>
            clear hO hts hy q0 q1 q2
            obtain ⟨q, D, cd, ts, hq, rfl, rfl, hO, hts, hy⟩ := hrel
            obtain ⟨q0, q1, q2⟩ := id (hm.below hy)
            by_cases hql : q < NX
            · have i3 : (q : Int) ≤ min u1 (st - 1) := by have := HNX.out; omega
              obtain ⟨r, hr⟩ : ∃ r : R3, r = ⟨(j : Int), 1, (q : Int)⟩ := ⟨_, rfl⟩
              have HN : Hid (childM sy st rs i (upL ms NX j (ixM u3 1) (q + 1) (1)) = childM sy st rs i (upL ms NX j (ixM u3 1) q (1)) ++ [⟨sy, st, rs.set i r⟩]) := Lib.hid (by rw [upL_step, childM_append, hr]; rfl)
              have HLN : Hid (ts.length ≤ 20000) := Lib.hid (by
                have h1 : ts.length = (machs ts).length := by simp [machs]
                rw [h1, hts.out, childM_len]; exact upL_len (by omega) HML2.out hnx (by omega))
              have HRA : Hid (r.a = (j : Int)) := Lib.hid (by rw [hr])
              have HRB : Hid (r.b = 1) := Lib.hid (by rw [hr])
              have HRC : Hid (r.c = (q : Int)) := Lib.hid (by rw [hr])
              clear hr
              go_wp2_with (go_at_call 176; refine (l00Min_any _ _ _).mono ?_; rintro e w' ⟨rfl, rfl⟩)
              refine (l05Own_any g sy st A n k rs _ (hm.below hy) (hrs.below hy) hn).mono ?_
              rintro e W1 ⟨A1, c1, rfl, o1, z1⟩
              have y1 := hy.trans (z1.mono hy.size)
              obtain ⟨W2, hW_⟩ : ∃ W_, W_ = W1.alloc (.cells #[.int .i64 sy, .int .i64 st, .slice A1 rs.length c1] 82) := ⟨_, rfl⟩
              have b3 : Blk W2 W1.heap.size 82 #[.int .i64 sy, .int .i64 st, .slice A1 rs.length c1] := by rw [hW_]; exact Blk.new W1 _ _
              have z2 : Below W1.heap.size W1 W2 := by rw [hW_]; exact (Below.refl _ _).alloc (Nat.le_refl _) _
              have HW2 := Lib.hid hW_
              clear hW_
              have z12 := z1.trans (z2.mono z1.size)
              have y2 := y1.trans (z2.mono y1.size)
              have o2 := o1.below z2
              have hO2 := hO.below z12
              have hi := HIL.out
              clear q0 q1 q2
              have hll : (cells3 rs).length = n * 3 := by rw [length_cells3, HRL.out]
              obtain ⟨b, off, hA, hlo, hbl, x0, f0⟩ := o2.at_ (k := i * 3) (by omega)
              obtain ⟨b', off', hA', _, _, x1, f1⟩ := o2.at_ (k := i * 3 + 1) (by omega)
              obtain ⟨b'', off'', hA'', _, _, x2, f2⟩ := o2.at_ (k := i * 3 + 2) (by omega)
              subst hA
              simp only [Option.some.injEq, Addr.mk.injEq, and_true] at hA' hA''
              obtain ⟨rfl, rfl⟩ := hA'
              obtain ⟨rfl, rfl⟩ := hA''
              have o3 := ((o2.set_ (k := i * 3) (by omega) (.int .i64 r.a)).set_ (k := i * 3 + 1) (by rw [List.length_set]; omega) (.int .i64 r.b)).set_ (k := i * 3 + 2) (by rw [List.length_set, List.length_set]; omega) (.int .i64 r.c)
              rw [cells3_set _ _ r (by rw [HRL.out]; exact hi), ← Nat.add_assoc, ← Nat.add_assoc] at o3
              rw [← Nat.add_assoc] at x1 f1 x2 f2
              have hbW : b < W1.heap.size := o1.blk_lt b rfl
              have n1 : ¬ W1.heap.size = b := by omega
              have b3' := ((b3.far (p := ⟨b, off + i * 3, none⟩) n1 (.int .i64 r.a)).far (p := ⟨b, off + i * 3 + 1, none⟩) n1 (.int .i64 r.b)).far (p := ⟨b, off + i * 3 + 2, none⟩) n1 (.int .i64 r.c)
              have hwr' := hy.size
              have y3 := ((y2.setCell (p := ⟨b, off + i * 3, none⟩) (by show w.heap.size ≤ b; omega) (.int .i64 r.a)).setCell (p := ⟨b, off + i * 3 + 1, none⟩) (by show w.heap.size ≤ b; omega) (.int .i64 r.b)).setCell (p := ⟨b, off + i * 3 + 2, none⟩) (by show w.heap.size ≤ b; omega) (.int .i64 r.c)
              have hO3 : OMs (((W2.setCell ⟨b, off + i * 3, none⟩ (.int .i64 r.a)).setCell ⟨b, off + i * 3 + 1, none⟩ (.int .i64 r.b)).setCell ⟨b, off + i * 3 + 2, none⟩ (.int .i64 r.c)) w.heap.size D ts.length cd ts := Recs.keptB hO2 (fun b' hb' => by
                have h1 := (Recs.blk_ge hO b' hb').2
                have h2 : b' ≠ b := by omega
                rw [Below.heap_setCell _ _ _ _ h2, Below.heap_setCell _ _ _ _ h2, Below.heap_setCell _ _ _ _ h2])
              have hW3s : wr.heap.size ≤ W2.heap.size := z12.size
              rw [HRA.out, HRB.out, HRC.out] at o3 b3' y3 hO3
              have q0 : W2.cell? ⟨W1.heap.size, 0, none⟩ = some (.int .i64 sy) := b3.cell 0
              have q1 : W2.cell? ⟨W1.heap.size, 1, none⟩ = some (.int .i64 st) := b3.cell 1
              have q2 : W2.cell? ⟨W1.heap.size, 2, none⟩ = some (.slice (some ⟨b, off, none⟩) rs.length c1) := b3.cell 2
              have i4 : (0 : Int) ≤ (i : Int) := by omega
              have i5 : (i : Int) < (rs.length : Int) := by rw [HRL.out]; omega
              go_upto_region 14 with fail
              rw [← HW2.out]
              go_upto_region 15 with fail
              generalize ((W2.setCell ⟨b, off + i * 3, none⟩ (.int .i64 (j : Int))).setCell ⟨b, off + i * 3 + 1, none⟩ (.int .i64 (1))).setCell ⟨b, off + i * 3 + 2, none⟩ (.int .i64 (q : Int)) = W3 at *
              clear q0 q1 q2 x0 x1 x2 f0 f1 f2 HW2 b3 o1
              have hrl2 : Hid ((rs.set i r).length = rs.length) := Lib.hid List.length_set
              generalize rs.set i r = rs' at *
              rw [← hrl2.out] at b3' o3
              have q0 : W3.cell? ⟨W1.heap.size, 0, none⟩ = some (.int .i64 sy) := b3'.cell 0
              have q1 : W3.cell? ⟨W1.heap.size, 1, none⟩ = some (.int .i64 st) := b3'.cell 1
              have q2 : W3.cell? ⟨W1.heap.size, 2, none⟩ = some (.slice (some ⟨b, off, none⟩) rs'.length c1) := b3'.cell 2
              have hln := HLN.out
              rw [← hrl2.out]
              go_wp2_with (at_builtin; refine wpList_append_Own rfl (.tmp 62) (.tmp 64) rfl elMach (lo := w.heap.size) rfl (hO3.alloc _).spine rfl (Mc.new W3 ⟨sy, st, some ⟨b, off, none⟩, c1, rs'⟩) (by have := Mc.one [⟨sy, st, some ⟨b, off, none⟩, c1, rs'⟩]; simpa using this) (by omega) (by simp only [maxLen]; omega) (by have := y3.size; simp; omega) ?_; intro A7 c7 W7 h7 hg7 hw7)
              have hO7 : OMs W7 w.heap.size A7 (ts ++ ([⟨sy, st, some ⟨b, off, none⟩, c1, rs'⟩] : List Mc)).length c7 (ts ++ ([⟨sy, st, some ⟨b, off, none⟩, c1, rs'⟩] : List Mc)) := by
                rw [List.length_append]
                exact OMs.snoc (wa := wr) hO (Nat.le_refl _) (hO3.alloc _) h7 hg7 (o3.alloc _) hwr'
              have hy7 : Below w.heap.size w W7 := Own.below_of (hO3.alloc _).spine (y3.alloc y3.size _) hg7 (by have := y3.size; simp; omega)
              have HTS : Hid (machs (ts ++ ([⟨sy, st, some ⟨b, off, none⟩, c1, rs'⟩] : List Mc)) = childM sy st rs i (upL ms NX j (ixM u3 1) (q + 1) (1))) := Lib.hid (by rw [HN.out, ← hts.out]; simp [machs, Mc.mach])
              have HLL : Hid (ts.length + 1 = (ts ++ ([⟨sy, st, some ⟨b, off, none⟩, c1, rs'⟩] : List Mc)).length) := Lib.hid (by rw [List.length_append]; rfl)
              go_wp2_with fail
              go_roundw
              case rel => exact ⟨q + 1, A7, c7, ts ++ ([⟨sy, st, some ⟨b, off, none⟩, c1, rs'⟩] : List Mc), by omega, by go_num, by rw [← HLL.out], hO7, HTS, hy7⟩
              case measure => simp [intOf]; omega
            · have i3 : ¬ ((q : Int) ≤ min u1 (st - 1)) := by have := HNX.out; omega
              obtain rfl : q = NX := by omega
              have HROW : Hid (machs ts = childM sy st rs i (upL ms q j (ixM u3 2) 0 0)) := Lib.hid (by rw [hts.out, upL_row 0 HMV.out, HIX.out])
              go_wp2_with (go_at_call 176; refine (l00Min_any _ _ _).mono ?_; rintro e w' ⟨rfl, rfl⟩)
              go_roundw
              case rel => exact ⟨2, 3, D, cd, ts, by omega, by go_num, rfl, hO, HROW, hy⟩
              case measure => simp [intOf]
    · have i1 : ¬ ((j : Int) ≤ min u2 (sy - 1)) := by have := HWR.out; omega
      obtain rfl : j = WR := by omega
      go_wp2_with (go_at_call 176; refine (l00Min_any _ _ _).mono ?_; rintro e w' ⟨rfl, rfl⟩)
      go_ret
      rw [HCR.out]
      exact ⟨D, cd, ts, rfl, hO, hts.out, hy⟩

set_option maxRecDepth 100000 in
set_option maxHeartbeats 4000000 in
theorem tnfS_any (sy st : Int) (A : Option Addr) (n k : Nat) (rs : List R3) (b : Int) (w : World) (hr : S3 w A n rs) (hn : n ≤ 1048576) :
    Calls Try.prog 56 #[.agg #[.int .i64 sy, .int .i64 st, .slice A n k], .int .i64 b] w (NewMs w (tnfF sy st rs b)) := by
  obtain ⟨W, hW_⟩ : ∃ W, W = w.alloc (.cells #[.int .i64 sy, .int .i64 st, .slice A n k] 82) := ⟨_, rfl⟩
  have b0 : Blk W w.heap.size 82 #[.int .i64 sy, .int .i64 st, .slice A n k] := by rw [hW_]; exact Blk.new w _ _
  have y0 : Below w.heap.size w W := by rw [hW_]; exact (Below.refl _ _).alloc (Nat.le_refl _) _
  have HW := Lib.hid hW_
  clear hW_
  have hM := b0.machAt
  have HRL := Lib.hid hr.len
  go_enter Try.func56, Try.ntmps56
  go_wp2_with fail
  rw [← HW.out]
  refine (l05Is_any _ _ _ _ _ _ rs _ hM (hr.below y0) hn).mono ?_
  rintro e W1 ⟨rfl, z1⟩
  have y1 : Below w.heap.size w W1 := y0.trans (z1.mono y0.size)
  have hM1 := hM.below z1
  cases a0 : machB sy st rs
  · have HF : Hid (tnfF sy st rs b = ([], 1)) := Lib.hid (by unfold tnfF codeF blankC; dsimp only; rw [blank_good, a0]; rfl)
    clear a0
    go_wp2_with fail
    exact bodyPost_ret (v := .tuple #[.slice none 0 0, .int .i64 1]) (by simp [results, Try.results56, go_sem]) rfl (newMs_nil HF.out y1)
  have HSM := Lib.hid (small_of a0)
  obtain ⟨k1, k2, k3, k4, _, _⟩ := machB_parts a0
  have hg : goodC sy st rs blankC := by show validConfB sy st rs 0 [] [] = true; rw [blank_good]; exact a0
  have HB : Hid (codeF sy st rs blankC b = if inB b 1 20000 then 0 else 2) := Lib.hid (by unfold codeF; rw [show validConfB sy st rs blankC.q blankC.xs blankC.ys = true from hg]; rfl)
  clear a0
  cases a1 : inB b 1 20000
  · have HF : Hid (tnfF sy st rs b = ([], 2)) := Lib.hid (by rw [tnf_code (by rw [HB.out, a1]; decide), HB.out, a1]; rfl)
    have A1 := Lib.hid a1
    clear a1
    go_wp2_with (go_at_call 73; refine (l05Budget_is A1.out _).mono ?_; rintro e w' ⟨rfl, rfl⟩)
    exact bodyPost_ret (v := .tuple #[.slice none 0 0, .int .i64 2]) (by simp [results, Try.results56, go_sem]) rfl (newMs_nil HF.out y1)
  have A1 := Lib.hid a1
  have hb := (inB_iff _ _ _).1 a1
  obtain ⟨N, rfl⟩ : ∃ N : Nat, b = (N : Int) := ⟨b.toNat, by omega⟩
  have HC : Hid (codeF sy st rs blankC (N : Int) = 0) := Lib.hid (by rw [HB.out, a1]; rfl)
  clear a1
  go_wp2_with (go_at_call 73; refine (l05Budget_is A1.out _).mono ?_; rintro e w' ⟨rfl, rfl⟩)
  refine (l30Status_any _ sy st A n k rs N W1 hM1 (hr.below y1) hn hg HSM.out (by omega)).mono ?_
  rintro e W2 ⟨rfl, z2⟩
  have y2 := y1.trans (z2.mono y1.size)
  have hM2 := hM1.below z2
  by_cases hst : (nodeF sy rs N).1 = 0
  rotate_left
  · have HF := Lib.hid (tnf_shut HC.out hst)
    generalize nodeF sy rs N = nf at *
    go_wp2_with fail
    exact bodyPost_ret (v := .tuple #[.slice none 0 0, .int .i64 6]) (by simp [results, Try.results56, go_sem]) rfl (newMs_nil HF.out y2)
  obtain ⟨i, hi, hil⟩ := nodeF_at hg hst
  have HF := Lib.hid (tnf_open HC.out hst hi)
  have HIL : Hid (i < n) := Lib.hid (by rw [← HRL.out]; exact hil)
  generalize nodeF sy rs N = nf at *
  obtain ⟨nf1, nf2, nf3⟩ := nf
  dsimp only at hst hi ⊢
  subst hst
  subst hi
  clear hil hg
  go_wp2_with fail
  refine (l30Children_any _ sy st A n k rs i W2 hM2 (hr.below y2) hn HSM.out k1 k2 k3 k4 HIL.out).mono ?_
  rintro e W3 ⟨D, c, ts, rfl, hO, hts, z3⟩
  have y3 := y2.trans (z3.mono y2.size)
  have HTS := Lib.hid hts
  have hml : (childM sy st rs i (childR sy st rs)).length = ts.length := by rw [← hts]; simp [machs]
  have HML := Lib.hid hml
  clear hts hml
  go_wp2_with fail
  exact bodyPost_ret (v := .tuple #[.slice D ts.length c, .int .i64 0]) (by simp [results, Try.results56, go_sem]) rfl (by have h := HML.out; rw [← h] at hO ⊢; exact newMs_of HF.out HTS.out (hO.mono y2.size) y3)
end Go.Proofs.Ythipbeggaeogcaa
