/-
  Contracts of the reference's l20Many, WorstTimes.
-/
import Derived.Test.YthipbeggaeogcaaWorstI
namespace Go.Proofs.Ythipbeggaeogcaa
open Go.RowKit

def ManyP (w : World) (p : Nat) (e : Ending) (w' : World) : Prop := e = .returned (.tuple #[.int .i64 (if p ≤ 256 then (p : Int) else 0), .bool (decide (p ≤ 256))]) ∧ w = w'
theorem pwr_next (L j : Nat) : pwr L (j + 1) = pwr L j * L := Nat.pow_succ ..
theorem pwr_mono {L i j : Nat} (h : 1 ≤ L) (hij : i ≤ j) : pwr L i ≤ pwr L j := Nat.pow_le_pow_right h hij

set_option maxHeartbeats 2000000 in
theorem l20Many_any (L n : Nat) (w : World) (h1 : 1 ≤ L) (h5 : L ≤ 5) (hn : n ≤ 8) :
    Calls Try.prog 118 #[.int .i64 (L : Int), .int .i64 (n : Int)] w (ManyP w (pwr L n)) := by
  have HS : Hid (∀ j, pwr L (j + 1) = pwr L j * L) := Lib.hid (fun j => pwr_next L j)
  have HMO : Hid (∀ j, j ≤ n → pwr L j ≤ pwr L n) := Lib.hid (fun j hj => pwr_mono h1 hj)
  go_enter Try.func118, Try.ntmps118
  go_wp2_with fail
  go_loop [1, 6] (fun q s => ∃ j : Nat, j ≤ n ∧ q = .int .i64 ((n : Int) - (j : Int)) ∧ s = .int .i64 (pwr L j : Int) ∧ pwr L j ≤ 256) (fun q _ => (intOf q).toNat)
  case atStart => exact ⟨0, Nat.zero_le _, by simp, by simp [pwr], by simp [pwr]⟩
  case round =>
    obtain ⟨j, hj, rfl, rfl, hp⟩ := hrel
    by_cases hlt : j < n
    · have i1 : decide ((0 : Int) < (n : Int) - (j : Int)) = true := by simp; omega
      have hs := HS.out j
      have hm : pwr L j * L ≤ 256 * 5 := Nat.mul_le_mul hp h5
      have HN : Hid ((pwr L (j + 1) : Int) = (pwr L j : Int) * (L : Int)) := Lib.hid (by rw [hs]; simp)
      have hmul : (pwr L j : Int) * (L : Int) ≤ 1280 := by rw [← HN.out]; omega
      have hmul0 : 0 ≤ (pwr L j : Int) * (L : Int) := by rw [← HN.out]; omega
      by_cases hb : pwr L (j + 1) ≤ 256
      · have i2 : ¬ ((256 : Int) < (pwr L j : Int) * (L : Int)) := by rw [← HN.out]; omega
        clear hs hm
        go_wp2_with fail
        go_round
        case rel => exact ⟨j + 1, by omega, by go_num, by rw [HN.out], hb⟩
        case measure => simp [intOf]; omega
      · have i2 : (256 : Int) < (pwr L j : Int) * (L : Int) := by rw [← HN.out]; omega
        have HB : Hid (¬ pwr L n ≤ 256) := Lib.hid (fun h => hb (Nat.le_trans (HMO.out (j + 1) hlt) h))
        clear hs hm
        go_wp2_with fail
        exact bodyPost_ret (v := .tuple #[.int .i64 0, .bool false]) (by simp [results, Try.results118, go_sem]) rfl ⟨by rw [if_neg HB.out]; simp [HB.out], rfl⟩
    · obtain rfl : j = n := by omega
      have i1 : decide ((0 : Int) < (j : Int) - (j : Int)) = false := by simp
      have HP := Lib.hid hp
      go_wp2_with fail
      exact bodyPost_ret (v := .tuple #[.int .i64 (pwr L j : Int), .bool true]) (by simp [results, Try.results118, go_sem]) rfl ⟨by rw [if_pos HP.out]; simp [HP.out], rfl⟩

theorem wordsD_at {L n k : Nat} (h : k < pwr L n) : (wordsD L n)[k]? = some (digs L n k) := by
  have h' : k < L ^ n := h
  unfold wordsD
  rw [List.getElem?_map, List.getElem?_range h']
  rfl
theorem wordsD_len (L n : Nat) : (wordsD L n).length = pwr L n := by simp [wordsD, pwr]
theorem timesV_next {f : List Int → Int × Int} {ws : List (List Int)} {k : Nat} {x : List Int} (h : ws[k]? = some x) : timesV f (ws.take (k + 1)) = timesV f (ws.take k) ++ [(f x).1] := by
  obtain ⟨hl, rfl⟩ := List.getElem?_eq_some_iff.1 h
  unfold timesV
  rw [List.take_succ_eq_append_getElem hl, List.map_append]
  rfl
theorem okL_next {f : List Int → Int × Int} {ws : List (List Int)} {k : Nat} {x : List Int} (h : ws[k]? = some x) (h1 : okL f (ws.take k) = true) (h2 : (f x).2 = 0) : okL f (ws.take (k + 1)) = true := by
  obtain ⟨hl, rfl⟩ := List.getElem?_eq_some_iff.1 h
  unfold okL at h1 ⊢
  rw [List.take_succ_eq_append_getElem hl, List.all_append, h1]
  simp [h2]
theorem okL_bad {f : List Int → Int × Int} {ws : List (List Int)} {k : Nat} {x : List Int} (h : ws[k]? = some x) (h2 : ¬ (f x).2 = 0) : okL f ws = false := by
  unfold okL
  rw [List.all_eq_false]
  exact ⟨x, List.mem_of_getElem? h, by simp [h2]⟩

set_option maxRecDepth 100000 in
set_option maxHeartbeats 16000000 in
theorem worstS_any (sy st : Int) (A : Option Addr) (n k : Nat) (rs : List R3) (l m b : Int) (w : World) (hr : S3 w A n rs) (hn : n ≤ 1048576) :
    Calls Try.prog 51 #[.agg #[.int .i64 sy, .int .i64 st, .slice A n k], .int .i64 l, .int .i64 m, .int .i64 b] w (NewI2 w (worstF sy st rs l m b)) := by
  obtain ⟨W, hW_⟩ : ∃ W, W = w.alloc (.cells #[.int .i64 sy, .int .i64 st, .slice A n k] 82) := ⟨_, rfl⟩
  have b0 : Blk W w.heap.size 82 #[.int .i64 sy, .int .i64 st, .slice A n k] := by rw [hW_]; exact Blk.new w _ _
  have y0 : Below w.heap.size w W := by rw [hW_]; exact (Below.refl _ _).alloc (Nat.le_refl _) _
  have HW := Lib.hid hW_
  clear hW_
  have hM := b0.machAt
  go_enter Try.func51, Try.ntmps51
  go_wp2_with fail
  rw [← HW.out]
  refine (l05Is_any _ _ _ _ _ _ rs _ hM (hr.below y0) hn).mono ?_
  rintro e W1 ⟨rfl, z1⟩
  have y1 := y0.trans (z1.mono y0.size)
  have c0 := b0.below' z1
  clear hM
  have q0 : W1.cell? ⟨w.heap.size, 0, none⟩ = some (.int .i64 sy) := c0.cell 0
  have q1 : W1.cell? ⟨w.heap.size, 1, none⟩ = some (.int .i64 st) := c0.cell 1
  have q2 : W1.cell? ⟨w.heap.size, 2, none⟩ = some (.slice A n k) := c0.cell 2
  cases a0 : machB sy st rs
  · have HF : Hid (worstF sy st rs l m b = ([], 1)) := Lib.hid (by unfold worstF; rw [a0]; rfl)
    clear a0
    go_wp2_with fail
    exact bodyPost_ret (v := .tuple #[.slice none 0 0, .int .i64 1]) (by simp [results, Try.results51, go_sem]) rfl (newI2_nil HF.out y1)
  have A0 := Lib.hid a0
  obtain ⟨k1, k2, k3, k4, _, _⟩ := machB_parts a0
  clear a0
  have hwr : IntKind.i64.wrap (sy - 1) = sy - 1 := IntWalk.i64_in _ (by omega)
  cases a1 : inB b 1 20000
  · have HF : Hid (worstF sy st rs l m b = ([], 2)) := Lib.hid (by unfold worstF; rw [A0.out, a1]; rfl)
    have A1 := Lib.hid a1
    clear a1
    go_wp2_with (go_at_call 73; refine (l05Budget_is A1.out _).mono ?_; rintro e w' ⟨rfl, rfl⟩)
    exact bodyPost_ret (v := .tuple #[.slice none 0 0, .int .i64 2]) (by simp [results, Try.results51, go_sem]) rfl (newI2_nil HF.out y1)
  have A1 := Lib.hid a1
  have hb := (inB_iff _ _ _).1 a1
  clear a1
  cases a2 : inB l 1 (sy - 1)
  · have HF : Hid (worstF sy st rs l m b = ([], 2)) := Lib.hid (by unfold worstF; rw [A0.out, A1.out, a2]; rfl)
    have A2 := Lib.hid a2
    clear a2
    go_wp2_with (first | (go_at_call 73; refine (l05Budget_is A1.out _).mono ?_; rintro e w' ⟨rfl, rfl⟩) | (go_at_call_of 82 (Value.int .i64 l); refine (l00In_is A2.out _).mono ?_; rintro e w' ⟨rfl, rfl⟩))
    exact bodyPost_ret (v := .tuple #[.slice none 0 0, .int .i64 2]) (by simp [results, Try.results51, go_sem]) rfl (newI2_nil HF.out y1)
  have A2 := Lib.hid a2
  have hl := (inB_iff _ _ _).1 a2
  clear a2
  cases a3 : inB m 0 8
  · have HF : Hid (worstF sy st rs l m b = ([], 2)) := Lib.hid (by unfold worstF; rw [A0.out, A1.out, A2.out, a3]; rfl)
    have A3 := Lib.hid a3
    clear a3
    go_wp2_with (first | (go_at_call 73; refine (l05Budget_is A1.out _).mono ?_; rintro e w' ⟨rfl, rfl⟩) | (go_at_call_of 82 (Value.int .i64 l); refine (l00In_is A2.out _).mono ?_; rintro e w' ⟨rfl, rfl⟩) | (go_at_call_of 82 (Value.int .i64 m); refine (l00In_is A3.out _).mono ?_; rintro e w' ⟨rfl, rfl⟩))
    exact bodyPost_ret (v := .tuple #[.slice none 0 0, .int .i64 2]) (by simp [results, Try.results51, go_sem]) rfl (newI2_nil HF.out y1)
  have A3 := Lib.hid a3
  have hm8 := (inB_iff _ _ _).1 a3
  clear a3
  obtain ⟨L, rfl⟩ : ∃ L : Nat, l = (L : Int) := ⟨l.toNat, by omega⟩
  obtain ⟨M, rfl⟩ : ∃ M : Nat, m = (M : Int) := ⟨m.toNat, by omega⟩
  obtain ⟨N, rfl⟩ : ∃ N : Nat, b = (N : Int) := ⟨b.toNat, by omega⟩
  have HPW := Lib.hid (l20Many_any L M W1 (by omega) (by omega) (by omega))
  by_cases h256 : pwr L M ≤ 256
  rotate_left
  · have HF : Hid (worstF sy st rs (L : Int) (M : Int) (N : Int) = ([], 2)) := Lib.hid (by
      unfold worstF
      rw [A0.out, A1.out, A2.out, A3.out, Int.toNat_natCast, Int.toNat_natCast]
      have h : ¬ L ^ M ≤ 256 := h256
      simp [h])
    have HMP : Hid (∀ e w', ManyP W1 (pwr L M) e w' → e = .returned (.tuple #[.int .i64 0, .bool false]) ∧ W1 = w') := Lib.hid (fun e w' ⟨h1, h2⟩ => ⟨by rw [h1, if_neg h256]; simp [h256], h2⟩)
    go_wp2_with (first | (go_at_call 73; refine (l05Budget_is A1.out _).mono ?_; rintro e w' ⟨rfl, rfl⟩) | (go_at_call_of 82 (Value.int .i64 (L : Int)); refine (l00In_is A2.out _).mono ?_; rintro e w' ⟨rfl, rfl⟩) | (go_at_call_of 82 (Value.int .i64 (M : Int)); refine (l00In_is A3.out _).mono ?_; rintro e w' ⟨rfl, rfl⟩) | (go_at_call 118; refine HPW.out.mono ?_; intro e w' hmp; obtain ⟨rfl, rfl⟩ := HMP.out e w' hmp))
    exact bodyPost_ret (v := .tuple #[.slice none 0 0, .int .i64 2]) (by simp [results, Try.results51, go_sem]) rfl (newI2_nil HF.out y1)
  have HF : Hid (worstF sy st rs (L : Int) (M : Int) (N : Int) = if okTo2 (timeF sy st rs N) L (M + 1) then (worstTo (timeF sy st rs N) L (M + 1), 0) else ([], 5)) := Lib.hid (by
    unfold worstF
    rw [A0.out, A1.out, A2.out, A3.out, Int.toNat_natCast, Int.toNat_natCast, Int.toNat_natCast]
    have h : L ^ M ≤ 256 := h256
    simp [h])
  have HMP : Hid (∀ e w', ManyP W1 (pwr L M) e w' → e = .returned (.tuple #[.int .i64 (pwr L M : Int), .bool true]) ∧ W1 = w') := Lib.hid (fun e w' ⟨h1, h2⟩ => ⟨by rw [h1, if_pos h256]; simp [h256], h2⟩)
  obtain ⟨W2, hW_⟩ : ∃ W_, W_ = W1.alloc (.cells #[] 2) := ⟨_, rfl⟩
  have b2 : Blk W2 W1.heap.size 2 #[] := by rw [hW_]; exact Blk.new W1 _ _
  have z2 : Below W1.heap.size W1 W2 := by rw [hW_]; exact (Below.refl _ _).alloc (Nat.le_refl _) _
  have HW2 := Lib.hid hW_
  clear hW_
  have y2 := y1.trans (z2.mono y1.size)
  have c2 := c0.below' z2
  have o2 : Own W2 w.heap.size 2 1 (some ⟨W1.heap.size, 0, none⟩) 0 0 (ints (worstTo (timeF sy st rs N) L 0)) := Blk.own (n := 0) (s := 1) b2 rfl (by simp [maxLen]) y1.size
  go_upto_region 9 with (first | (go_at_call 73; refine (l05Budget_is A1.out _).mono ?_; rintro e w' ⟨rfl, rfl⟩) | (go_at_call_of 82 (Value.int .i64 (L : Int)); refine (l00In_is A2.out _).mono ?_; rintro e w' ⟨rfl, rfl⟩) | (go_at_call_of 82 (Value.int .i64 (M : Int)); refine (l00In_is A3.out _).mono ?_; rintro e w' ⟨rfl, rfl⟩) | (go_at_call 118; refine HPW.out.mono ?_; intro e w' hmp; obtain ⟨rfl, rfl⟩ := HMP.out e w' hmp))
  rw [← HW2.out]
  clear HW2 b2 q0 q1 q2 HPW HMP
  have HPJ : Hid (∀ j, j ≤ M → pwr L j ≤ 256) := Lib.hid (fun j hj => Nat.le_trans (pwr_mono (by omega) hj) h256)
  have HC5 : Hid (∀ j, j ≤ M → ∀ x ∈ wordsD L j, (timeF sy st rs N x).2 = 0 ∨ (timeF sy st rs N x).2 = 5) := Lib.hid (fun j hj x hx => by
    obtain ⟨e1, e2⟩ := (mem_wordsD (by omega)).1 hx
    by_cases h0 : (timeF sy st rs N x).2 = 0
    · exact .inl h0
    · exact .inr (timeF_codes (startF_word A0.out (by omega) e1 (by omega) e2) h0))
  clear h256 hwr
  have hL1 : 1 ≤ L := by omega
  have hL5 : L ≤ 5 := by omega
  have hM8 : M ≤ 8 := by omega
  go_wp2_with fail
  go_loopw [12, 13] (fun v i wr => ∃ (j : Nat) (D : Option Addr) (cd : Nat), j ≤ M + 1 ∧ i = .int .i64 (j : Int) ∧ v = .slice D j cd ∧ Own wr w.heap.size 2 1 D j cd (ints (worstTo (timeF sy st rs N) L j)) ∧ Hid (okTo2 (timeF sy st rs N) L j = true) ∧ Blk wr w.heap.size 82 #[.int .i64 sy, .int .i64 st, .slice A n k] ∧ Below w.heap.size w wr) (fun _ i _ => (M + 1) - (intOf i).toNat)
  case atStart => exact ⟨0, _, 0, Nat.zero_le _, rfl, rfl, o2, rfl, c2, y2⟩
  case round =>
    obtain ⟨j, D, cd, hj, rfl, rfl, ho, hok, hB, hy⟩ := hrel
    rename World => W0
    clear o2 c2 y2 z2 c0 y1 z1 b0 y0
    by_cases hlt : j < M + 1
    · have hpj := HPJ.out j (by omega)
      have HMJ := Lib.hid (l20Many_any L j W0 hL1 hL5 (by omega))
      have HMP : Hid (∀ e w', ManyP W0 (pwr L j) e w' → e = .returned (.tuple #[.int .i64 (pwr L j : Int), .bool true]) ∧ W0 = w') := Lib.hid (fun e w' ⟨h1, h2⟩ => ⟨by rw [h1, if_pos hpj]; simp [hpj], h2⟩)
      have HC5j := Lib.hid (HC5.out j (by omega))
      have HWA : Hid (∀ k, k < pwr L j → (wordsD L j)[k]? = some (digs L j k)) := Lib.hid (fun k hk => wordsD_at hk)
      have HWL : Hid ((wordsD L j).length = pwr L j) := Lib.hid (wordsD_len L j)
      have HWT : Hid (worstTo (timeF sy st rs N) L (j + 1) = worstTo (timeF sy st rs N) L j ++ [worstL (timesV (timeF sy st rs N) (wordsD L j))]) := Lib.hid (worstTo_next _ _ _)
      have HOT : Hid (okTo2 (timeF sy st rs N) L (j + 1) = (okTo2 (timeF sy st rs N) L j && okL (timeF sy st rs N) (wordsD L j))) := Lib.hid (okTo2_next _ _ _)
      have HOB : Hid (okL (timeF sy st rs N) (wordsD L j) = false → okTo2 (timeF sy st rs N) L (M + 1) = false) := Lib.hid (fun h => okTo2_bad hlt h)
      go_wp2_with (go_at_call 118; refine HMJ.out.mono ?_; intro e w' hmp; obtain ⟨rfl, rfl⟩ := HMP.out e w' hmp)
      clear HMJ HMP
      go_loopw [16, 17] (fun s16 s17 wr => ∃ q : Nat, q ≤ pwr L j ∧ s17 = .int .i64 (q : Int) ∧ s16 = .int .i64 (worstL (timesV (timeF sy st rs N) ((wordsD L j).take q))) ∧ Hid (okL (timeF sy st rs N) ((wordsD L j).take q) = true) ∧ Below W0.heap.size W0 wr) (fun _ s17 _ => pwr L j - (intOf s17).toNat)
      case atStart => exact ⟨0, Nat.zero_le _, rfl, by simp [timesV, worstL, maxT], Lib.hid (by simp [okL]), Below.refl _ _⟩
      case round =>
        obtain ⟨q, hq, rfl, rfl, hokq, hz⟩ := hrel
        rename World => W3
        by_cases hql : q < pwr L j
        · have HX := Lib.hid (HWA.out q hql)
          obtain ⟨W4, hW_⟩ : ∃ W_, W_ = W3.alloc (.cells #[] 2) := ⟨_, rfl⟩
          have b4 : Blk W4 W3.heap.size 2 #[] := by rw [hW_]; exact Blk.new W3 _ _
          have z4 : Below W3.heap.size W3 W4 := by rw [hW_]; exact (Below.refl _ _).alloc (Nat.le_refl _) _
          have HW4 := Lib.hid hW_
          clear hW_
          have hz4 := hz.trans (z4.mono hz.size)
          have o4 : Own W4 W3.heap.size 2 1 (some ⟨W3.heap.size, 0, none⟩) 0 0 (ints (digs L 0 q)) := Blk.own (n := 0) (s := 1) b4 rfl (by simp [maxLen]) (Nat.le_refl _)
          go_upto_region 18 with fail
          rw [← HW4.out]
          clear HW4 b4
          go_wp2_with fail
          go_loopw [18, 19, 20] (fun s18 s19 s20 wr => ∃ (i : Nat) (E : Option Addr) (d : Nat), i ≤ j ∧ s20 = .int .i64 (i : Int) ∧ s19 = .int .i64 ((q / L ^ i : Nat) : Int) ∧ s18 = .slice E i d ∧ Own wr W3.heap.size 2 1 E i d (ints (digs L i q)) ∧ Below W3.heap.size W3 wr) (fun _ _ s20 _ => j - (intOf s20).toNat)
          case atStart => exact ⟨0, _, 0, Nat.zero_le _, rfl, by simp, rfl, o4, z4⟩
          case round =>
            obtain ⟨i, E, d, hi, rfl, rfl, rfl, oE, hz5⟩ := hrel
            clear o4 hz4 z4
            have hqi : q / L ^ i ≤ 256 := Nat.le_trans (Nat.div_le_self _ _) (by omega)
            have HDV : Hid (q / L ^ (i + 1) = q / L ^ i / L) := Lib.hid (by rw [Nat.div_div_eq_div_mul, Nat.pow_succ])
            have HDS : Hid (digs L (i + 1) q = digs L i q ++ [1 + ((q / L ^ i % L : Nat) : Int)]) := Lib.hid (digs_snoc L i q)
            generalize q / L ^ i = r at *
            by_cases hil : i < j
            · have hml : r % L < L := Nat.mod_lt _ (by omega)
              have hdl : r / L ≤ r := Nat.div_le_self _ _
              obtain ⟨dg, hdg⟩ : ∃ dg : Int, dg = ((r % L : Nat) : Int) := ⟨_, rfl⟩
              obtain ⟨qd, hqd⟩ : ∃ qd : Nat, qd = r / L := ⟨_, rfl⟩
              have htm : Int.tmod (r : Int) (L : Int) = dg := by rw [hdg, Int.tmod_eq_emod_of_nonneg (by omega)]; simp
              have htd : Int.tdiv (r : Int) (L : Int) = (qd : Int) := by rw [hqd, Int.tdiv_eq_ediv_of_nonneg (by omega)]; simp
              have HDS2 : Hid (digs L (i + 1) q = digs L i q ++ [1 + dg]) := Lib.hid (by rw [HDS.out, hdg])
              have HDV2 : Hid (q / L ^ (i + 1) = qd) := Lib.hid (by rw [HDV.out, hqd])
              have hd0 : 0 ≤ dg := by omega
              have hd5 : dg < 5 := by omega
              have hqd2 : qd ≤ 256 := by omega
              have hLn : ¬ ((L : Int) = 0) := by omega
              clear hdg hqd hml hdl HDS HDV
              go_wp2_with (at_builtin; refine wpList_append_Own rfl (.tmp 73) (.tmp 78) rfl elI (lo := W3.heap.size) rfl (oE.alloc _) rfl (Rd.new1 wr (.int .i64 (1 + dg)) _) (by simp [Value.oneCell']) (by omega) (by simp only [maxLen]; omega) (by have := hz5.size; simp; omega) ?_; intro A7 c7 w7 ho7 hg7 hw7)
              have hz7 : Below W3.heap.size W3 w7 := (oE.alloc _).below_of (hz5.alloc hz5.size _) hg7 (by have := hz5.size; simp; omega)
              rw [ints_snoc, ← HDS2.out] at ho7
              go_wp2_with fail
              go_roundw
              case rel => exact ⟨i + 1, A7, c7, by omega, by go_num, by rw [HDV2.out], rfl, ho7, hz7⟩
              case measure => simp [intOf]; omega
            · obtain rfl : i = j := by omega
              have hz6 := hz.trans (hz5.mono hz.size)
              have hy6 := hy.trans (hz6.mono hy.size)
              have hB6 := hB.below' hz6
              have hE := oE.le
              have hdl : (digs L i q).length = i := digs_len _ _ _
              have oS : SI wr E i (digs L i q) := oE.rd
              have HDL := Lib.hid hdl
              clear hqi HDV HDS hdl
              go_wp2_with fail
              refine (l20Time_any w.heap.size sy st A n k rs E i d (digs L i q) N wr hB6.machAt (hr.below hy6) oS hn (by omega) hE A1.out).mono ?_
              rintro e W7 ⟨rfl, z7⟩
              have hz7 := hz6.trans (z7.mono hz6.size)
              have HTN := Lib.hid (timesV_next (f := timeF sy st rs N) HX.out)
              have HON := Lib.hid (okL_next (f := timeF sy st rs N) HX.out hokq.out)
              have HOX := Lib.hid (okL_bad (f := timeF sy st rs N) HX.out)
              have HC5x := Lib.hid (HC5j.out _ (List.mem_of_getElem? HX.out))
              have hge : -1 ≤ (timeF sy st rs N (digs L i q)).1 := timeF_ge
              obtain ⟨tf, htf⟩ : ∃ tf, tf = timeF sy st rs N (digs L i q) := ⟨_, rfl⟩
              rw [← htf] at HTN HON HOX HC5x hge ⊢
              obtain ⟨tv, tk⟩ := tf
              dsimp only at HTN HON HOX HC5x hge ⊢
              clear htf
              by_cases hk0 : tk = 0
              rotate_left
              · obtain rfl : tk = 5 := by rcases HC5x.out with h | h; exact absurd h hk0; exact h
                have HF2 : Hid (worstF sy st rs (L : Int) (M : Int) (N : Int) = ([], 5)) := Lib.hid (by rw [HF.out, HOB.out (HOX.out hk0)]; rfl)
                have hy7 := hy.trans (hz7.mono hy.size)
                go_wp2_with fail
                exact bodyPost_ret (v := .tuple #[.slice none 0 0, .int .i64 5]) (by simp [results, Try.results51, go_sem]) rfl (newI2_nil HF2.out hy7)
              subst hk0
              have HOK1 : Hid (okL (timeF sy st rs N) ((wordsD L i).take (q + 1)) = true) := Lib.hid (HON.out rfl)
              clear HON HOX HC5x
              obtain ⟨T, hT⟩ : ∃ T, T = timesV (timeF sy st rs N) ((wordsD L i).take q) := ⟨_, rfl⟩
              rw [← hT] at HTN ⊢
              clear hT
              by_cases hbad : tv < 0 ∨ worstL T < 0
              · have HW1 : Hid (worstL (timesV (timeF sy st rs N) ((wordsD L i).take (q + 1))) = -1) := Lib.hid (by rw [HTN.out, worstL_bad hbad])
                generalize worstL T = wl at *
                by_cases htv : tv < 0
                · clear hbad
                  go_wp2_with fail
                  go_roundw
                  case rel => exact ⟨q + 1, by omega, by go_num, by rw [HW1.out], HOK1, hz7⟩
                  case measure => simp [intOf]; omega
                · have hwl : wl < 0 := hbad.resolve_left htv
                  clear hbad
                  go_wp2_with fail
                  go_roundw
                  case rel => exact ⟨q + 1, by omega, by go_num, by rw [HW1.out], HOK1, hz7⟩
                  case measure => simp [intOf]; omega
              · have htv : ¬ tv < 0 := fun h => hbad (.inl h)
                have hwl : ¬ worstL T < 0 := fun h => hbad (.inr h)
                have HW1 : Hid (worstL (timesV (timeF sy st rs N) ((wordsD L i).take (q + 1))) = if tv < worstL T then worstL T else tv) := Lib.hid (by rw [HTN.out, worstL_more htv hwl])
                generalize worstL T = wl at *
                clear hbad
                go_wp2_with (go_at_call 120; refine (l00Max_any _ _ _).mono ?_; rw [← HW1.out]; rintro e w' ⟨rfl, rfl⟩)
                go_roundw
                case rel => exact ⟨q + 1, by omega, by go_num, rfl, HOK1, hz7⟩
                case measure => simp [intOf]; omega
        · obtain rfl : q = pwr L j := by omega
          have HTK : Hid ((wordsD L j).take (pwr L j) = wordsD L j) := Lib.hid (List.take_of_length_le (by rw [HWL.out]; exact Nat.le_refl _))
          rw [HTK.out] at hokq
          have HOK2 : Hid (okTo2 (timeF sy st rs N) L (j + 1) = true) := Lib.hid (by rw [HOT.out, hok.out, hokq.out]; rfl)
          rw [HTK.out]
          have hy5 := hy.trans (hz.mono hy.size)
          have hB5 := hB.below' hz
          have ho5 := ho.below hz
          generalize worstL (timesV (timeF sy st rs N) (wordsD L j)) = wl at *
          go_wp2_with (at_builtin; refine wpList_append_Own rfl (.tmp 101) (.tmp 103) rfl elI (lo := w.heap.size) rfl (ho5.alloc _) rfl (Rd.new1 W3 (.int .i64 wl) _) (by simp [Value.oneCell']) (by omega) (by simp only [maxLen]; omega) (by have := hy5.size; simp; omega) ?_; intro A7 c7 w7 ho7 hg7 hw7)
          have hy7 : Below w.heap.size w w7 := (ho5.alloc _).below_of (hy5.alloc hy5.size _) hg7 (by have := hy5.size; simp; omega)
          have hB7 : Blk w7 w.heap.size 82 #[.int .i64 sy, .int .i64 st, .slice A n k] := Blk.growt (hB5.alloc _) (ho5.alloc _) hg7 (by decide)
          rw [ints_snoc, ← HWT.out] at ho7
          go_wp2_with fail
          go_roundw
          case rel => exact ⟨j + 1, A7, c7, by omega, by go_num, rfl, ho7, HOK2, hB7, hy7⟩
          case measure => simp [intOf]; omega
    · obtain rfl : j = M + 1 := by omega
      have HF2 : Hid (worstF sy st rs (L : Int) (M : Int) (N : Int) = (worstTo (timeF sy st rs N) L (M + 1), 0)) := Lib.hid (by rw [HF.out, if_pos hok.out])
      have HL2 : Hid ((worstTo (timeF sy st rs N) L (M + 1)).length = M + 1) := Lib.hid (worstTo_len _ _ _)
      go_wp2_with fail
      exact bodyPost_ret (v := .tuple #[.slice D (M + 1) cd, .int .i64 0]) (by simp [results, Try.results51, go_sem]) rfl (by have h := HL2.out; rw [← h]; exact newI2_of HF2.out (by rw [h]; exact ho) hy)
end Go.Proofs.Ythipbeggaeogcaa
