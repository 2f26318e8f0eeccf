/-
  Contract of impl.WorstTimes.
-/
import Derived.Test.YthipbeggaeogcaaWordI
import Derived.Test.YthipbeggaeogcaaTimeI
namespace Go.Proofs.Ythipbeggaeogcaa
open Go.RowKit

theorem OII.setRow {w w' : World} {lo n c k : Nat} {e2 e1 : TypeId} {A : Option Addr} {ts : List Sl} {t : Sl} (xs : List Int) (h : OII w lo e2 e1 A n c ts) (hT : ts[k]? = some t) (hl : xs.length = t.xs.length) (ho : Own w' lo e1 1 t.A t.xs.length t.c (ints xs)) (hf : ∀ b, blk t.A ≠ some b → w'.heap[b]? = w.heap[b]?) (hne : e1 ≠ e2) : OII w' lo e2 e1 A n c (ts.set k ⟨t.A, t.c, xs⟩) := by
  obtain ⟨hk, he⟩ := List.getElem?_eq_some_iff.1 hT
  have hm : t ∈ ts := List.mem_of_getElem? hT
  refine ⟨?_, fun u hu => ?_, ?_⟩
  · have e : (ts.set k ⟨t.A, t.c, xs⟩).map Sl.val = ts.map Sl.val := by
      apply List.ext_getElem?
      intro i
      rw [List.getElem?_map, List.getElem?_map]
      by_cases hi : i = k
      · subst hi
        rw [List.getElem?_set_self hk, hT]
        simp [Sl.val, hl]
      · rw [List.getElem?_set_ne (by omega)]
    rw [e]
    exact h.1.kept (fun b hb _ _ => hf b (fun hb' => Own.blk_ne h.1 (h.2.1 t hm) (fun e => hne e.symm) b hb hb'))
  · obtain ⟨i, hi⟩ := List.getElem?_of_mem hu
    by_cases hik : i = k
    · subst hik
      rw [List.getElem?_set_self hk] at hi
      cases hi
      show Own w' lo e1 1 t.A xs.length t.c (ints xs)
      rw [hl]; exact ho
    · rw [List.getElem?_set_ne (by omega)] at hi
      have hu' : u ∈ ts := List.mem_of_getElem? hi
      exact Own.kept (h.2.1 u hu') (fun b hb _ _ => hf b (fun hb' => apt_of h.2.2 hi hT hik b hb hb'))
  · rw [List.pairwise_iff_getElem]
    intro i j hi hj hij
    rw [List.length_set] at hi hj
    have hp := List.pairwise_iff_getElem.1 h.2.2 i j hi hj hij
    have key : ∀ (i : Nat) (hi : i < ts.length), ((ts.set k ⟨t.A, t.c, xs⟩)[i]'(by rw [List.length_set]; exact hi)).A = ts[i].A := by
      intro i hi
      by_cases hik : i = k
      · subst hik; rw [List.getElem_set_self, ← he]
      · rw [List.getElem_set_ne (by omega)]
    intro b hb hb'
    rw [key i hi] at hb
    rw [key j hj] at hb'
    exact hp b hb hb'

theorem set_same {α : Type} {l : List α} {t : Nat} {x : α} (h : l[t]? = some x) : l.set t x = l := by
  obtain ⟨hl, rfl⟩ := List.getElem?_eq_some_iff.1 h
  exact List.set_getElem_self _
theorem nums_set (vs : List Sl) (t : Nat) (s : Sl) : nums (vs.set t s) = (nums vs).set t s.xs := by
  unfold nums
  exact List.map_set
theorem intsAt {l : List Int} {p : Nat} {v : Int} (h : l[p]? = some v) : (ints l)[p]? = some (.int .i64 v) := by simp [ints, h]
theorem intsSet (l : List Int) (p : Nat) (v : Int) : (ints l).set p (.int .i64 v) = ints (l.set p v) := by
  unfold ints
  exact List.map_set.symm
theorem maxI_worst {l : List Int} (hne : l ≠ []) (h : l.any (fun x => decide (x < 0)) = false) : maxI l = worstL l := by
  rw [← maxL_worst hne h]
  cases l <;> rfl
theorem wordsL_up {L n : Nat} {x : List Int} (h : x ∈ (wordsL L n).map upW) : x.length = n ∧ ∀ y ∈ x, 1 ≤ y ∧ y ≤ (L : Int) := mem_up.1 h

set_option maxRecDepth 100000 in
set_option maxHeartbeats 16000000 in
theorem worstI_any (sy st : Int) (A : Option Addr) (n k : Nat) (rs : List R3) (l m b : Int) (w : World) (hr : S3 w A n rs) (hn : n ≤ 1048576) :
    Calls Try.prog 53 #[.agg #[.int .i64 sy, .int .i64 st, .slice A n k], .int .i64 l, .int .i64 m, .int .i64 b] w (NewI2 w (worstF sy st rs l m b)) := by
  obtain ⟨W, hW_⟩ : ∃ W, W = w.alloc (.cells #[.int .i64 sy, .int .i64 st, .slice A n k] 82) := ⟨_, rfl⟩
  have b0 : Blk W w.heap.size 82 #[.int .i64 sy, .int .i64 st, .slice A n k] := by rw [hW_]; exact Blk.new w _ _
  have y0 : Below w.heap.size w W := by rw [hW_]; exact (Below.refl _ _).alloc (Nat.le_refl _) _
  have HW := Lib.hid hW_
  clear hW_
  have q0 : W.cell? ⟨w.heap.size, 0, none⟩ = some (.int .i64 sy) := b0.cell 0
  have q1 : W.cell? ⟨w.heap.size, 1, none⟩ = some (.int .i64 st) := b0.cell 1
  have q2 : W.cell? ⟨w.heap.size, 2, none⟩ = some (.slice A n k) := b0.cell 2
  go_enter Try.func53, Try.ntmps53
  go_wp2_with fail
  rw [← HW.out]
  refine (validMachine_any _ _ _ _ _ rs _ (hr.below y0) hn).mono ?_
  rintro e W1 ⟨rfl, z1⟩
  have y1 := y0.trans (z1.mono y0.size)
  have c0 := b0.below' z1
  clear q0 q1 q2
  have q0 : W1.cell? ⟨w.heap.size, 0, none⟩ = some (.int .i64 sy) := c0.cell 0
  have q1 : W1.cell? ⟨w.heap.size, 1, none⟩ = some (.int .i64 st) := c0.cell 1
  have q2 : W1.cell? ⟨w.heap.size, 2, none⟩ = some (.slice A n k) := c0.cell 2
  cases a0 : machB sy st rs
  · have HF : Hid (worstF sy st rs l m b = ([], 1)) := Lib.hid (by unfold worstF; rw [a0]; rfl)
    clear a0
    go_wp2_with fail
    exact bodyPost_ret (v := .tuple #[.slice none 0 0, .int .i64 1]) (by simp [results, Try.results53, go_sem]) rfl (newI2_nil HF.out y1)
  have A0 := Lib.hid a0
  obtain ⟨k1, k2, k3, k4, _, _⟩ := machB_parts a0
  clear a0
  have hwr : IntKind.i64.wrap (sy - 1) = sy - 1 := IntWalk.i64_in _ (by omega)
  cases a1 : inB b 1 20000
  · have HF : Hid (worstF sy st rs l m b = ([], 2)) := Lib.hid (by unfold worstF; rw [A0.out, a1]; rfl)
    have A1 := Lib.hid a1
    clear a1
    go_wp2_with (go_at_call 77; refine (budgetOk_is A1.out _).mono ?_; rintro e w' ⟨rfl, rfl⟩)
    exact bodyPost_ret (v := .tuple #[.slice none 0 0, .int .i64 2]) (by simp [results, Try.results53, go_sem]) rfl (newI2_nil HF.out y1)
  have A1 := Lib.hid a1
  have hb := (inB_iff _ _ _).1 a1
  clear a1
  cases a2 : inB l 1 (sy - 1)
  · have HF : Hid (worstF sy st rs l m b = ([], 2)) := Lib.hid (by unfold worstF; rw [A0.out, A1.out, a2]; rfl)
    have A2 := Lib.hid a2
    clear a2
    go_wp2_with (first | (go_at_call 77; refine (budgetOk_is A1.out _).mono ?_; rintro e w' ⟨rfl, rfl⟩) | (go_at_call 85; refine (within_is A2.out _).mono ?_; rintro e w' ⟨rfl, rfl⟩))
    exact bodyPost_ret (v := .tuple #[.slice none 0 0, .int .i64 2]) (by simp [results, Try.results53, go_sem]) rfl (newI2_nil HF.out y1)
  have A2 := Lib.hid a2
  have hl := (inB_iff _ _ _).1 a2
  clear a2
  cases a3 : inB m 0 8
  · have HF : Hid (worstF sy st rs l m b = ([], 2)) := Lib.hid (by unfold worstF; rw [A0.out, A1.out, A2.out, a3]; rfl)
    have A3 := Lib.hid a3
    clear a3
    go_wp2_with (first | (go_at_call 77; refine (budgetOk_is A1.out _).mono ?_; rintro e w' ⟨rfl, rfl⟩) | (go_at_call_of 85 (Value.int .i64 l); refine (within_is A2.out _).mono ?_; rintro e w' ⟨rfl, rfl⟩) | (go_at_call_of 85 (Value.int .i64 m); refine (within_is A3.out _).mono ?_; rintro e w' ⟨rfl, rfl⟩))
    exact bodyPost_ret (v := .tuple #[.slice none 0 0, .int .i64 2]) (by simp [results, Try.results53, go_sem]) rfl (newI2_nil HF.out y1)
  have A3 := Lib.hid a3
  have hm8 := (inB_iff _ _ _).1 a3
  clear a3
  obtain ⟨L, rfl⟩ : ∃ L : Nat, l = (L : Int) := ⟨l.toNat, by omega⟩
  obtain ⟨M, rfl⟩ : ∃ M : Nat, m = (M : Int) := ⟨m.toNat, by omega⟩
  obtain ⟨N, rfl⟩ : ∃ N : Nat, b = (N : Int) := ⟨b.toNat, by omega⟩
  have HPW := Lib.hid (powerOf_any L M W1 (by omega) (by omega) (by omega))
  by_cases h256 : pwr L M ≤ 256
  rotate_left
  · have HF : Hid (worstF sy st rs (L : Int) (M : Int) (N : Int) = ([], 2)) := Lib.hid (by
      unfold worstF
      rw [A0.out, A1.out, A2.out, A3.out, Int.toNat_natCast, Int.toNat_natCast]
      have h : ¬ L ^ M ≤ 256 := h256
      simp [h])
    have i1 : (256 : Int) < (pwr L M : Int) := by omega
    go_wp2_with (first | (go_at_call 77; refine (budgetOk_is A1.out _).mono ?_; rintro e w' ⟨rfl, rfl⟩) | (go_at_call_of 85 (Value.int .i64 (L : Int)); refine (within_is A2.out _).mono ?_; rintro e w' ⟨rfl, rfl⟩) | (go_at_call_of 85 (Value.int .i64 (M : Int)); refine (within_is A3.out _).mono ?_; rintro e w' ⟨rfl, rfl⟩) | (go_at_call 123; refine HPW.out.mono ?_; rintro e w' ⟨rfl, rfl⟩))
    exact bodyPost_ret (v := .tuple #[.slice none 0 0, .int .i64 2]) (by simp [results, Try.results53, go_sem]) rfl (newI2_nil HF.out y1)
  have HF : Hid (worstF sy st rs (L : Int) (M : Int) (N : Int) = if okTo2 (timeF sy st rs N) L (M + 1) then (worstTo (timeF sy st rs N) L (M + 1), 0) else ([], 5)) := Lib.hid (by
    unfold worstF
    rw [A0.out, A1.out, A2.out, A3.out, Int.toNat_natCast, Int.toNat_natCast, Int.toNat_natCast]
    have h : L ^ M ≤ 256 := h256
    simp [h])
  have i1 : ¬ ((256 : Int) < (pwr L M : Int)) := by omega
  obtain ⟨W2, hW_⟩ : ∃ W_, W_ = W1.alloc (.cells #[] 2) := ⟨_, rfl⟩
  have b2 : Blk W2 W1.heap.size 2 #[] := by rw [hW_]; exact Blk.new W1 _ _
  have z2 : Below W1.heap.size W1 W2 := by rw [hW_]; exact (Below.refl _ _).alloc (Nat.le_refl _) _
  have HW2 := Lib.hid hW_
  clear hW_
  have y2 := y1.trans (z2.mono y1.size)
  have c2 := c0.below' z2
  have o2 : Own W2 w.heap.size 2 1 (some ⟨W1.heap.size, 0, none⟩) 0 0 (ints (worstTo (timeF sy st rs N) L 0)) := Blk.own (n := 0) (s := 1) b2 rfl (by simp [maxLen]) y1.size
  go_upto_region 9 with (first | (go_at_call 77; refine (budgetOk_is A1.out _).mono ?_; rintro e w' ⟨rfl, rfl⟩) | (go_at_call_of 85 (Value.int .i64 (L : Int)); refine (within_is A2.out _).mono ?_; rintro e w' ⟨rfl, rfl⟩) | (go_at_call_of 85 (Value.int .i64 (M : Int)); refine (within_is A3.out _).mono ?_; rintro e w' ⟨rfl, rfl⟩) | (go_at_call 123; refine HPW.out.mono ?_; rintro e w' ⟨rfl, rfl⟩))
  rw [← HW2.out]
  clear HW2 b2 q0 q1 q2 HPW
  have HPJ : Hid (∀ j, j ≤ M → L ^ j ≤ 256) := Lib.hid (fun j hj => Nat.le_trans (Nat.pow_le_pow_right (n := L) (by omega) hj) h256)
  have HC5 : Hid (∀ j, j ≤ M → ∀ x ∈ (wordsL L j).map upW, (timeF sy st rs N x).2 = 0 ∨ (timeF sy st rs N x).2 = 5) := Lib.hid (fun j hj x hx => by
    obtain ⟨e1, e2⟩ := wordsL_up hx
    by_cases h0 : (timeF sy st rs N x).2 = 0
    · exact .inl h0
    · exact .inr (timeF_codes (startF_word A0.out (by omega) e1 (by omega) e2) h0))
  clear i1 h256 hwr
  have hL1 : 1 ≤ L := by omega
  have hL5 : L ≤ 5 := by omega
  have hM8 : M ≤ 8 := by omega
  go_wp2_with fail
  go_loopw [12, 56] (fun v i wr => ∃ (j : Nat) (D : Option Addr) (cd : Nat), j ≤ M + 1 ∧ i = .int .i64 (j : Int) ∧ v = .slice D j cd ∧ Own wr w.heap.size 2 1 D j cd (ints (worstTo (timeF sy st rs N) L j)) ∧ Hid (okTo2 (timeF sy st rs N) L j = true) ∧ Blk wr w.heap.size 82 #[.int .i64 sy, .int .i64 st, .slice A n k] ∧ Below w.heap.size w wr) (fun _ i _ => (M + 1) - (intOf i).toNat)
  case atStart => exact ⟨0, _, 0, Nat.zero_le _, rfl, rfl, o2, rfl, c2, y2⟩
  case round =>
    obtain ⟨j, D, cd, hj, rfl, rfl, ho, hok, hB, hy⟩ := hrel
    rename World => W0
    clear o2 c2 y2 z2 c0 y1 z1 b0 y0
    by_cases hlt : j < M + 1
    · have hpj := HPJ.out j (by omega)
      go_wp2_with fail
      refine (wordsOver_any L j W0 hL1 hL5 (by omega) hpj).mono ?_
      rintro e W3 ⟨B, c3, us, rfl, hU, hnu, z3⟩
      have hul : us.length = L ^ j := by rw [← wordsL_len, ← hnu]; simp [nums]
      have hu256 : us.length ≤ 256 := by rw [hul]; exact hpj
      have y3 := hy.trans (z3.mono hy.size)
      have ho3 := ho.below z3
      have hB3 := hB.below' z3
      obtain ⟨ws, hws⟩ : ∃ ws, ws = wordsL L j := ⟨_, rfl⟩
      rw [← hws] at hnu
      have HWS := Lib.hid hws
      have HNU := Lib.hid hnu
      have HRL : Hid (∀ (t : Nat) (x : List Int), ws[t]? = some x → x.length ≤ 8 ∧ ∀ y ∈ x, 0 ≤ y ∧ y < 5) := Lib.hid (fun t x h => by
        rw [hws] at h
        obtain ⟨e1, e2⟩ := mem_wordsL.1 (List.mem_of_getElem? h)
        exact ⟨by omega, fun y hy => by have := e2 y hy; omega⟩)
      have HWL : Hid (ws.length = us.length) := Lib.hid (by rw [← hnu]; simp [nums])
      have HW0 : Hid (0 < us.length) := Lib.hid (by rw [hul]; exact Nat.pow_pos (by omega))
      have HSM : Hid (okL (timeF sy st rs N) (ws.map upW) = okL (timeF sy st rs N) (wordsD L j) ∧ worstL (timesV (timeF sy st rs N) (ws.map upW)) = worstL (timesV (timeF sy st rs N) (wordsD L j))) := Lib.hid (by
        have h := words_same (L := L) (n := j) (by omega)
        rw [hws]
        exact ⟨okL_congr h, worstL_congr (timesV_congr h)⟩)
      have HC5j : Hid (∀ x ∈ ws.map upW, (timeF sy st rs N x).2 = 0 ∨ (timeF sy st rs N x).2 = 5) := Lib.hid (by rw [hws]; exact HC5.out j (by omega))
      clear hul hws hnu
      go_wp2_with fail
      go_loopw [64] (fun i wr => ∃ (t : Nat) (vs : List Sl), t ≤ us.length ∧ i = .int .i64 (t : Int) ∧ OII wr W0.heap.size 25 2 B us.length c3 vs ∧ Hid (nums vs = upTo ws t) ∧ Below W0.heap.size W0 wr) (fun i _ => us.length - (intOf i).toNat)
      case atStart => exact ⟨0, us, Nat.zero_le _, rfl, hU, Lib.hid (by rw [HNU.out, upTo_zero]), z3⟩
      case round =>
        obtain ⟨t, vs, ht, rfl, hV, hnv, hz⟩ := hrel
        clear hU z3 ho3 hB3 y3
        by_cases htl : t < us.length
        · obtain ⟨u, bb, off, HT, htm, rfl, hbl, e0, _⟩ := hV.sii.pick htl
          obtain ⟨uA, uc, ux⟩ := u
          have HX : Hid (ws[t]? = some ux) := Lib.hid (by
            have h1 : t < ws.length := by rw [HWL.out]; exact htl
            have h2 := upTo_at (List.getElem?_eq_getElem h1)
            rw [← hnv.out] at h2
            simp only [nums, List.getElem?_map, HT.out, Option.map_some, Option.some.injEq] at h2
            rw [List.getElem?_eq_getElem h1, h2])
          have hx8 := (HRL.out t ux HX.out).1
          have HXV := Lib.hid (HRL.out t ux HX.out).2
          have i1 : (0 : Int) ≤ (t : Int) := by omega
          have i2 : (t : Int) < (us.length : Int) := by omega
          clear htm
          go_wp2_with fail
          clear e0
          go_loopw [70] (fun i wr => ∃ (p : Nat) (vs : List Sl), p ≤ ux.length ∧ i = .int .i64 (p : Int) ∧ OII wr W0.heap.size 25 2 (some ⟨bb, off, none⟩) us.length c3 vs ∧ Hid (vs[t]? = some ⟨uA, uc, upPart ux p⟩) ∧ Hid (nums vs = (upTo ws t).set t (upPart ux p)) ∧ Below W0.heap.size W0 wr) (fun i _ => ux.length - (intOf i).toNat)
          case atStart => exact ⟨0, vs, Nat.zero_le _, rfl, hV, Lib.hid (by rw [upPart_zero]; exact HT.out), Lib.hid (by rw [upPart_zero, set_same (upTo_at HX.out)]; exact hnv.out), hz⟩
          case round =>
            clear hV hz HT hnv
            obtain ⟨p, vs, hp, rfl, hV, HT, hnv, hz⟩ := hrel
            by_cases hpl : p < ux.length
            · obtain ⟨v, hv⟩ : ∃ v, ux[p]? = some v := ⟨_, List.getElem?_eq_getElem hpl⟩
              have hvb := HXV.out v (List.mem_of_getElem? hv)
              have oR : Own wr W0.heap.size 2 1 uA ux.length uc (ints (upPart ux p)) := by
                have h := hV.2.1 _ (List.mem_of_getElem? HT.out)
                have h2 : Own wr W0.heap.size 2 1 uA (upPart ux p).length uc (ints (upPart ux p)) := h
                rw [upPart_len] at h2
                exact h2
              have hil : (ints (upPart ux p)).length = ux.length := by rw [length_ints, upPart_len]
              obtain ⟨b, off', hA, hlo, hbl2, hc, hf⟩ := oR.at_ (k := p) (by rw [hil]; exact hpl)
              have hcv : (ints (upPart ux p))[p]'(by rw [hil]; exact hpl) = .int .i64 v := by
                have h := intsAt (upPart_at hv)
                obtain ⟨_, h2⟩ := List.getElem?_eq_some_iff.1 h
                exact h2
              rw [hcv] at hc
              subst hA
              have oR2 := oR.set_ (k := p) (by rw [hil]; exact hpl) (.int .i64 (v + 1))
              rw [intsSet, upPart_next hv] at oR2
              have hV2 := OII.setRow (upPart ux (p + 1)) hV HT.out (by show (upPart ux (p + 1)).length = (upPart ux p).length; rw [upPart_len, upPart_len]) (by show Own _ _ _ 1 _ (upPart ux p).length _ _; rw [upPart_len]; exact oR2) (fun g hg => Below.heap_setCell _ _ _ _ (fun e => hg (by rw [e]; rfl))) (by decide)
              have hz2 := hz.setCell (p := ⟨b, off' + p, none⟩) hlo (.int .i64 (v + 1))
              have HT2 : Hid ((vs.set t ⟨some ⟨b, off', none⟩, uc, upPart ux (p + 1)⟩)[t]? = some ⟨some ⟨b, off', none⟩, uc, upPart ux (p + 1)⟩) := Lib.hid (List.getElem?_set_self (List.getElem?_eq_some_iff.1 HT.out).1)
              have HN2 : Hid (nums (vs.set t ⟨some ⟨b, off', none⟩, uc, upPart ux (p + 1)⟩) = (upTo ws t).set t (upPart ux (p + 1))) := Lib.hid (by rw [nums_set, hnv.out, List.set_set])
              have i3 : (0 : Int) ≤ (p : Int) := by omega
              have i4 : (p : Int) < (ux.length : Int) := by omega
              clear hv hcv oR oR2 hil hV
              go_wp2_with fail
              go_roundw
              case rel => exact ⟨p + 1, _, by omega, by go_num, hV2, HT2, HN2, hz2⟩
              case measure => simp [intOf]; omega
            · obtain rfl : p = ux.length := by omega
              have HE : Hid (nums vs = upTo ws (t + 1)) := Lib.hid (by rw [hnv.out, upPart_end (Nat.le_refl _), upTo_next HX.out])
              go_wp2_with fail
              go_roundw
              case rel => exact ⟨t + 1, vs, by omega, by go_num, hV, HE, hz⟩
              case measure => simp [intOf]; omega
        · have HNV : Hid (nums vs = ws.map upW) := Lib.hid (by rw [hnv.out, upTo_end (by rw [HWL.out]; omega)])
          have hy4 := hy.trans (hz.mono hy.size)
          have hB4 := hB.below' hz
          have ho4 := ho.below hz
          have q0 : wr.cell? ⟨w.heap.size, 0, none⟩ = some (.int .i64 sy) := hB4.cell 0
          have q1 : wr.cell? ⟨w.heap.size, 1, none⟩ = some (.int .i64 st) := hB4.cell 1
          have q2 : wr.cell? ⟨w.heap.size, 2, none⟩ = some (.slice A n k) := hB4.cell 2
          have hvl : vs.length = us.length := hV.len
          have HTT : Hid (timeTableF sy st rs (nums vs) (N : Int) = timesF (timeF sy st rs N) (ws.map upW)) := Lib.hid (by
            unfold timeTableF
            rw [A0.out, A1.out, Int.toNat_natCast, HNV.out]
            have h : ws.length ≤ 256 := by rw [HWL.out]; exact hu256
            simp [h])
          have hrows : ∀ x ∈ vs, x.xs.length ≤ 1048576 := fun x hx => by
            have h1 : x.xs ∈ nums vs := List.mem_map.2 ⟨x, hx, rfl⟩
            rw [HNV.out] at h1
            obtain ⟨y, hy1, hy2⟩ := List.mem_map.1 h1
            obtain ⟨i, hi⟩ := List.getElem?_of_mem hy1
            have h3 := (HRL.out i y hi).1
            rw [← hy2]
            unfold upW
            rw [List.length_map]
            omega
          have HROWS := Lib.hid hrows
          clear hrows hvl
          go_wp2_with fail
          refine (timeTableI_any sy st A n k rs _ _ _ vs (N : Int) wr (hr.below hy4) hV.sii hn (by omega) HROWS.out).mono ?_
          rw [HTT.out]
          clear q0 q1 q2
          cases hk2 : okL (timeF sy st rs N) (ws.map upW) with
          | false =>
            have HF2 : Hid (worstF sy st rs (L : Int) (M : Int) (N : Int) = ([], 5)) := Lib.hid (by
              rw [HF.out, okTo2_bad (k := j) hlt (by rw [← HSM.out.1, hk2])]
              rfl)
            rw [timesF_five HC5j.out hk2]
            clear hk2
            rintro e W5 ⟨A5, c5, rfl, o5, z5⟩
            have hy5 := hy4.trans (z5.mono hy4.size)
            dsimp only
            go_wp2_with fail
            exact bodyPost_ret (v := .tuple #[.slice none 0 0, .int .i64 5]) (by simp [results, Try.results53, go_sem]) rfl (newI2_nil HF2.out hy5)
          | true =>
            have HOK2 : Hid (okTo2 (timeF sy st rs N) L (j + 1) = true) := Lib.hid (by rw [okTo2_next, hok.out, ← HSM.out.1, hk2]; rfl)
            rw [timesF_all hk2]
            clear hk2
            have HTL : Hid ((timesV (timeF sy st rs N) (ws.map upW)).length = us.length) := Lib.hid (by unfold timesV; rw [List.length_map, List.length_map, HWL.out])
            have HGE : Hid (∀ x ∈ timesV (timeF sy st rs N) (ws.map upW), -1 ≤ x) := Lib.hid (fun x hx => by
              obtain ⟨y, _, rfl⟩ := List.mem_map.1 hx
              exact timeF_ge)
            have HNX : Hid (worstTo (timeF sy st rs N) L (j + 1) = worstTo (timeF sy st rs N) L j ++ [worstL (timesV (timeF sy st rs N) (ws.map upW))]) := Lib.hid (by rw [worstTo_next, HSM.out.2])
            generalize timesV (timeF sy st rs N) (ws.map upW) = T at *
            rintro e W5 ⟨A5, c5, rfl, o5, z5⟩
            have hy5 := hy4.trans (z5.mono hy4.size)
            have hB5 := hB4.below' z5
            have ho5 := ho4.below z5
            have htl2 := HTL.out
            have ht0 : 0 < T.length := by rw [HTL.out]; exact HW0.out
            have HCT := Lib.hid (containsI_any A5 T.length c5 T (-1) W5 o5.rd (by omega))
            have HMX := Lib.hid (maxI_any A5 T.length c5 T W5 o5.rd (by omega) ht0)
            dsimp only
            cases hneg : T.any (fun x => decide (x < 0)) with
            | true =>
              have HD : Hid (decide ((-1 : Int) ∈ T) = true) := Lib.hid (by rw [mem_neg HGE.out, hneg])
              have HN1 : Hid (worstTo (timeF sy st rs N) L (j + 1) = worstTo (timeF sy st rs N) L j ++ [-1]) := Lib.hid (by rw [HNX.out]; unfold worstL; rw [hneg]; rfl)
              clear hneg htl2
              go_wp2_with fail
              refine HCT.out.mono ?_
              rw [HD.out]
              rintro e w' ⟨rfl, rfl⟩
              go_wp2_with (at_builtin; refine wpList_append_Own rfl (.tmp 93) (.tmp 94) rfl elI (lo := w.heap.size) rfl (ho5.alloc _) rfl (Rd.new1 W5 (.int .i64 (-1)) _) (by simp [Value.oneCell']) (by omega) (by simp only [maxLen]; omega) (by have := hy5.size; simp; omega) ?_; intro A7 c7 w7 ho7 hg7 hw7)
              have hy7 : Below w.heap.size w w7 := (ho5.alloc _).below_of (hy5.alloc hy5.size _) hg7 (by have := hy5.size; simp; omega)
              have hB7 : Blk w7 w.heap.size 82 #[.int .i64 sy, .int .i64 st, .slice A n k] := Blk.growt (hB5.alloc _) (ho5.alloc _) hg7 (by decide)
              rw [ints_snoc, ← HN1.out] at ho7
              go_wp2_with fail
              go_roundw
              case rel => exact ⟨j + 1, A7, c7, by omega, by go_num, rfl, ho7, HOK2, hB7, hy7⟩
              case measure => simp [intOf]; omega
            | false =>
              have HD : Hid (decide ((-1 : Int) ∈ T) = false) := Lib.hid (by rw [mem_neg HGE.out, hneg])
              have HN1 : Hid (worstTo (timeF sy st rs N) L (j + 1) = worstTo (timeF sy st rs N) L j ++ [maxI T]) := Lib.hid (by rw [HNX.out, maxI_worst (fun h => by rw [h] at ht0; simp at ht0) hneg])
              clear hneg htl2
              go_wp2_with fail
              refine HCT.out.mono ?_
              rw [HD.out]
              rintro e w' ⟨rfl, rfl⟩
              go_wp2_with fail
              refine HMX.out.mono ?_
              rintro e w' ⟨rfl, rfl⟩
              generalize maxI T = mx at *
              go_wp2_with (at_builtin; refine wpList_append_Own rfl (.tmp 96) (.tmp 99) rfl elI (lo := w.heap.size) rfl (ho5.alloc _) rfl (Rd.new1 W5 (.int .i64 mx) _) (by simp [Value.oneCell']) (by omega) (by simp only [maxLen]; omega) (by have := hy5.size; simp; omega) ?_; intro A7 c7 w7 ho7 hg7 hw7)
              have hy7 : Below w.heap.size w w7 := (ho5.alloc _).below_of (hy5.alloc hy5.size _) hg7 (by have := hy5.size; simp; omega)
              have hB7 : Blk w7 w.heap.size 82 #[.int .i64 sy, .int .i64 st, .slice A n k] := Blk.growt (hB5.alloc _) (ho5.alloc _) hg7 (by decide)
              rw [ints_snoc, ← HN1.out] at ho7
              go_wp2_with fail
              go_roundw
              case rel => exact ⟨j + 1, A7, c7, by omega, by go_num, rfl, ho7, HOK2, hB7, hy7⟩
              case measure => simp [intOf]; omega
    · obtain rfl : j = M + 1 := by omega
      have HF2 : Hid (worstF sy st rs (L : Int) (M : Int) (N : Int) = (worstTo (timeF sy st rs N) L (M + 1), 0)) := Lib.hid (by rw [HF.out, if_pos hok.out])
      have HL2 : Hid ((worstTo (timeF sy st rs N) L (M + 1)).length = M + 1) := Lib.hid (worstTo_len _ _ _)
      go_wp2_with fail
      exact bodyPost_ret (v := .tuple #[.slice D (M + 1) cd, .int .i64 0]) (by simp [results, Try.results53, go_sem]) rfl (by have h := HL2.out; rw [← h]; exact newI2_of HF2.out (by rw [h]; exact ho) hy)
end Go.Proofs.Ythipbeggaeogcaa
