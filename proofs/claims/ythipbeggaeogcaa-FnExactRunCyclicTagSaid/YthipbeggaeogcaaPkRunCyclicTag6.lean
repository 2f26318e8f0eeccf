/-
  Contracts of slices.Chunk and, on codes, of impl.wordOfTurn.
-/
import Derived.Test.YthipbeggaeogcaaPkRunCyclicTag1
import Derived.Test.YthipbeggaeogcaaPkRunCyclicTag2
import Derived.Test.YthipbeggaeogcaaPkRunCyclicTag3
import Derived.Test.YthipbeggaeogcaaPkRunCyclicTag4
import Derived.Test.YthipbeggaeogcaaPkRunCyclicTag5
import Derived.BigRegion
namespace Go.Proofs.Ythipbeggaeogcaa
open Go.RowKit
attribute [local go_sem] Oper.semAt_some

theorem chunk_any (A : Option Addr) (N c n : Nat) (w : World) (hn : 1 ≤ n) :
    Calls Try.prog 153 #[.slice A N c, .int .i64 (n : Int)] w fun e w' => e = .returned (.func (.func 193) #[] #[.pointer (some ⟨w.heap.size, 0, none⟩), .pointer (some ⟨w.heap.size + 1, 0, none⟩)]) ∧
      Blk w' w.heap.size 25 #[.slice A N c] ∧ Blk w' (w.heap.size + 1) 3 #[.int .i64 (n : Int)] ∧ Below w.heap.size w w' := by
  have h1 : ¬ (n : Int) < 1 := by omega
  obtain ⟨W, hW_⟩ : ∃ W, W = (w.alloc (.cells #[.slice A N c] 25)).alloc (.cells #[.int .i64 (n : Int)] 3) := ⟨_, rfl⟩
  have s_1 : (w.alloc (.cells #[.slice A N c] 25)).heap.size = w.heap.size + 1 := by simp
  have b0 : Blk W w.heap.size 25 #[.slice A N c] := by rw [hW_]; exact (Blk.new w _ _).alloc _
  have b1 : Blk W (w.heap.size + 1) 3 #[.int .i64 (n : Int)] := by rw [hW_, ← s_1]; exact Blk.new _ _ _
  have y0 : Below w.heap.size w W := by rw [hW_]; exact ((Below.refl _ _).alloc (Nat.le_refl _) _).alloc (by simp) _
  have HW := Lib.hid hW_
  clear hW_ s_1
  have q0 : W.cell? ⟨(w.heap.size + 1), 0, none⟩ = some (.int .i64 (n : Int)) := b1.cell 0
  go_enter Try.func153, Try.ntmps153
  go_wp2_with fail
  rw [← HW.out]
  go_ret
  exact ⟨rfl, b0, b1, y0⟩

/-- What the caller's blocks hold ahead of chunk k. -/
def wtD (w : World) (p : Ck) (g6 : Nat) (ws : List Int) (k : Nat) (W : World) : Prop :=
  p.At W ∧ Blk W (w.heap.size + 1) 25 #[.slice none 0 0] ∧ Blk W (w.heap.size + 1 + 1) 2 #[.int .i64 0] ∧ Below w.heap.size w W ∧
  ∃ A6 c6, Blk W g6 25 #[.slice A6 k c6] ∧ Own W (w.heap.size + 1 + 1 + 1) 2 1 A6 k c6 (ints (ws.take k))
theorem wtD_put {w : World} {p : Ck} {g6 k b0 : Nat} {ws : List Int} (hb : w.heap.size ≤ b0) : PutOk b0 (wtD w p g6 ws k) := by
  rintro W l o o' ⟨⟨h1, h2⟩, h3, h4, h5, A6, c6, h6, h7⟩ hl hg ho
  exact ⟨⟨h1.putT o' hg ho, h2.putT o' hg ho⟩, h3.putT o' hg ho, h4.putT o' hg ho, below_putT h5 (by omega) o' hg, A6, c6, h6.putT o' hg ho, h7.putT o' hg ho⟩
theorem wtD_draw {w : World} {p : Ck} {g6 k : Nat} {ws : List Int} (W : World) (n : Nat) (h : wtD w p g6 ws k W) : wtD w p g6 ws k (W.drewN n) := by
  obtain ⟨⟨h1, h2⟩, h3, h4, h5, A6, c6, h6, h7⟩ := h
  exact ⟨⟨h1, h2⟩, h3, h4, below_drewN h5 n, A6, c6, h6, h7⟩
theorem codesL_window {n : Nat} {ws : List Int} {i : Nat} (hi : i < ws.length) : ((codesL n ws).drop (i * n)).take n = unitL n (ws[i]'hi).toNat := by
  rw [codesL_drop n i ws (by omega), List.drop_eq_getElem_cons hi, codesL_cons, List.take_append_of_le_length (by rw [unitL_len]; omega), List.take_of_length_le (by rw [unitL_len]; omega)]

theorem codes_cut {n i N : Nat} {A : Option Addr} {ws : List Int} {W : World} {b off : Nat} (h : SI W A N (codesL n ws)) (hi : i < ws.length) (hN : ws.length * n ≤ N) (hA : A = some ⟨b, off, none⟩) : SI W (some ⟨b, off + i * n, none⟩) n (unitL n (ws[i]'hi).toNat) := by
  have h1 : i * n + n ≤ N := by
    have := Nat.mul_le_mul_right n (show i + 1 ≤ ws.length from hi)
    rw [Nat.succ_mul] at this; omega
  have h2 := Rd.cut (i := i * n) (j := i * n + n) h (by omega) h1 (A' := some ⟨b, off + i * n, none⟩) (fun _ b' off' he => by rw [hA] at he; cases he; rfl)
  rw [show i * n + n - i * n = n from by omega] at h2
  have h3 : ((ints (codesL n ws)).take (i * n + n)).drop (i * n) = ints (unitL n (ws[i]'hi).toNat) := by
    rw [← codesL_window hi, List.drop_take, show i * n + n - i * n = n from by omega]
    simp [ints, List.map_take, List.map_drop]
  rwa [h3] at h2
/-- A new word and a code. -/
def NewWd (w : World) (xs : List Int) (k : Int) (e : Ending) (w' : World) : Prop :=
  ∃ A c, e = .returned (.tuple #[.slice A xs.length c, .int .i64 k]) ∧ Own w' w.heap.size 2 1 A xs.length c (ints xs) ∧ Below w.heap.size w w'

set_option maxRecDepth 100000 in
set_option maxHeartbeats 8000000 in
theorem wordOfTurn_codes (n : Nat) (A : Option Addr) (N c : Nat) (ws : List Int) (w : World) (hz : SI w A N (codesL n ws)) (hn : 1 ≤ n) (hN : N ≤ 1048576) (hc : N ≤ c) (hw : ∀ y ∈ ws, 0 ≤ y ∧ y < (n : Int)) :
    Calls Try.prog 99 #[.int .i64 (n : Int), .agg #[.int .i64 0, .slice A N c]] w (NewWd w ws 0) := by
  have hNl : N = ws.length * n := by have := hz.len; rw [codesL_len] at this; omega
  have HNL := Lib.hid hNl
  have HWS := Lib.hid hw
  have hrem : Int.tmod (N : Int) (n : Int) = 0 := by rw [hNl]; simp
  clear hNl hw
  obtain ⟨V, hW_⟩ : ∃ W, W = ((w.alloc (.cells #[.int .i64 0, .slice A N c] 30)).alloc (.cells #[.slice none 0 0] 25)).alloc (.cells #[.int .i64 0] 2) := ⟨_, rfl⟩
  have s_1 : (w.alloc (.cells #[.int .i64 0, .slice A N c] 30)).heap.size = w.heap.size + 1 := by simp
  have s_2 : ((w.alloc (.cells #[.int .i64 0, .slice A N c] 30)).alloc (.cells #[.slice none 0 0] 25)).heap.size = w.heap.size + 1 + 1 := by simp
  have b0 : Blk V w.heap.size 30 #[.int .i64 0, .slice A N c] := by rw [hW_]; exact ((Blk.new w _ _).alloc _).alloc _
  have b1 : Blk V (w.heap.size + 1) 25 #[.slice none 0 0] := by rw [hW_, ← s_1]; exact (Blk.new _ _ _).alloc _
  have b2 : Blk V (w.heap.size + 1 + 1) 2 #[.int .i64 0] := by rw [hW_, ← s_2]; exact Blk.new _ _ _
  have y0 : Below w.heap.size w V := by rw [hW_]; exact (((Below.refl _ _).alloc (Nat.le_refl _) _).alloc (by simp) _).alloc (by simp; omega) _
  have HV := Lib.hid hW_
  clear hW_ s_1 s_2
  have q0 : V.cell? ⟨w.heap.size, 0, none⟩ = some (.int .i64 0) := b0.cell 0
  have q1 : V.cell? ⟨w.heap.size, 1, none⟩ = some (.slice A N c) := b0.cell 1
  have u0 : V.cell? ⟨(w.heap.size + 1), 0, none⟩ = some (.slice none 0 0) := b1.cell 0
  have v0 : V.cell? ⟨(w.heap.size + 1 + 1), 0, none⟩ = some (.int .i64 0) := b2.cell 0
  have hz0 := hz.below y0
  refine (callsIn_wide (n := 3)).1 (callsIn_of_wp_marks Try.func99 rfl trivial (wpIn_wide.2 ?_) rfl)
  simp only [Try.ntmps99, List.size_toArray, List.length_cons, List.length_nil, Nat.reduceAdd, Nat.reduceSub, Array.replicate_succ, Array.replicate_zero, List.push_toArray, List.append_toArray, List.nil_append, List.cons_append]
  go_wp2_with fail
  rw [← HV.out]
  go_upto_region 5 with (go_at_call 104; refine (sizeI_any _ _ _ _ (by omega)).mono ?_; rintro e w' ⟨rfl, rfl⟩)
  clear q0 q1 u0 v0 hrem
  obtain ⟨W2, hW_⟩ : ∃ W, W = (V.alloc (.cells #[] 2)).alloc (.cells #[.slice (some ⟨V.heap.size, 0, none⟩) 0 0] 25) := ⟨_, rfl⟩
  have s_1 : (V.alloc (.cells #[] 2)).heap.size = V.heap.size + 1 := by simp
  have e0 : Blk W2 V.heap.size 2 #[] := by rw [hW_]; exact (Blk.new V _ _).alloc _
  have e1 : Blk W2 (V.heap.size + 1) 25 #[.slice (some ⟨V.heap.size, 0, none⟩) 0 0] := by rw [hW_, ← s_1]; exact Blk.new _ _ _
  have y1 : Below V.heap.size V W2 := by rw [hW_]; exact ((Below.refl _ _).alloc (Nat.le_refl _) _).alloc (by simp) _
  have HW2 := Lib.hid hW_
  clear hW_ s_1
  have b02 := b0.below' y1
  have q0 : W2.cell? ⟨w.heap.size, 0, none⟩ = some (.int .i64 0) := b02.cell 0
  have q1 : W2.cell? ⟨w.heap.size, 1, none⟩ = some (.slice A N c) := b02.cell 1
  go_upto_region 6 with fail
  rw [← HW2.out]
  go_wp2_with (go_at_call 153; refine (chunk_any A N c n W2 hn).mono ?_; rintro e W3 ⟨rfl, g1, g2, z3⟩)
  have hwV : w.heap.size + 1 + 1 < V.heap.size := b2.lt
  have z23 : Below V.heap.size V W3 := y1.trans (z3.mono y1.size)
  have z03 : Below w.heap.size w W3 := y0.trans (z23.mono y0.size)
  have hVW := z23.size
  have hVW2 := y1.size
  obtain ⟨b, off, hA⟩ : ∃ b off, ws.length ≠ 0 → A = some ⟨b, off, none⟩ := by
    by_cases h0 : ws.length = 0
    · exact ⟨0, 0, fun h => absurd h0 h⟩
    · have hN0 : 0 < N := by rw [HNL.out]; exact Nat.mul_pos (by omega) hn
      obtain ⟨b, off, h1, _⟩ := hz.at_ hN0
      exact ⟨b, off, fun _ => h1⟩
  have HA := Lib.hid hA
  clear hA
  have hok : (Ck.mk W2.heap.size (W2.heap.size + 1) A b off N c n ws.length).Ok := ⟨HNL.out, hn, hN, hc, HA.out⟩
  have HST : Hid (wtD w (Ck.mk W2.heap.size (W2.heap.size + 1) A b off N c n ws.length) (V.heap.size + 1) ws 0 W3) := Lib.hid ⟨⟨g1, g2⟩, b1.below' z23, b2.below' z23, z03, _, _, e1.below' z3, by
    have h1 : Own W3 V.heap.size 2 1 (some ⟨V.heap.size, 0, none⟩) 0 0 [] := ⟨rfl, .inr ⟨V.heap.size, 0, #[], rfl, Nat.le_refl _, e0.below' z3, Nat.le_refl _, by simp [maxLen], by simp, fun k hk => by simp at hk⟩⟩
    exact h1.mono hwV⟩
  have hseq := chunk1_seq _ hok (wtD w (Ck.mk W2.heap.size (W2.heap.size + 1) A b off N c n ws.length) (V.heap.size + 1) ws) (fun i W h => h.1) (fun i k W h => wtD_draw W k h) 2
  have hpb : w.heap.size ≤ W3.heap.size := z03.size
  have heW := e1.lt
  clear b0 b1 b2 y0 hz0 e0 e1 y1 b02 q0 q1 g1 g2 z3 hok z23 z03
  refine (wpIn_wide (n := 3)).1 (wpIn_rangeFunc_st rfl (by decide) (gf := 193) (lb := #[.pointer (some ⟨W2.heap.size, 0, none⟩), .pointer (some ⟨W2.heap.size + 1, 0, none⟩)]) rfl trivial (enters_of Try.func193 (by kernel_rfl) rfl) hseq (fun _ => rfl)
    (fun x W l o o' h h1 h2 h3 => ⟨h.1, wtD_put hpb W l o o' h.2 h1 h2 h3⟩) (fun x W l o o' h h1 h2 h3 => ⟨h.1, wtD_put hpb W l o o' h.2 h1 h2 h3⟩) (fun c x W l o o' h h1 h2 h3 => h) (wtD_put hpb) (fun c W l o o' h h1 h2 h3 => h)
    (fun r => ?start)
    ?a1 ?assign ?body ?done ?stop)
  case start =>
    have z5 : Below W3.heap.size W3 ((W3.alloc (.deferred (some []))).alloc (.loop r)) := ((Below.refl _ _).alloc (Nat.le_refl _) _).alloc (by simp) _
    obtain ⟨⟨h1, h2⟩, h3, h4, h5, A6, c6, h6, h7⟩ := HST.out
    exact ⟨⟨h1.below' z5, h2.below' z5⟩, h3.below' z5, h4.below' z5, h5.trans (z5.mono h5.size), A6, c6, h6.below' z5, h7.below z5⟩
  case assign =>
    intro l x W K hK
    gi_wp2
    exact hK
  case body =>
    rintro l i W hl ⟨hi, ⟨h1, h2⟩, h3, h4, h5, A6, c6, h6, h7⟩
    dsimp only at hi h1 h2
    have hy0 := HWS.out (ws[i]'hi) (List.getElem_mem hi)
    obtain ⟨x0, hx0⟩ : ∃ x0 : Nat, ws[i]'hi = (x0 : Int) := ⟨(ws[i]'hi).toNat, by omega⟩
    have hxn : x0 < n := by omega
    have hsl : SI W (some ⟨b, off + i * n, none⟩) n (unitL n x0) := by
      have h9 := codes_cut (hz.below h5) hi (by rw [← HNL.out]; exact Nat.le_refl _) (HA.out (by omega))
      rwa [hx0] at h9
    have hnN : n ≤ N := by
      rw [HNL.out]
      calc n = 1 * n := by simp
        _ ≤ ws.length * n := Nat.mul_le_mul_right n (by omega)
    have hmN : ws.length ≤ N := by
      rw [HNL.out]
      calc ws.length = ws.length * 1 := by simp
        _ ≤ ws.length * n := Nat.mul_le_mul_left _ hn
    have HI := Lib.hid (indexI_at (some ⟨b, off + i * n, none⟩) n n (unitL n x0) 1 x0 W hsl (by omega) (unit_index hxn).1 (unit_index hxn).2)
    have HC := Lib.hid (countOf_any (some ⟨b, off + i * n, none⟩) n n (unitL n x0) 1 W hsl (by omega))
    rw [unit_count hxn] at HC
    have htk : Hid (ints (ws.take (i + 1)) = ints (ws.take i) ++ [.int .i64 (x0 : Int)]) := Lib.hid (by
      rw [List.take_succ_eq_append_getElem hi, hx0]; simp [ints])
    clear hy0 hx0 hsl
    have c6' : W.cell? ⟨V.heap.size + 1, 0, none⟩ = some (.slice A6 i c6) := h6.cell 0
    have i0 : ¬ (x0 : Int) < 0 := by omega
    have hWl := h6.lt
    gi_wp2
    refine ⟨trivial, (CallsIn.inRound l (callsIn_wide.2 HI.out)).mono ?_⟩
    rintro e W7 ⟨rfl, rfl⟩
    gi_wp2
    refine ⟨trivial, (CallsIn.inRound l (callsIn_wide.2 HC.out)).mono ?_⟩
    rintro e W8 ⟨rfl, rfl⟩
    gi_wp2_with (gi_at_builtin; refine wpListIn_append_OwnT rfl (.tmp 33) (.tmp 35) rfl elI (lo := w.heap.size + 1 + 1 + 1) rfl (h7.alloc _) rfl (Rd.new1 _ _ _) (by simp [Value.oneCell']) (by omega) (by simp only [maxLen]; omega) (by simp; omega) ?_; intro A8 c8 w8 ho8 hg8; have b68 := (h6.alloc _).growt (h7.alloc _) hg8 (by decide); have c68 : w8.cell? ⟨V.heap.size + 1, 0, none⟩ = some (.slice A6 i c6) := b68.cell 0; have f68 := b68.frozen 0)
    have b18 := (h1.alloc _).growt (h7.alloc _) hg8 (by decide)
    have b28 := (h2.alloc _).growt (h7.alloc _) hg8 (by decide)
    have b38 := (h3.alloc _).growt (h7.alloc _) hg8 (by decide)
    have b48 := (hg8.block _ (h4.alloc _).lt (fun e => by have := h7.blk_ge _ e.symm; omega)).trans (h4.alloc _)
    have h58 := Own.below_of ((h7.mono (show w.heap.size ≤ w.heap.size + 1 + 1 + 1 by omega)).alloc _) (h5.alloc h5.size _) hg8 (by simp; omega)
    have hk8 := ((keeps_belowT ((Below.refl W.heap.size W).alloc (Nat.le_refl _) _)).trans ((h7.alloc _).keepsT hg8)).trans (KeepsOthers.setCell w8 ⟨V.heap.size + 1, 0, none⟩ (.slice A8 (i + 1) c8))
    refine ⟨hk8, hi, ⟨b18.far (show W2.heap.size ≠ V.heap.size + 1 by omega) _, b28.far (show W2.heap.size + 1 ≠ V.heap.size + 1 by omega) _⟩, b38.far (show w.heap.size + 1 ≠ V.heap.size + 1 by omega) _, Blk.far b48 (show w.heap.size + 1 + 1 ≠ V.heap.size + 1 by omega) _, h58.setCell (show w.heap.size ≤ V.heap.size + 1 by omega) _, A8, c8, b68.set_ 0 _, ?_⟩
    rw [htk.out]
    exact ho8.far (p := ⟨V.heap.size + 1, 0, none⟩) (b68.aptt ho8 (by decide)) _
  case done =>
    rintro D W hD ⟨⟨h1, h2⟩, h3, h4, h5, A6, c6, h6, h7⟩ hK
    dsimp only at h6 h7
    have c4 : W.cell? ⟨V.heap.size + 1, 0, none⟩ = some (.slice A6 ws.length c6) := h6.cell 0
    have c1 : W.cell? ⟨w.heap.size + 1, 0, none⟩ = some (.slice none 0 0) := h3.cell 0
    have c2 : W.cell? ⟨w.heap.size + 1 + 1, 0, none⟩ = some (.int .i64 0) := h4.cell 0
    have f1 := h3.frozen 0
    have f2 := h4.frozen 0
    go_wp2_with fail
    have d1 := (h3.set_ 0 (.slice A6 ws.length c6)).far (p := ⟨w.heap.size + 1 + 1, 0, none⟩) (show w.heap.size + 1 ≠ w.heap.size + 1 + 1 by omega) (.int .i64 0)
    have d2 := (h4.far (p := ⟨w.heap.size + 1, 0, none⟩) (show w.heap.size + 1 + 1 ≠ w.heap.size + 1 by omega) (.slice A6 ws.length c6)).set_ 0 (.int .i64 0)
    have do_ := ((h7.far (p := ⟨w.heap.size + 1, 0, none⟩) (fun e => by have := h7.blk_ge _ e; dsimp only at this; omega) (.slice A6 ws.length c6)).far (p := ⟨w.heap.size + 1 + 1, 0, none⟩) (fun e => by have := h7.blk_ge _ e; dsimp only at this; omega) (.int .i64 0)).mono (show w.heap.size ≤ w.heap.size + 1 + 1 + 1 by omega)
    have dz := (h5.setCell (p := ⟨w.heap.size + 1, 0, none⟩) (show w.heap.size ≤ w.heap.size + 1 by omega) (.slice A6 ws.length c6)).setCell (p := ⟨w.heap.size + 1 + 1, 0, none⟩) (show w.heap.size ≤ w.heap.size + 1 + 1 by omega) (.int .i64 0)
    have hK7 := ((KeepsOthers.setCell W ⟨w.heap.size + 1, 0, none⟩ (.slice A6 ws.length c6)).trans (KeepsOthers.setCell _ ⟨w.heap.size + 1 + 1, 0, none⟩ (.int .i64 0))).same D _ hK rfl
    generalize (W.setCell ⟨w.heap.size + 1, 0, none⟩ (.slice A6 ws.length c6)).setCell ⟨w.heap.size + 1 + 1, 0, none⟩ (.int .i64 0) = Wf at *
    have k1 : (Wf.putObj D (.deferred none)).cell? ⟨w.heap.size + 1, 0, none⟩ = some (.slice A6 ws.length c6) := (d1.putT (.deferred none) hK7 rfl).cell 0
    have k2 : (Wf.putObj D (.deferred none)).cell? ⟨w.heap.size + 1 + 1, 0, none⟩ = some (.int .i64 0) := (d2.putT (.deferred none) hK7 rfl).cell 0
    rw [List.take_of_length_le (Nat.le_refl _)] at do_
    refine ⟨by simp, .inl ⟨_, _, rfl, run_takeDeferred hK7, ?_⟩⟩
    exact ⟨.tuple #[.slice A6 ws.length c6, .int .i64 0], by simp [results, Try.results99, go_sem, k1, k2], A6, c6, rfl, do_.putT (.deferred none) hK7 rfl, below_putT dz (by omega) _ hK7⟩
  case stop =>
    rintro D c' W hD h
    exact h.elim
end Go.Proofs.Ythipbeggaeogcaa

/-
  A step of a cyclic tag system that runs.
-/
namespace Go.Proofs.Ythipbeggaeogcaa
open Go.RowKit

def StepXC (X : Nat → Prop) (w w0 : World) (g : Nat) (A : Option Addr) (n c : Nat) (a : Int) (ys : List Int) (e : Ending) (w' : World) : Prop :=
  ∃ Q r, e = .returned (.bool (decide (ys.length ≤ 1000))) ∧ CRun w' g A n c a Q ys.length r ∧ Own w' w0.heap.size 2 1 Q ys.length r (ints ys) ∧ (∀ b, blk Q = some b → ¬ X b) ∧ Below w0.heap.size w0 w' ∧ Fr X w w'
theorem CRun.apt {w : World} {g : Nat} {A : Option Addr} {n c : Nat} {a : Int} {Q : Option Addr} {l r : Nat} (h : CRun w g A n c a Q l r) {lo s n' c' : Nat} {B : Option Addr} {cs : List Value} (ho : Own w lo 2 s B n' c' cs) : blk B ≠ some g := Blk.aptt h ho (by decide)

theorem CRun.cells {w : World} {g : Nat} {A : Option Addr} {n c : Nat} {a : Int} {Q : Option Addr} {l r : Nat} (h : CRun w g A n c a Q l r) : w.cell? ⟨g, 0, none⟩ = some (.slice A n c) ∧ w.cell? ⟨g, 1, none⟩ = some (.int .i64 a) ∧ w.cell? ⟨g, 2, none⟩ = some (.slice Q l r) := ⟨h.cell 0, h.cell 1, h.cell 2⟩
theorem CRun.set2 {w : World} {g : Nat} {A : Option Addr} {n c : Nat} {a : Int} {Q : Option Addr} {l r : Nat} (h : CRun w g A n c a Q l r) (Q' : Option Addr) (l' r' : Nat) : CRun (w.setCell ⟨g, 2, none⟩ (.slice Q' l' r')) g A n c a Q' l' r' := Blk.set_ h 2 (.slice Q' l' r')
theorem CRun.set1 {w : World} {g : Nat} {A : Option Addr} {n c : Nat} {a : Int} {Q : Option Addr} {l r : Nat} (h : CRun w g A n c a Q l r) (a' : Int) : CRun (w.setCell ⟨g, 1, none⟩ (.int .i64 a')) g A n c a' Q l r := Blk.set_ h 1 (.int .i64 a')
theorem CRun.grown {w w2 : World} {g : Nat} {A : Option Addr} {n c : Nat} {a : Int} {Q : Option Addr} {l r : Nat} (h : CRun w g A n c a Q l r) {row : Option Nat} (hg : w.grownBy w2 row) (hr : row ≠ some g) : CRun w2 g A n c a Q l r := (hg.block g h.lt (Ne.symm hr)).trans h

set_option maxRecDepth 100000 in
set_option maxHeartbeats 4000000 in
theorem cyclicStep_x (X : Nat → Prop) (w0 : World) (g : Nat) (A : Option Addr) (n c : Nat) (ts : List Sl) (a : Nat) (Q : Option Addr) (l r : Nat) (xs : List Int) (t : Sl) (w : World) (hx : SII w0 A n ts) (hb0 : Below w0.heap.size w0 w) (hg : w0.heap.size ≤ g)
    (hr : CRun w g A n c (a : Int) Q l r) (hQ : Own w w0.heap.size 2 1 Q l r (ints xs)) (hXg : Hid (¬ X g)) (hXQ : Hid (∀ b, blk Q = some b → ¬ X b)) (hXt : Hid (∀ b, X b → b < w.heap.size)) (hl0 : 0 < l) (hl : l ≤ 1048576) (hn : n ≤ 1048576) (ha : a < n) (hT : Hid (ts[a]? = some t)) (htl : t.xs.length ≤ 1048576) :
    Calls Try.prog 98 #[.pointer (some ⟨g, 0, none⟩)] w (StepXC X w w0 g A n c (((a : Int) + 1).tmod n) (xs.tail ++ if xs.headD 0 = 1 then t.xs else [])) := by
  have k0 : w.cell? ⟨g, 0, none⟩ = some (.slice A n c) := hr.cell 0
  have k1 : w.cell? ⟨g, 1, none⟩ = some (.int .i64 (a : Int)) := hr.cell 1
  have k2 : w.cell? ⟨g, 2, none⟩ = some (.slice Q l r) := hr.cell 2
  have f2 := hr.frozen 2
  have hapt := Lib.hid (hr.apt hQ)
  obtain ⟨b, off, rfl, hbl, hc⟩ := SI.at0 (xs := xs) hQ.rd hl0
  have HXL : Hid (xs.length = l) := by have := hQ.1; rw [length_ints] at this; show _ = _; omega
  have i3 : (0 : Int) < (l : Int) := by omega
  have hcap := hQ.le
  obtain ⟨x0, ex0⟩ : ∃ x, x = xs.headD 0 := ⟨_, rfl⟩
  rw [← ex0] at hc ⊢
  have EX0 := Lib.hid ex0
  have ho1 := hQ.from_ (k := 1) hl0
  rw [ints_drop] at ho1
  have e1 : (xs.drop 1).length = l - 1 := by rw [List.length_drop, HXL.out]
  have E1 := Lib.hid e1
  clear e1 ex0
  obtain ⟨ys, eys⟩ : ∃ ys, ys = xs.tail ++ (if x0 = 1 then t.xs else []) := ⟨_, rfl⟩
  obtain ⟨a', ea⟩ : ∃ a', a' = ((a : Int) + 1) % n := ⟨_, rfl⟩
  rw [← eys, Int.tmod_eq_emod_of_nonneg (by omega), ← ea]
  have EYS := Lib.hid eys
  have EA := Lib.hid ea
  clear eys ea
  go_enter Try.func98, Try.ntmps98
  go_upto_region 2 with fail
  go_cut [2, 3] (fun s2 s3 wx => s2 = .bool false ∧ s3 = .int .i64 x0 ∧ ∃ Q1 r1, CRun wx g A n c (a : Int) Q1 (l - 1) r1 ∧ Own wx w0.heap.size 2 1 Q1 (l - 1) r1 (ints (xs.drop 1)) ∧ Hid (∀ b, blk Q1 = some b → ¬ X b) ∧ Below w0.heap.size w0 wx ∧ Fr X w wx)
  case first =>
    go_wp2_with fail
    all_goals
      go_meet
      first | rw [if_pos (by assumption)] at ho1 | rw [if_neg (by assumption)] at ho1
      try simp only [Option.map_some, add_lit] at ho1
      try rw [show r - 1 = 0 by omega] at ho1
      refine ⟨rfl, rfl, _, _, hr.set2 _ _ _, ho1.far (p := ⟨g, 2, none⟩) (by simpa [blk] using hapt.out) _, ?_, hb0.setCell (p := ⟨g, 2, none⟩) hg _, (Fr.refl X w).set_ (p := ⟨g, 2, none⟩) hXg.out _⟩
      show ∀ b2, blk _ = some b2 → ¬ X b2
      intro b2 hb2
      exact hXQ.out b2 (by simpa [blk] using hb2)
  case rest =>
    obtain ⟨rfl, rfl, Q1, r1, hr1, ho1, hX1, hb1, hf1⟩ := hcut
    clear k0 k1 k2 f2 hc
    by_cases hone : x0 = 1
    · subst hone
      obtain ⟨t', b', off', hT', htm, rfl, hbl', hc', hrow⟩ := (hx.below hb1).pick ha
      obtain rfl : t = t' := by have h1 := hT.out; have h2 := hT'.out; rw [h1] at h2; simpa using h2
      clear hT'
      have j1 : (0 : Int) ≤ (a : Int) := by omega
      have j2 : (a : Int) < (n : Int) := by omega
      obtain ⟨k0, k1, k2⟩ := hr1.cells
      have HG := Lib.hid (hr1.apt ho1)
      go_upto_region 4 with fail
      go_cut [2] (fun s2 wy => s2 = .bool false ∧ ∃ A2 c2, CRun wy g (some ⟨b', off', none⟩) n c (a : Int) A2 (l - 1 + t.xs.length) c2 ∧ Own wy w0.heap.size 2 1 A2 (l - 1 + t.xs.length) c2 (ints (xs.drop 1 ++ t.xs)) ∧ Hid (∀ b, blk A2 = some b → ¬ X b) ∧ Below w0.heap.size w0 wy ∧ Fr X w wy)
      case first =>
        go_region_law
          ((refine step_append_Own rfl (.tmp 24) (.tmp 35) rfl elI (lo := w0.heap.size) rfl (by exact ho1.drewN _) rfl (by exact hrow.drewN _) (ints_one t.xs) (by omega) (by simp only [maxLen]; omega) (by exact hb1.size) ?_; intro A2 c2 w2 ho2 hg2 hwh2
            have hr2 : CRun w2 g (some ⟨b', off', none⟩) n c (a : Int) Q1 (l - 1) r1 := CRun.grown (w := wc.drewN 1) hr1 hg2 HG.out
            have e3 : w2.cell? ⟨g, 2, none⟩ = some (.slice Q1 (l - 1) r1) := hr2.cell 2
            have f3 := hr2.frozen 2))
        all_goals
          go_wp2_with fail
          go_meet
          refine ⟨rfl, A2, c2, hr2.set2 A2 (l - 1 + t.xs.length) c2, ?_, ?_, ?_, ?_⟩
          · rw [← ints_append]
            exact ho2.far (p := ⟨g, 2, none⟩) (hr2.apt ho2) _
          · show ∀ b2, blk A2 = some b2 → ¬ X b2
            intro b2 hb2 hX2
            rcases hwh2.1 with h | h
            · rw [h] at hb2; exact hX1.out b2 hb2 hX2
            · rw [h] at hb2
              have h9 := hXt.out b2 hX2
              have h8 := hf1.size
              simp at hb2
              omega
          · have hb2 : Below w0.heap.size w0 w2 := (ho1.drewN 1).below_of (below_drewN hb1 1) hg2 hb1.size
            exact hb2.setCell (p := ⟨g, 2, none⟩) hg _
          · exact (((hf1.drewN 1).grown hg2 hX1.out)).set_ (p := ⟨g, 2, none⟩) hXg.out _
      case rest =>
        obtain ⟨rfl, Q5, r5, hr5, ho5, hX5, hb5, hf5⟩ := hcut
        clear k0 k1 k2
        obtain ⟨l5, el5⟩ : ∃ l5, l5 = l - 1 + t.xs.length := ⟨_, rfl⟩
        rw [← el5] at hr5 ho5
        have HYS : Hid (ys = xs.drop 1 ++ t.xs) := Lib.hid (by rw [EYS.out]; simp)
        have hxl := HXL.out
        obtain ⟨kk0, kk1, kk2⟩ := hr5.cells
        have ff1 := hr5.frozen 1
        go_upto_region 5 with fail
        go_cut [2] (fun s2 wz => s2 = .bool false ∧ CRun wz g (some ⟨b', off', none⟩) n c a' Q5 l5 r5 ∧ Own wz w0.heap.size 2 1 Q5 l5 r5 (ints (xs.drop 1 ++ t.xs)) ∧ Below w0.heap.size w0 wz ∧ Fr X w wz)
        case first =>
          go_region_with (go_at_call 96; refine (sizeII_any _ _ _ _ (by omega)).mono ?_; rintro e w' ⟨rfl, rfl⟩)
          all_goals
            go_wp2_with fail
            go_meet
            rw [EA.out]
            exact ⟨rfl, hr5.set1 _, ho5.far (p := ⟨g, 1, none⟩) (hr5.apt ho5) _, (hb5.setCell (p := ⟨g, 1, none⟩) hg _).drew, (hf5.set_ (p := ⟨g, 1, none⟩) hXg.out _).drewN 1⟩
        case rest =>
          obtain ⟨rfl, hr6, ho6, hb6, hf6⟩ := hcut
          obtain ⟨m0, m1, m2⟩ := hr6.cells
          clear kk0 kk1 kk2
          have HYL : Hid (ys.length = l5) := Lib.hid (by rw [HYS.out]; simp; omega)
          go_wp2_with fail
          go_ret
          refine ⟨Q5, r5, ret_bool (by rw [HYL.out, decide_eq_decide]; omega), ?_, ?_, hX5.out, hb6, hf6⟩
          · rw [HYL.out]; exact hr6
          · rw [HYL.out, HYS.out]; exact ho6
    · have hne : (x0 == 1) = false := by simpa using hone
      obtain ⟨l5, el5⟩ : ∃ l5, l5 = l - 1 := ⟨_, rfl⟩
      rw [← el5] at hr1 ho1
      have HYS : Hid (ys = xs.drop 1) := Lib.hid (by rw [EYS.out, if_neg hone]; simp)
      have hxl := HXL.out
      obtain ⟨kk0, kk1, kk2⟩ := hr1.cells
      have ff1 := hr1.frozen 1
      go_upto_region 5 with fail
      go_cut [2] (fun s2 wz => s2 = .bool false ∧ CRun wz g A n c a' Q1 l5 r1 ∧ Own wz w0.heap.size 2 1 Q1 l5 r1 (ints (xs.drop 1)) ∧ Below w0.heap.size w0 wz ∧ Fr X w wz)
      case first =>
        go_region_with (go_at_call 96; refine (sizeII_any _ _ _ _ (by omega)).mono ?_; rintro e w' ⟨rfl, rfl⟩)
        all_goals
          go_wp2_with fail
          go_meet
          rw [EA.out]
          exact ⟨rfl, hr1.set1 _, ho1.far (p := ⟨g, 1, none⟩) (hr1.apt ho1) _, (hb1.setCell (p := ⟨g, 1, none⟩) hg _).drew, (hf1.set_ (p := ⟨g, 1, none⟩) hXg.out _).drewN 1⟩
      case rest =>
        obtain ⟨rfl, hr6, ho6, hb6, hf6⟩ := hcut
        obtain ⟨m0, m1, m2⟩ := hr6.cells
        clear kk0 kk1 kk2
        have HYL : Hid (ys.length = l5) := Lib.hid (by rw [HYS.out]; simp; omega)
        go_wp2_with fail
        go_ret
        refine ⟨Q1, r1, ret_bool (by rw [HYL.out, decide_eq_decide]; omega), ?_, ?_, hX1.out, hb6, hf6⟩
        · rw [HYL.out]; exact hr6
        · rw [HYL.out, HYS.out]; exact ho6
end Go.Proofs.Ythipbeggaeogcaa

/-
  A cyclic tag system that runs, and runSystem over it.
-/
namespace Go.Proofs.Ythipbeggaeogcaa
open Go.RowKit

/-- The cyclic tag system that runs, as the contract speaks of it. -/
structure Cg where
  w0 : World
  g : Nat
  A : Option Addr
  n : Nat
  c : Nat
  ts : List Sl
  x : Tu
structure Cg.Ok (p : Cg) : Prop where
  code : validTurnB (nums p.ts) p.x = true
  words : SII p.w0 p.A p.n p.ts
  hg : p.w0.heap.size ≤ p.g
  hn : p.n ≤ 1048576
abbrev Cg.sys (p : Cg) : Sys Tu := cycSys (nums p.ts)
abbrev Cg.it (p : Cg) (i : Nat) : Tu := p.sys.it p.x i
structure CgO (p : Cg) (i : Nat) (Q : Option Addr) (r : Nat) (X : Nat → Prop) (W : World) : Prop where
  ng : ¬ X p.g
  lt : ∀ b, X b → b < W.heap.size
  run : CRun W p.g p.A p.n p.c (p.it i).at_ Q (p.it i).word.length r
  own : Own W p.w0.heap.size 2 1 Q (p.it i).word.length r (ints (p.it i).word)
  nq : ∀ b, blk Q = some b → ¬ X b
  low : Below p.w0.heap.size p.w0 W
def CgV (p : Cg) (i : Nat) (D : (Nat → Prop) → World → Prop) (u : Value) (W : World) : Prop := ∃ Q r X, u = .slice Q (p.it i).word.length r ∧ CgO p i Q r X W ∧ D X W
def CgS (p : Cg) (i : Nat) (D : (Nat → Prop) → World → Prop) (W : World) : Prop := ∃ u, CgV p i D u W
theorem cycAlive_parts {p : Cg} (hp : p.Ok) {i : Nat} (hal : p.sys.Alive p.x i) : 1 ≤ p.n ∧ p.n ≤ 400 ∧ (∀ v ∈ nums p.ts, v.length ≤ 1000) ∧ 0 ≤ (p.it i).at_ ∧ (p.it i).at_ < p.n ∧ (p.it i).word.length ≤ 1000 := by
  have hl : (nums p.ts).length = p.n := by have := hp.words.len; simpa [nums] using this
  obtain ⟨h1, h2, h3, h4, h5, h6, _⟩ := validTurn_parts (cycAlive_good hp.code hal)
  rw [hl] at h1 h2 h5
  exact ⟨h1, h2, h3, h4, h5, h6⟩
theorem cycStep_g {p : Cg} {i r : Nat} {Q : Option Addr} {X : Nat → Prop} {W : World} (hp : p.Ok) (hal : p.sys.Alive p.x i) (hh : p.sys.halt (p.it i) = false) (h : CgO p i Q r X W) :
    Calls Try.prog 98 #[.pointer (some ⟨p.g, 0, none⟩)] W fun e W' => e = .returned (.bool (p.sys.room (p.it i))) ∧ (∃ Q' r', CgO p (i + 1) Q' r' X W') ∧ Fr X W W' := by
  obtain ⟨v1, v2, v3, v4, v5, v6⟩ := cycAlive_parts hp hal
  have hl0 : 0 < (p.it i).word.length := by have : ¬ (p.it i).word.length = 0 := by simpa [cycSys] using hh
                                            omega
  obtain ⟨a, ha⟩ : ∃ a : Nat, (p.it i).at_ = (a : Int) := ⟨(p.it i).at_.toNat, by omega⟩
  have hlt : a < p.ts.length := by have := hp.words.len; omega
  have hT : p.ts[a]? = some p.ts[a] := List.getElem?_eq_getElem hlt
  have htl : p.ts[a].xs.length ≤ 1000 := v3 _ (List.mem_map.2 ⟨p.ts[a], List.getElem_mem hlt, rfl⟩)
  have hlen : ((nums p.ts).length : Int) = p.n := by have := hp.words.len; simp [nums]; omega
  have hnx : p.it (i + 1) = ⟨((a : Int) + 1).tmod p.n, (p.it i).word.tail ++ if (p.it i).word.headD 0 = 1 then p.ts[a].xs else []⟩ := by
    show cycNext (nums p.ts) (p.it i) = _
    unfold cycNext cycWord
    rw [ha, hlen, Int.toNat_natCast]
    have hg : (nums p.ts).getD a [] = p.ts[a].xs := by simp [nums, hT]
    rw [hg]
  have hr := h.run
  rw [ha] at hr
  refine (cyclicStep_x X p.w0 p.g p.A p.n p.c p.ts a Q _ r (p.it i).word p.ts[a] W hp.words h.low hp.hg hr h.own (Lib.hid h.ng) (Lib.hid h.nq) (Lib.hid h.lt) hl0 (by omega) hp.hn (by omega) (Lib.hid hT) (by omega)).mono ?_
  rintro e W' ⟨Q', r', rfl, hr', ho', hn', hb', hf'⟩
  refine ⟨ret_bool ?_, ⟨Q', r', h.ng, fun b hb => by have := h.lt b hb; have := hf'.size; omega, ?_, ?_, hn', hb'⟩, hf'⟩
  · show _ = decide ((p.it (i + 1)).word.length ≤ 1000)
    rw [hnx]
  · rw [hnx]; exact hr'
  · rw [hnx]; exact ho'

theorem cycM_word (g : Nat) (w : World) : (method 386 107 (.pointer (some ⟨g, 0, none⟩)) "loop.example/g01079/impl.word").run Try.prog w = .ok (245, .pointer (some ⟨g, 0, none⟩)) w := by kernel_rfl
theorem cycM_halts (g : Nat) (w : World) : (method 386 107 (.pointer (some ⟨g, 0, none⟩)) "loop.example/g01079/impl.halts").run Try.prog w = .ok (97, .pointer (some ⟨g, 0, none⟩)) w := by kernel_rfl
theorem cycM_step (g : Nat) (w : World) : (method 386 107 (.pointer (some ⟨g, 0, none⟩)) "loop.example/g01079/impl.step").run Try.prog w = .ok (98, .pointer (some ⟨g, 0, none⟩)) w := by kernel_rfl

theorem runCycSys (p : Cg) (hp : p.Ok) (N : Nat) (fv : FuncId) (lb : Array Value) (vis : Nat → Bool) (D : Nat → (Nat → Prop) → World → Prop) (hD : ∀ i, FrD (D i)) (w : World) (hN : N ≤ 1000000)
    (hcall : ∀ (args : Array Value) (w : World), (callFunc fv args).run Try.prog w = .ok (.enter fv args) w)
    (hB : ∀ i u W, i ≤ N → p.sys.Alive p.x i → CgV p i (D i) u W → Calls Try.prog fv (#[u] ++ lb) W fun e W' => e = .returned (.bool (vis i)) ∧ CgS p i (D (i + 1)) W') (h0 : CgS p 0 (D 0) w) :
    Calls Try.prog 79 #[.iface 107 (.pointer (some ⟨p.g, 0, none⟩)), .int .i64 (N : Int), .func (.func fv) #[] lb] w (SysP p.sys p.x N vis (fun i W => CgS p i (D (i + 1)) W) (fun W => Below p.w0.heap.size p.w0 W)) := by
  refine runSystem_any p.sys p.x N _ _ _ _ _ fv lb vis (fun i W => CgS p i (D i) W) (fun i u W => CgV p i (D i) u W) _ _ w hN (cycM_word p.g) (cycM_halts p.g) (cycM_step p.g) Try.call245 Try.call97 Try.call98 hcall ?_ hB ?_ ?_ h0
  · rintro i W _ _ ⟨u, Q, r, X, rfl, ho, hd⟩
    exact (cyclicWord_any ho.run).mono fun e W' ⟨he, hW⟩ => ⟨_, he, Q, r, X, rfl, hW ▸ ho, hW ▸ hd⟩
  · rintro i W _ hal ⟨u, Q, r, X, rfl, ho, hd⟩
    refine (cyclicHalts_any ho.run).mono ?_
    rintro e W' ⟨he, rfl⟩
    exact ⟨he, _, Q, r, X, rfl, ho, hd⟩
  · rintro i W _ hal hh ⟨u, Q, r, X, rfl, ho, hd⟩
    refine (cycStep_g hp hal hh ho).mono ?_
    rintro e W' ⟨he, ⟨Q', r', ho'⟩, hf⟩
    exact ⟨he, fun _ => ⟨_, Q', r', X, rfl, ho', hD _ X W _ hd hf⟩, fun _ => ho'.low⟩

theorem CgO.turn {p : Cg} {i r : Nat} {Q : Option Addr} {X Y : Nat → Prop} {W W' : World} (h : CgO p i Q r X W) (k : Keep Y W W') (hY : ∀ b, Y b → X b ∧ p.w0.heap.size ≤ b) : CgO p i Q r (XGrow X W.heap.size W'.heap.size) W' := by
  have hg : p.g < W.heap.size := h.run.lt
  refine ⟨?_, ?_, ?_, ?_, ?_, ?_⟩
  · rintro (h1 | ⟨h1, _⟩)
    · exact h.ng h1
    · omega
  · rintro b (h1 | ⟨_, h1⟩)
    · have := h.lt b h1; have := k.size; omega
    · exact h1
  · exact (k.block p.g hg (fun hy => h.ng (hY _ hy).1)).trans h.run
  · exact h.own.kept fun b hb _ hlt => k.block b hlt (fun hy => h.nq b hb (hY b hy).1)
  · rintro b hb (h1 | ⟨h1, _⟩)
    · exact h.nq b hb h1
    · have := h.own.blk_lt b hb; omega
  · exact ⟨k.os.trans h.low.os, k.tape.trans h.low.tape, k.output.trans h.low.output, Nat.le_trans h.low.size k.size, fun b hb => (k.block b (by have := h.low.size; omega) (fun hy => by have := (hY b hy).2; omega)).trans (h.low.block b hb)⟩
end Go.Proofs.Ythipbeggaeogcaa

/-
  Contract of impl.RunCyclicTag.
-/
namespace Go.Proofs.Ythipbeggaeogcaa
open Go.RowKit

/-- A new word, a number and a code. -/
def NewWd3 (w : World) (r : List Int × Int × Int) (e : Ending) (w' : World) : Prop :=
  ∃ A c, e = .returned (.tuple #[.slice A r.1.length c, .int .i64 r.2.1, .int .i64 r.2.2]) ∧ Own w' w.heap.size 2 1 A r.1.length c (ints r.1) ∧ Below w.heap.size w w'
theorem wd3_nil {w wf : World} {k : Int} {r : List Int × Int × Int} (hr : r = ([], 0, k)) (hz : Below w.heap.size w wf) : NewWd3 w r (.returned (.tuple #[.slice none 0 0, .int .i64 0, .int .i64 k])) wf := by
  subst hr; exact ⟨none, 0, rfl, Own.nil, hz⟩

set_option maxRecDepth 100000 in
set_option maxHeartbeats 8000000 in
theorem rctI_any (d : Int) (A : Option Addr) (n c : Nat) (ts : List Sl) (B : Option Addr) (m k : Nat) (hs : List Int) (C : Option Addr) (l r : Nat) (xs : List Int) (steps : Int) (w : World) (hx : SII w A n ts) (hy : SI w B m hs) (hz : SI w C l xs) (hn : n ≤ 1048576) (hm : m ≤ 1048576) (hns : ∀ t ∈ ts, t.xs.length ≤ 1048576) (hl : l ≤ 1048576) :
    Calls Try.prog 34 #[.agg #[.int .i64 d, .slice A n c, .slice B m k], .slice C l r, .int .i64 steps] w (NewWd3 w (rctF d (nums ts) hs xs steps)) := by
  have HLN : Hid ((nums ts).length = n) := Lib.hid (by have := hx.len; simpa [nums] using this)
  have HXL := Lib.hid hz.len
  have HNS := Lib.hid hns
  clear hns
  obtain ⟨W, hW_⟩ : ∃ W, W = w.alloc (.cells #[.int .i64 d, .slice A n c, .slice B m k] 51) := ⟨_, rfl⟩
  have b0 : Blk W w.heap.size 51 #[.int .i64 d, .slice A n c, .slice B m k] := by rw [hW_]; exact Blk.new w _ _
  have y0 : Below w.heap.size w W := by rw [hW_]; exact (Below.refl _ _).alloc (Nat.le_refl _) _
  have HW := Lib.hid hW_
  clear hW_
  have q0 : W.cell? ⟨w.heap.size, 0, none⟩ = some (.int .i64 d) := b0.cell 0
  have q1 : W.cell? ⟨w.heap.size, 1, none⟩ = some (.slice A n c) := b0.cell 1
  have q2 : W.cell? ⟨w.heap.size, 2, none⟩ = some (.slice B m k) := b0.cell 2
  go_enter Try.func34, Try.ntmps34
  go_wp2_with fail
  rw [← HW.out]
  refine (tagCode_any _ _ _ _ ts _ _ _ hs _ _ _ xs _ (hx.below y0) (hy.below y0) (hz.below y0) hn hm hl (fun t ht => by have := HNS.out t ht; omega)).mono ?_
  rintro e w2 ⟨rfl, z2⟩
  have y2 := y0.trans (z2.mono y0.size)
  have c0 := b0.below' z2
  clear q0 q1 q2 b0
  have q0 : w2.cell? ⟨w.heap.size, 0, none⟩ = some (.int .i64 d) := c0.cell 0
  have q1 : w2.cell? ⟨w.heap.size, 1, none⟩ = some (.slice A n c) := c0.cell 1
  have q2 : w2.cell? ⟨w.heap.size, 2, none⟩ = some (.slice B m k) := c0.cell 2
  rcases tagCode_01 d (nums ts) hs xs with hcode | hcode
  rotate_left
  · have HF := Lib.hid (rctF_bad (steps := steps) hcode)
    rw [hcode]
    clear hcode
    go_wp2_with fail
    exact bodyPost_ret (v := .tuple #[.slice none 0 0, .int .i64 0, .int .i64 1]) (by simp [results, Try.results34, go_sem]) rfl (wd3_nil HF.out y2)
  have HCODE := Lib.hid hcode
  rw [hcode]
  clear hcode
  cases a2 : inB steps 0 60
  · have HF := Lib.hid (rctF_range HCODE.out a2)
    have A2 := Lib.hid a2
    clear a2
    go_wp2_with (go_at_call 85; refine (within_is A2.out _).mono ?_; rintro e w' ⟨rfl, rfl⟩)
    exact bodyPost_ret (v := .tuple #[.slice none 0 0, .int .i64 0, .int .i64 2]) (by simp [results, Try.results34, go_sem]) rfl (wd3_nil HF.out y2)
  have A2 := Lib.hid a2
  have hb := (inB_iff _ _ _).1 a2
  obtain ⟨S, rfl⟩ : ∃ S : Nat, steps = (S : Int) := ⟨steps.toNat, by omega⟩
  obtain ⟨v1, v2, v3, v4, v5, v6, v7, v8⟩ := tagCode_parts HCODE.out
  obtain ⟨dn, rfl⟩ : ∃ dn : Nat, d = (dn : Int) := ⟨d.toNat, by omega⟩
  clear a2
  go_wp2_with (go_at_call 85; refine (within_is A2.out _).mono ?_; rintro e w' ⟨rfl, rfl⟩)
  refine (turnOfWord_any _ _ _ _ ts _ _ _ hs _ _ _ xs _ (hx.below y2) (hy.below y2) (hz.below y2) hn hm hl HNS.out).mono ?_
  rintro e w3 ⟨A3, c3, rfl, o3, z3⟩
  have y3 := y2.trans (z3.mono y2.size)
  cases hfit : (cycFitsB dn (nums ts) && decide (xs.length * (nums ts).length ≤ 1000))
  · have HF := Lib.hid (rctF_fits HCODE.out A2.out hfit)
    rw [turnOfWordF_at HCODE.out, hfit] at o3 ⊢
    clear hfit
    rw [if_neg (by decide)] at o3 ⊢
    dsimp only [List.length_nil]
    obtain ⟨w4, hW_⟩ : ∃ W_, W_ = w3.alloc (.cells #[.int .i64 0, .slice A3 0 c3] 30) := ⟨_, rfl⟩
    have b4 : Blk w4 w3.heap.size 30 #[.int .i64 0, .slice A3 0 c3] := by rw [hW_]; exact Blk.new w3 _ _
    have z4 : Below w3.heap.size w3 w4 := by rw [hW_]; exact (Below.refl _ _).alloc (Nat.le_refl _) _
    have Hw4 := Lib.hid hW_
    clear hW_
    have y4 := y3.trans (z4.mono y3.size)
    go_upto_region 7 with fail
    rw [← Hw4.out]
    go_wp2_with fail
    exact bodyPost_ret (v := .tuple #[.slice none 0 0, .int .i64 0, .int .i64 5]) (by simp [results, Try.results34, go_sem]) rfl (wd3_nil HF.out y4)
  have HFIT := Lib.hid hfit
  rw [turnOfWordF_at HCODE.out, hfit] at o3 ⊢
  clear hfit
  rw [if_pos rfl] at o3 ⊢
  dsimp only at o3 ⊢
  rw [HLN.out] at o3 v5 v6 v7 ⊢
  obtain ⟨M, hM⟩ : ∃ M, M = (codesL n xs).length := ⟨_, rfl⟩
  have hM1 : M ≤ 1000 := by
    rw [hM, codesL_len]
    have := HFIT.out
    simp only [Bool.and_eq_true, decide_eq_true_eq] at this
    rw [HLN.out] at this
    exact this.2
  rw [← hM] at o3 ⊢
  have HM := Lib.hid hM
  have V3 := Lib.hid v3
  have V5 := Lib.hid v5
  have V8 := Lib.hid v8
  have hs23 := z3.size
  have hwl2 := y2.size
  clear hM v3 v5 v8
  obtain ⟨w4, hW_⟩ : ∃ W_, W_ = w3.alloc (.cells #[.int .i64 0, .slice A3 M c3] 30) := ⟨_, rfl⟩
  have b4 : Blk w4 w3.heap.size 30 #[.int .i64 0, .slice A3 M c3] := by rw [hW_]; exact Blk.new w3 _ _
  have z4 : Below w3.heap.size w3 w4 := by rw [hW_]; exact (Below.refl _ _).alloc (Nat.le_refl _) _
  have Hw4 := Lib.hid hW_
  clear hW_
  have y4 := y3.trans (z4.mono y3.size)
  have o4 := o3.below z4
  have c04 := (c0.below' z3).below' z4
  clear q0 q1 q2
  have q0 : w4.cell? ⟨w.heap.size, 0, none⟩ = some (.int .i64 (dn : Int)) := c04.cell 0
  have q1 : w4.cell? ⟨w.heap.size, 1, none⟩ = some (.slice A n c) := c04.cell 1
  have q2 : w4.cell? ⟨w.heap.size, 2, none⟩ = some (.slice B m k) := c04.cell 2
  go_upto_region 9 with fail
  rw [← Hw4.out]
  have HTS := Lib.hid (tagSteps_any _ A n c ts B m k hs C l r xs S w4 (hx.below y4) (hy.below y4) (hz.below y4) hn hm hl HCODE.out (by omega))
  go_wp2_with fail
  refine HTS.out.mono ?_
  rintro e w5 ⟨rfl, z5⟩
  have y5 := y4.trans (z5.mono y4.size)
  have z45 := z4.trans (z5.mono z4.size)
  clear HTS
  by_cases hcd : (tagSys (dn : Int) (nums ts) hs).code S xs = 0
  rotate_left
  · have HF := Lib.hid (rctF_code HCODE.out A2.out HFIT.out hcd)
    rw [Int.toNat_natCast] at HF
    generalize (tagSys (dn : Int) (nums ts) hs).code S xs = cd at *
    clear q0 q1 q2
    go_wp2_with fail
    exact bodyPost_ret (v := .tuple #[.slice none 0 0, .int .i64 0, .int .i64 cd]) (by simp [results, Try.results34, go_sem]) rfl (wd3_nil HF.out y5)
  rw [hcd]
  have HCD := Lib.hid hcd
  clear hcd
  have c05 := c04.below' z5
  clear q0 q1 q2
  have q0 : w5.cell? ⟨w.heap.size, 0, none⟩ = some (.int .i64 (dn : Int)) := c05.cell 0
  have q1 : w5.cell? ⟨w.heap.size, 1, none⟩ = some (.slice A n c) := c05.cell 1
  have q2 : w5.cell? ⟨w.heap.size, 2, none⟩ = some (.slice B m k) := c05.cell 2
  have HOT := Lib.hid (cyclicOfTag_any dn A n c ts B m k hs w5 (hx.below y5) (tagCode_zero.1 HCODE.out).1)
  go_wp2_with fail
  refine HOT.out.mono ?_
  rintro e w6 ⟨(⟨hfit6, A6, us, rfl, hO6, hnu6⟩ | ⟨hfit6, rfl⟩), z6⟩
  rotate_left
  · exfalso
    have := HFIT.out
    rw [hfit6] at this
    cases this
  clear HOT hfit6
  have y6 := y5.trans (z6.mono y5.size)
  obtain ⟨N, hN⟩ : ∃ N, N = n * dn := ⟨_, rfl⟩
  have hN4 : N ≤ 400 := by
    have := HFIT.out
    unfold cycFitsB at this
    simp only [Bool.and_eq_true, decide_eq_true_eq] at this
    rw [HLN.out, ← hN] at this
    exact this.1.1
  rw [← hN] at hO6 ⊢
  have HN := Lib.hid hN
  have HNU := Lib.hid hnu6
  clear hN hnu6
  obtain ⟨w7, hW_⟩ : ∃ W_, W_ = w6.alloc (.cells #[.slice A6 N N] 33) := ⟨_, rfl⟩
  have b7 : Blk w7 w6.heap.size 33 #[.slice A6 N N] := by rw [hW_]; exact Blk.new w6 _ _
  have z7 : Below w6.heap.size w6 w7 := by rw [hW_]; exact (Below.refl _ _).alloc (Nat.le_refl _) _
  have Hw7 := Lib.hid hW_
  clear hW_
  have y7 := y6.trans (z7.mono y6.size)
  have b47 := ((b4.below' z5).below' z6).below' z7
  have o47 := ((o4.below z5).below z6).below z7
  have hO7 := hO6.below z7
  have c07 := (c05.below' z6).below' z7
  have hz7 : SI w7 A3 M (codesL n xs) := o47.rd
  clear q0 q1 q2 c05 c04 b4 o4 o3 hO6 z45 c0
  have q0 : w7.cell? ⟨w6.heap.size, 0, none⟩ = some (.slice A6 N N) := b7.cell 0
  have t0 : w7.cell? ⟨w3.heap.size, 0, none⟩ = some (.int .i64 0) := b47.cell 0
  have t1 : w7.cell? ⟨w3.heap.size, 1, none⟩ = some (.slice A3 M c3) := b47.cell 1
  have l7 := b7.lt
  have l47 := b47.lt
  have hw4 : w4.heap.size = w3.heap.size + 1 := by rw [Hw4.out]; simp
  have hw6 : w3.heap.size < w6.heap.size := by
    have h2 := z5.size
    have h3 := z6.size
    omega
  obtain ⟨T, hT⟩ : ∃ T, T = S * N := ⟨_, rfl⟩
  have hT1 : T ≤ 60 * 400 := by rw [hT]; exact Nat.mul_le_mul (by omega) hN4
  have w1 : IntKind.i64.wrap ((S : Int) * (N : Int)) = (T : Int) := by rw [IntWalk.i64_in _ (by rw [← Int.natCast_mul, ← hT]; omega), hT]; simp
  have HT := Lib.hid hT
  clear hT
  go_upto_region 13 with fail
  rw [← Hw7.out]
  go_region_held3 (fun w' => w'.cell? ⟨w6.heap.size, 0, none⟩ = some (.slice A6 N N) ∧ w'.cell? ⟨w3.heap.size, 0, none⟩ = some (.int .i64 0) ∧ w'.cell? ⟨w3.heap.size, 1, none⟩ = some (.slice A3 M c3))
    (first
      | (go_keep; done)
      | (exact ⟨(hb8.cell (p := ⟨w6.heap.size, 0, none⟩) l7).trans q0, (hb8.cell (p := ⟨w3.heap.size, 0, none⟩) l47).trans t0, (hb8.cell (p := ⟨w3.heap.size, 1, none⟩) l47).trans t1⟩))
    (first
      | (go_at_call 78; refine (cyclicRunOf_any _ _ _ _ _ _ _ (codesL n xs) _ (Rd.drewN hz7 1) (by omega)).mono ?_; rintro e w8 ⟨g, Q, r8, rfl, hg8, hr8, ho8, hb8⟩)
      | (go_at_call 96; refine (sizeII_any _ _ _ _ (by omega)).mono ?_; rintro e w' ⟨rfl, rfl⟩))
  have hb8' : Below w7.heap.size w7 w8 := below_undrew (n := 1) hb8
  have hg8' : w7.heap.size ≤ g := hg8
  obtain ⟨p, hp⟩ : ∃ p : Cg, p = ⟨w7, g, A6, N, N, us, ⟨0, codesL n xs⟩⟩ := ⟨_, rfl⟩
  have hnuv : nums p.ts = cycWords dn (nums ts) := by rw [hp]; exact HNU.out
  have hpx : p.x = ⟨0, codesL (nums ts).length xs⟩ := by rw [hp, HLN.out]
  have hok : p.Ok := by
    refine ⟨?_, by rw [hp]; exact hO7.sii, by rw [hp]; exact hg8', by rw [hp]; show N ≤ 1048576; omega⟩
    rw [hnuv, hpx]
    exact cyc_valid (by omega) (by rw [HLN.out]; exact v6) HFIT.out
  have hTT : T = S * ((nums ts).length * dn) := by rw [HT.out, HN.out, HLN.out]
  have hsteps := cyc_steps (d := dn) (by omega) HCODE.out S (Sys.code_alive HCD.out)
  rw [← hTT, ← hnuv, ← hpx] at hsteps
  have HEND := Lib.hid hsteps.1
  have HNE : Hid (∀ j, j < T → p.sys.halt (p.it j) = false) := Lib.hid (fun j hj => decide_eq_false (hsteps.2 j hj))
  have hrct : ∀ v, p.sys.code T p.x = v → (cycSys (cycWords dn (nums ts))).code (S * ((nums ts).length * dn)) ⟨0, codesL (nums ts).length xs⟩ = v := by
    intro v hv
    rw [← hTT, ← hnuv, ← hpx]; exact hv
  have HRCT := Lib.hid hrct
  have h0 : ∃ Q r, CgO p 0 Q r (fun _ => False) w8 := by
    rw [hp]
    exact ⟨Q, r8, ⟨id, fun _ h => h.elim, hr8, ho8, fun _ _ h => h, hb8'⟩⟩
  have HP := Lib.hid hp
  have hpg : Hid (p.g = g) := Lib.hid (by rw [hp])
  have hw0 : Hid (p.w0 = w7) := Lib.hid (by rw [hp])
  have HTT := Lib.hid hTT
  have HX := Lib.hid hx
  have HB := Lib.hid (b7.below' hb8')
  clear hp hr8 ho8 hb8 hsteps hrct hnuv hpx hTT q0 t0 t1 b47 o47 hO7 hz7 b7
  go_wp2_with fail
  go_loopw [57] (fun i wr => ∃ (j : Nat) (Q : Option Addr) (r : Nat), i = .int .i64 (j : Int) ∧ j ≤ T ∧ p.sys.Alive p.x j ∧ CgO p j Q r (fun _ => False) wr) (fun i _ => T - (intOf i).toNat)
  case atStart =>
    obtain ⟨Q, r, h⟩ := h0
    exact ⟨0, Q, r, rfl, Nat.zero_le _, Sys.Alive.zero _ _, h⟩
  case round =>
    obtain ⟨j, Q1, r1, rfl, hj, hal, ho⟩ := hrel
    have HAL := Lib.hid hal
    clear hal h0
    have hlow : Below w.heap.size w wr := by have := ho.low; rw [hw0.out] at this; exact y7.trans (this.mono y7.size)
    by_cases hlt : j < T
    · have hlt' : (j : Int) < (T : Int) := by omega
      have hh0 := cyclicHalts_any ho.run
      rw [hpg.out] at hh0
      have hd0 : decide ((p.it j).word.length = 0) = false := HNE.out j hlt
      rw [hd0] at hh0
      have HH := Lib.hid hh0
      have hs0 := cycStep_g hok HAL.out (HNE.out j hlt) ho
      rw [hpg.out] at hs0
      have HS := Lib.hid hs0
      clear hh0 hd0 hs0
      go_wp2_with fail
      refine HH.out.mono ?_
      rintro e W' ⟨rfl, rfl⟩
      go_wp2_with fail
      refine HS.out.mono ?_
      rintro e W3 ⟨rfl, ⟨Q', r', ho'⟩, _⟩
      have hlow3 : Below w.heap.size w W3 := by have := ho'.low; rw [hw0.out] at this; exact y7.trans (this.mono y7.size)
      cases hr : p.sys.room (p.it j) with
      | true =>
        have HR := Lib.hid hr
        clear hr
        go_wp2_with fail
        go_roundw
        case rel => exact ⟨j + 1, Q', r', by go_num, by omega, HAL.out.step (HNE.out j hlt) HR.out, ho'⟩
        case measure => simp [intOf]; omega
      | false =>
        have hcf := HRCT.out _ (Sys.code_full hlt HAL.out (HNE.out j hlt) hr)
        have HF := Lib.hid (rctF_full HCODE.out A2.out HFIT.out HCD.out (by rw [Int.toNat_natCast]; rw [Int.toNat_natCast]; rw [hcf]; decide))
        clear hr hcf
        go_wp2_with fail
        exact bodyPost_ret (v := .tuple #[.slice none 0 0, .int .i64 0, .int .i64 5]) (by simp [results, Try.results34, go_sem]) rfl (wd3_nil HF.out hlow3)
    · have hjT : j = T := by omega
      subst hjT
      have hl7 : Below w7.heap.size w7 wr := by have := ho.low; rwa [hw0.out] at this
      have q1 : wr.cell? ⟨w.heap.size, 1, none⟩ = some (.slice A n c) := (c07.below' hl7).cell 1
      have HF := Lib.hid (rctF_ok HCODE.out A2.out HFIT.out HCD.out (by rw [Int.toNat_natCast]; rw [Int.toNat_natCast]; exact HRCT.out _ (Sys.code_ok HAL.out)))
      rw [Int.toNat_natCast, Int.toNat_natCast, ← HTT.out] at HF
      have hrun := ho.run
      have hown := ho.own
      have he := HEND.out
      have hit : p.it j = p.sys.it p.x j := rfl
      rw [hit, he, hpg.out] at hrun
      rw [hit, he, HLN.out] at hown
      rw [HLN.out] at hrun
      have hgood := tagAlive_good HCODE.out (Sys.code_alive HCD.out)
      generalize (tagSys (dn : Int) (nums ts) hs).it xs S = zs at *
      obtain ⟨p1, p2, p3, p4, p5, p6, p7, p8⟩ := tagCode_parts hgood
      rw [HLN.out] at p5
      dsimp only at hrun hown
      have hcl : (codesL n zs).length ≤ 1048576 := by
        rw [codesL_len]
        have := Nat.mul_le_mul p4 v7
        omega
      have HTU := Lib.hid (cyclicTurn_any hrun hown.rd hcl)
      clear hrun hown he hit ho p1 p2 p3 p6 p7 p8 hgood
      go_wp2_with (go_at_call 96; refine (sizeII_any _ _ _ _ (by omega)).mono ?_; rintro e w' ⟨rfl, rfl⟩)
      refine HTU.out.mono ?_
      rintro e w9 ⟨Q9, r9, rfl, o9, z9⟩
      dsimp only at o9 ⊢
      have hlow9 := hlow.trans (z9.mono hlow.size)
      have hsw := hlow.size
      have hwt := wordOfTurn_codes n Q9 (codesL n zs).length r9 zs w9 o9.rd v6 hcl (by rcases o9.2 with ⟨_, h1, h2⟩ | ⟨_, _, _, _, _, _, h1, _⟩ <;> omega) p5
      have HWT := Lib.hid hwt
      clear hwt
      go_wp2_with fail
      refine HWT.out.mono ?_
      rintro e w10 ⟨Q10, r10, rfl, o10, z10⟩
      have hs9 := hlow9.size
      go_wp2_with fail
      refine bodyPost_ret (v := .tuple #[.slice Q10 zs.length r10, .int .i64 (j : Int), .int .i64 0]) (by simp [results, Try.results34, go_sem]) rfl ?_
      rw [HF.out]
      exact ⟨Q10, r10, rfl, o10.mono hs9, hlow9.trans (z10.mono hs9)⟩
end Go.Proofs.Ythipbeggaeogcaa

/-
  Contract of the reference's l15Back, on codes.
-/
namespace Go.Proofs.Ythipbeggaeogcaa
open Go.RowKit

/-- A new word and a yes. -/
def NewWdB (w : World) (xs : List Int) (e : Ending) (w' : World) : Prop :=
  ∃ A c, e = .returned (.tuple #[.slice A xs.length c, .bool true]) ∧ Own w' w.heap.size 2 1 A xs.length c (ints xs) ∧ Below w.heap.size w w'

theorem codesL_at {n i k : Nat} {ws : List Int} (hi : i < ws.length) (hk : k < n) : (codesL n ws)[i * n + k]? = some (if k = (ws[i]'hi).toNat then 1 else 0) := by
  have h1 : ((codesL n ws).drop (i * n))[k]? = (unitL n (ws[i]'hi).toNat)[k]? := by
    rw [← codesL_window hi, List.getElem?_take_of_lt hk]
  rw [List.getElem?_drop] at h1
  rw [h1]
  simp [unitL, hk]

set_option maxRecDepth 100000 in
set_option maxHeartbeats 4000000 in
theorem l15Back_codes (n : Nat) (A : Option Addr) (N c : Nat) (ws : List Int) (w : World) (hz : SI w A N (codesL n ws)) (hn : 1 ≤ n) (hN : N ≤ 1048576) (hw : ∀ y ∈ ws, 0 ≤ y ∧ y < (n : Int)) :
    Calls Try.prog 92 #[.slice A N c, .int .i64 (n : Int)] w (NewWdB w ws) := by
  have hNl : N = ws.length * n := by have := hz.len; rw [codesL_len] at this; omega
  have HL := Lib.hid hz.len
  have HNL := Lib.hid hNl
  have HWS := Lib.hid hw
  have hrem : Int.tmod (N : Int) (n : Int) = 0 := by rw [hNl]; simp
  clear hNl hw
  obtain ⟨W, hW_⟩ : ∃ W_, W_ = w.alloc (.cells #[] 2) := ⟨_, rfl⟩
  have b0 : Blk W w.heap.size 2 #[] := by rw [hW_]; exact Blk.new w _ _
  have y0 : Below w.heap.size w W := by rw [hW_]; exact (Below.refl _ _).alloc (Nat.le_refl _) _
  have HW := Lib.hid hW_
  clear hW_
  have hz0 := hz.below y0
  have o0 : Own W w.heap.size 2 1 (some ⟨w.heap.size, 0, none⟩) 0 0 [] := ⟨by simp, .inr ⟨w.heap.size, 0, #[], rfl, Nat.le_refl _, b0, Nat.le_refl _, by simp [maxLen], by simp, fun k hk => by simp at hk⟩⟩
  go_enter Try.func92, Try.ntmps92
  go_upto_region 2 with fail
  rw [← HW.out]
  go_wp2_with fail
  go_loopw [6, 7] (fun t i wr => ∃ (j q : Nat) (A1 : Option Addr) (c1 : Nat), j ≤ ws.length ∧ Hid (q = j * n) ∧ i = .int .i64 (q : Int) ∧ t = .slice A1 j c1 ∧ Own wr w.heap.size 2 1 A1 j c1 (ints (ws.take j)) ∧ Below w.heap.size w wr) (fun _ i _ => N - (intOf i).toNat)
  case atStart => exact ⟨0, 0, _, 0, by omega, Lib.hid (by simp), rfl, rfl, o0, y0⟩
  case round =>
    obtain ⟨j, q, A1, c1, hj, hq, rfl, rfl, ho, hb⟩ := hrel
    clear b0 o0
    by_cases hlt : j < ws.length
    · have hqN : q + n ≤ N := by
        rw [hq.out, HNL.out]
        have := Nat.mul_le_mul_right n (show j + 1 ≤ ws.length from hlt)
        rwa [Nat.succ_mul] at this
      have hy0 := HWS.out (ws[j]'hlt) (List.getElem_mem hlt)
      obtain ⟨x0, hx0⟩ : ∃ x0 : Nat, ws[j]'hlt = (x0 : Int) := ⟨(ws[j]'hlt).toNat, by omega⟩
      have hxn : x0 < n := by omega
      have HX0 := Lib.hid hx0
      have HAT : Hid (∀ k, k < n → (codesL n ws)[q + k]? = some (if k = x0 then 1 else 0)) := Lib.hid (fun k hk => by
        rw [hq.out, codesL_at hlt hk, HX0.out, Int.toNat_natCast])
      have htk : Hid (ints (ws.take (j + 1)) = ints (ws.take j) ++ [.int .i64 (x0 : Int)]) := Lib.hid (by
        rw [List.take_succ_eq_append_getElem hlt, HX0.out]; simp [ints])
      have hmN : ws.length ≤ N := by
        rw [HNL.out]
        calc ws.length = ws.length * 1 := by simp
          _ ≤ ws.length * n := Nat.mul_le_mul_left _ hn
      have g1 : (q : Int) < (N : Int) := by omega
      have hzr := hz.below hb
      clear hy0 hx0
      go_wp2_with fail
      go_loop [8, 9] (fun f k => ∃ (a : Nat), a ≤ n ∧ k = .int .i64 (a : Int) ∧ f = .int .i64 (if x0 < a then (x0 : Int) else -1)) (fun _ k => n - (intOf k).toNat)
      case atStart => exact ⟨0, by omega, rfl, rfl⟩
      case round =>
        obtain ⟨a, ha, rfl, rfl⟩ := hrel
        by_cases han : a < n
        · obtain ⟨b, off, rfl, _, hc⟩ := hzr.at_ (show q + a < N by omega)
          have hga := HAT.out a han
          obtain ⟨hlen, hge⟩ := List.getElem?_eq_some_iff.1 hga
          rw [hge] at hc
          have i1 : (0 : Int) ≤ (q : Int) + (a : Int) := by omega
          have i2 : (q : Int) + (a : Int) < (N : Int) := by omega
          have i3 : ((q : Int) + (a : Int)).toNat = q + a := by omega
          clear hga hge
          by_cases hax : a = x0
          · subst hax
            rw [if_pos rfl] at hc
            rw [if_neg (by omega)]
            go_wp2_with fail
            exact ⟨⟨a + 1, by omega, by go_num, by rw [if_pos (by omega)]⟩, by simp [intOf]; omega⟩
          · rw [if_neg hax] at hc
            have hif : (if x0 < a + 1 then (x0 : Int) else -1) = (if x0 < a then (x0 : Int) else -1) := by
              by_cases h : x0 < a
              · rw [if_pos h, if_pos (by omega)]
              · rw [if_neg h, if_neg (by omega)]
            have HIF := Lib.hid hif
            clear hif
            go_wp2_with fail
            exact ⟨⟨a + 1, by omega, by go_num, by rw [HIF.out]⟩, by simp [intOf]; omega⟩
        · have han' : a = n := by omega
          subst han'
          rw [if_pos hxn]
          have x00 : ¬ (x0 : Int) < 0 := by omega
          have hq1 : Hid (q + a = (j + 1) * a) := Lib.hid (by rw [hq.out, Nat.succ_mul])
          have hs := hb.size
          go_wp2_with (at_builtin; refine wpList_append_Own rfl (.tmp 49) (.tmp 51) rfl elI (lo := w.heap.size) rfl (ho.alloc _) rfl (Rd.new1 _ _ _) (by simp [Value.oneCell']) (by omega) (by simp only [maxLen]; omega) (by simp; omega) ?_; intro A4 c4 w4 ho4 hg4 hw4)
          refine ⟨⟨j + 1, q + a, A4, c4, by omega, hq1, by go_num, rfl, ?_, Own.below_of (ho.alloc _) (hb.alloc hb.size _) hg4 (by simp; omega)⟩, by simp [intOf]; omega⟩
          rw [htk.out]
          exact ho4
    · have hjn : j = ws.length := by omega
      have hqN : q = N := by rw [hq.out, HNL.out, hjn]
      subst hqN
      go_wp2_with fail
      exact bodyPost_ret (v := .tuple #[.slice A1 j c1, .bool true]) (by simp [results, Try.results92, go_sem]) rfl ⟨A1, c1, by rw [hjn], by rw [hjn] at ho; rwa [List.take_of_length_le (Nat.le_refl _)] at ho, hb⟩
end Go.Proofs.Ythipbeggaeogcaa

/-
  Results: a new slice of numbers and a code.
-/
namespace Go.Proofs.Ythipbeggaeogcaa
open Go.RowKit
theorem i2_nil {w wf : World} {k : Int} {r : List Int × Int} (hr : r = ([], k)) (hz : Below w.heap.size w wf) : NewI2 w r (.returned (.tuple #[.slice none 0 0, .int .i64 k])) wf := by
  subst hr
  exact ⟨none, 0, rfl, Own.nil, hz⟩
theorem i2_of {w wf : World} {k : Int} {r : List Int × Int} {xs : List Int} {A : Option Addr} {n c : Nat} (hr : r = (xs, k)) (hn : n = xs.length) (ho : Own wf w.heap.size 2 1 A n c (ints xs)) (hz : Below w.heap.size w wf) : NewI2 w r (.returned (.tuple #[.slice A n c, .int .i64 k])) wf := by
  subst hr; subst hn
  exact ⟨A, c, rfl, ho, hz⟩
theorem i2_lit0 {w : World} {g lo s : Nat} {t : TypeId} (h : Blk w g t #[]) (hl : lo ≤ g) : Own w lo t s (some ⟨g, 0, none⟩) 0 0 [] :=
  ⟨by simp, .inr ⟨g, 0, #[], rfl, hl, h, Nat.le_refl _, by simp [maxLen], by simp, fun k hk => by simp at hk⟩⟩
end Go.Proofs.Ythipbeggaeogcaa
