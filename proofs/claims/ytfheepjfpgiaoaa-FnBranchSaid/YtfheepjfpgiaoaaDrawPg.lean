/-
  The reference's commands: l22Set, l22Own, l22Loop.
-/
import Derived.Test.YtfheepjfpgiaoaaDrawEx
import Derived.Test.YtfheepjfpgiaoaaCmOps
import Derived.Test.YtfheepjfpgiaoaaBatchA
import Derived.Test.YtfheepjfpgiaoaaAppF
import Derived.Deep.RegionHeld3
namespace Go.Proofs.Ytfheepjfpgiaoaa
open Go.RowKit

set_option maxHeartbeats 1000000 in
theorem l22Set_any (k : Int) (A : Option Addr) (n c : Nat) (w : World) : Calls Try.prog 230 #[.int .i64 k, .slice A n c] w fun e w' => e = .returned (.agg #[.int .i64 0, .int .i64 k, .int .i64 0, .slice A n c]) ∧ Below w.heap.size w w' := by
  obtain ⟨W, hW_⟩ : ∃ W, W = w.alloc (.cells #[.int .i64 0, .int .i64 0, .int .i64 0, .slice none 0 0] 99) := ⟨_, rfl⟩
  have b0 : Blk W w.heap.size 99 #[.int .i64 0, .int .i64 0, .int .i64 0, .slice none 0 0] := by rw [hW_]; exact Blk.new w _ _
  have y0 : Below w.heap.size w W := by rw [hW_]; exact (Below.refl _ _).alloc (Nat.le_refl _) _
  have HW := Lib.hid hW_
  clear hW_
  have HD := Lib.hid ((((b0.set_ 0 (.int .i64 0)).set_ 1 (.int .i64 k)).set_ 2 (.int .i64 0)).set_ 3 (.slice A n c))
  have HB : Hid (Below w.heap.size w ((((W.setCell ⟨w.heap.size, 0, none⟩ (.int .i64 0)).setCell ⟨w.heap.size, 1, none⟩ (.int .i64 k)).setCell ⟨w.heap.size, 2, none⟩ (.int .i64 0)).setCell ⟨w.heap.size, 3, none⟩ (.slice A n c))) := Lib.hid ((((y0.setCell (Nat.le_refl _) _).setCell (Nat.le_refl _) _).setCell (Nat.le_refl _) _).setCell (Nat.le_refl _) _)
  have u0 : W.cell? ⟨w.heap.size, 0, none⟩ = some (.int .i64 0) := b0.cell 0
  have u1 : W.cell? ⟨w.heap.size, 1, none⟩ = some (.int .i64 0) := b0.cell 1
  have u2 : W.cell? ⟨w.heap.size, 2, none⟩ = some (.int .i64 0) := b0.cell 2
  have u3 : W.cell? ⟨w.heap.size, 3, none⟩ = some (.slice none 0 0) := b0.cell 3
  have f0 := b0.frozen 0
  have f1 := b0.frozen 1
  have f2 := b0.frozen 2
  have f3 := b0.frozen 3
  clear b0 y0
  go_enter Try.func230, Try.ntmps230
  go_upto_region 1 with fail
  rw [← HW.out]
  go_wp2_with fail
  have d1 := HD.out
  exact bodyPost_ret (v := .agg #[.int .i64 0, .int .i64 k, .int .i64 0, .slice A n c]) (by simp [results, Try.results230, go_sem, d1.cell 0, d1.cell 1, d1.cell 2, d1.cell 3]) rfl ⟨rfl, HB.out⟩
set_option maxRecDepth 100000 in
set_option maxHeartbeats 4000000 in
theorem l22Own_any (A : Option Addr) (n c : Nat) (ts : List Ce) (w : World) (hx : SC w A n ts) (hn : n ≤ 10000) (hr : ∀ t ∈ ts, t.e.length ≤ 10000) : Calls Try.prog 258 #[.slice A n c] w (NewC w (cmds ts)) := by
  obtain ⟨W, hW_⟩ : ∃ W_, W_ = w.alloc (.cells #[] 99) := ⟨_, rfl⟩
  have b0 : Blk W w.heap.size 99 #[] := by rw [hW_]; exact Blk.new w _ _
  have z0 : Below w.heap.size w W := by rw [hW_]; exact (Below.refl _ _).alloc (Nat.le_refl _) _
  have HW := Lib.hid hW_
  clear hW_
  have HO0 : Hid (OC W w.heap.size (some ⟨w.heap.size, 0, none⟩) 0 0 []) := Lib.hid ⟨b0.ownz (Nat.le_refl _), by simp⟩
  have HZ0 := Lib.hid z0
  have HL := Lib.hid hx.len
  have HX := Lib.hid hx
  have HR := Lib.hid hr
  clear z0 b0 hx hr
  go_enter Try.func258, Try.ntmps258
  go_upto_region 2 with fail
  rw [← HW.out]
  clear HW
  go_wp2_with fail
  go_loopw [3, 4] (fun s3 s4 wr => ∃ (k : Nat) (D : Option Addr) (d : Nat) (us : List Ce), k ≤ n ∧ s4 = .int .i64 (k : Int) ∧ s3 = .slice D k d ∧ Hid (cmds us = (cmds ts).take k) ∧ Hid (OC wr w.heap.size D k d us) ∧ Hid (Below w.heap.size w wr)) (fun _ s4 _ => n - (intOf s4).toNat)
  case atStart => exact ⟨0, _, 0, [], Nat.zero_le _, rfl, rfl, Lib.hid rfl, HO0, HZ0⟩
  case round =>
    obtain ⟨k, D, d, us, hk, rfl, rfl, HE, HO, HZ⟩ := hrel
    clear HO0 HZ0
    by_cases hkn : k < n
    rotate_left
    · obtain rfl : k = n := by omega
      have i1 : ¬ ((k : Int) < (k : Int)) := by omega
      go_wp2_with fail
      go_ret
      have hl : us.length = k := HO.out.len
      refine ⟨D, d, us, by rw [hl]; rfl, ?_, by rw [hl]; exact HO.out, HZ.out⟩
      rw [HE.out, List.take_of_length_le (by rw [cmds_len, HL.out]; exact Nat.le_refl _)]
    have i1 : (k : Int) < (n : Int) := by omega
    have i0 : (0 : Int) ≤ (k : Int) := by omega
    obtain ⟨t, b, off, HT, htm, rfl, hbl, q0, q1, q2, q3, hre⟩ := (HX.out.below HZ.out).pick hkn
    have htl := HR.out t htm
    obtain ⟨tk, tv, tl, tA, tc, te⟩ := t
    dsimp only at q0 q1 q2 q3 hre htl
    obtain ⟨W1, hW_⟩ : ∃ W_, W_ = wr.alloc (.cells #[.int .i64 tk, .int .i64 tv, .int .i64 tl, .slice tA te.length tc] 99) := ⟨_, rfl⟩
    have b1 : Blk W1 wr.heap.size 99 #[.int .i64 tk, .int .i64 tv, .int .i64 tl, .slice tA te.length tc] := by rw [hW_]; exact Blk.new wr _ _
    have z1 : Below wr.heap.size wr W1 := by rw [hW_]; exact (Below.refl _ _).alloc (Nat.le_refl _) _
    have HW1 := Lib.hid hW_
    clear hW_
    have hbw : b < wr.heap.size := hbl
    have q3' := Below.cell z1 (p := ⟨b, off + k * 4 + 3, none⟩) hbw
    rw [q3] at q3'
    have x0 : W1.cell? ⟨wr.heap.size, 0, none⟩ = some (.int .i64 tk) := b1.cell 0
    have x1 : W1.cell? ⟨wr.heap.size, 1, none⟩ = some (.int .i64 tv) := b1.cell 1
    have x2 : W1.cell? ⟨wr.heap.size, 2, none⟩ = some (.int .i64 tl) := b1.cell 2
    have x3 : W1.cell? ⟨wr.heap.size, 3, none⟩ = some (.slice tA te.length tc) := b1.cell 3
    go_upto_region 6 with fail
    rw [← HW1.out]
    clear q0 q1 q2 HW1
    have hw : w.heap.size ≤ wr.heap.size := HZ.out.size
    have hw1 := z1.size
    obtain ⟨W2, hW_⟩ : ∃ W_, W_ = W1.alloc (.cells #[] 118) := ⟨_, rfl⟩
    have b2 : Blk W2 W1.heap.size 118 #[] := by rw [hW_]; exact Blk.new W1 _ _
    have z2 : Below W1.heap.size W1 W2 := by rw [hW_]; exact (Below.refl _ _).alloc (Nat.le_refl _) _
    have HW2 := Lib.hid hW_
    clear hW_
    have oE : Own W2 W1.heap.size 118 2 (some ⟨W1.heap.size, 0, none⟩) 0 0 [] := b2.ownz (Nat.le_refl _)
    have hS2 : S2 W2 tA te.length te := (hre.below z1).below z2
    have q4 := Below.cell z2 (p := ⟨b, off + k * 4 + 3, none⟩) (by show b < _; omega)
    rw [q3', HW2.out] at q4
    have b1' := b1.below' z2
    have z12 : Below wr.heap.size wr W2 := z1.trans (z2.mono hw1)
    have hw2 := z2.size
    clear q3 q3' b2 hre z1 z2 b1 x0 x1 x2 x3
    go_upto_region 7 with (at_builtin; rw [← HW2.out]; refine wpList_append_Own rfl (.tmp 17) (.tmp 22) rfl elEx (lo := W1.heap.size) rfl oE rfl hS2 (cells2_one _) (by omega) (by simp only [maxLen]; omega) hw2 ?_; intro A5 c5 w5 o5 hg5 _; have hb5 : Blk w5 wr.heap.size 99 #[.int .i64 tk, .int .i64 tv, .int .i64 tl, .slice tA te.length tc] := b1'.grown oE hg5 (by decide); have y3 := hb5.cell 3; have f3 := hb5.frozen 3)
    have HB5 := Lib.hid hb5
    have HZ5 : Hid (Below wr.heap.size wr w5) := Lib.hid ((oE.mono hw1).below_of z12 hg5 (by omega))
    have hsz5 := HZ5.out.size
    have HO5 := Lib.hid o5
    rw [Nat.zero_add] at o5
    obtain ⟨W6, hW6⟩ : ∃ W6, W6 = w5.setCell ⟨wr.heap.size, 3, none⟩ (.slice A5 te.length c5) := ⟨_, rfl⟩
    rw [← hW6]
    have hb6 : Blk W6 wr.heap.size 99 #[.int .i64 tk, .int .i64 tv, .int .i64 tl, .slice A5 te.length c5] := by rw [hW6]; exact hb5.set_ 3 _
    have hz6 : Below wr.heap.size wr W6 := by rw [hW6]; exact HZ5.out.setCell (Nat.le_refl _) _
    have ho6 : Own W6 W1.heap.size 118 2 A5 te.length c5 (cells2 te) := by rw [hW6]; exact o5.far (p := ⟨wr.heap.size, 3, none⟩) (hb5.apt o5 (by decide)) _
    have x0 : W6.cell? ⟨wr.heap.size, 0, none⟩ = some (.int .i64 tk) := hb6.cell 0
    have x1 : W6.cell? ⟨wr.heap.size, 1, none⟩ = some (.int .i64 tv) := hb6.cell 1
    have x2 : W6.cell? ⟨wr.heap.size, 2, none⟩ = some (.int .i64 tl) := hb6.cell 2
    have x3 : W6.cell? ⟨wr.heap.size, 3, none⟩ = some (.slice A5 te.length c5) := hb6.cell 3
    have HO6 := Lib.hid (HO.out.below hz6)
    have HE6 := Lib.hid ho6
    have HZ6 := Lib.hid hz6
    have hsz6 := hz6.size
    have HW6 := Lib.hid hW6
    clear o5 hg5 hb5 y3 f3 oE hS2 b1' z12 hb6 hz6 ho6 hW6 q4
    have HOA := Lib.hid (HO6.out.alloc (.cells #[.int .i64 tk, .int .i64 tv, .int .i64 tl, .slice A5 te.length c5] 99))
    go_wp2_with (at_builtin; refine wpList_append_Own rfl (.tmp 25) (.tmp 27) rfl elCm (lo := w.heap.size) rfl HOA.out.1 rfl (rd_cmd W6 tk tv tl A5 te.length c5) (by intro u hu; simp at hu; rcases hu with rfl | rfl | rfl | rfl <;> rfl) (by omega) (by simp only [maxLen]; omega) (by simp; omega) ?_; intro A7 c7 w7 o7 hg7 _; have HO7 := Lib.hid o7; have HG7 := Lib.hid hg7)
    go_roundw
    case rel =>
      have hE7 : Own (W6.alloc (.cells #[.int .i64 tk, .int .i64 tv, .int .i64 tl, .slice A5 te.length c5] 99)) w.heap.size 118 2 A5 te.length c5 (cells2 te) := by
        have h := HE6.out.alloc (.cells #[.int .i64 tk, .int .i64 tv, .int .i64 tl, .slice A5 te.length c5] 99)
        exact h.mono (by omega)
      have h7 := HO7.out
      refine ⟨k + 1, A7, c7, us ++ [⟨tk, tv, tl, A5, c5, te⟩], by omega, by go_num, rfl, Lib.hid ?_, Lib.hid (OC.push (t := ⟨tk, tv, tl, A5, c5, te⟩) HOA.out hE7 h7 HG7.out), Lib.hid ?_⟩
      · exact cmds_take_next HT.out HE.out rfl
      · exact HOA.out.1.below_of ((HZ.out.trans (HZ6.out.mono hw)).alloc (by omega) _) HG7.out (by simp; omega)
    case measure => (simp [intOf] <;> omega)
/-- Commands that are known. -/
def HasC (lo : Nat) (cs : List Cmd) (v : Value) (w : World) : Prop := ∃ A c ts, v = .slice A (List.length ts) c ∧ cmds ts = cs ∧ OC w lo A ts.length c ts
theorem HasC.stay {lo : Nat} {cs : List Cmd} (v : Value) (w1 w2 : World) (h : HasC lo cs v w1) (z : Below w1.heap.size w1 w2) : HasC lo cs v w2 := by
  obtain ⟨A, c, ts, e, h1, h2⟩ := h
  exact ⟨A, c, ts, e, h1, h2.below z⟩
/-- A literal of commands, full. -/
def LitC (lo : Nat) (ts : List Ce) (v : Value) (w : World) : Prop := ∃ g, v = .slice (some ⟨g, 0, none⟩) ts.length ts.length ∧ OC w lo (some ⟨g, 0, none⟩) ts.length ts.length ts
theorem LitC.stay {lo : Nat} {ts : List Ce} (v : Value) (w1 w2 : World) (h : LitC lo ts v w1) (z : Below w1.heap.size w1 w2) : LitC lo ts v w2 := by
  obtain ⟨g, e, h2⟩ := h
  exact ⟨g, e, h2.below z⟩
set_option maxRecDepth 100000 in
set_option maxHeartbeats 4000000 in
theorem l22Loop_any (E : Option Addr) (m d : Nat) (rs : List R2) (A : Option Addr) (n c : Nat) (ts : List Ce) (w : World) (he : S2 w E m rs) (hm : m ≤ 10000) (hx : SC w A n ts) (hn : n ≤ 10000) (hr : ∀ t ∈ ts, t.e.length ≤ 10000) :
    Calls Try.prog 231 #[.slice E m d, .slice A n c] w (NewC w (⟨1, 0, (n : Int), rs⟩ :: cmds ts)) := by
  obtain ⟨W1, hW_⟩ : ∃ W_, W_ = w.alloc (.cells #[] 118) := ⟨_, rfl⟩
  have b1 : Blk W1 w.heap.size 118 #[] := by rw [hW_]; exact Blk.new w _ _
  have z1 : Below w.heap.size w W1 := by rw [hW_]; exact (Below.refl _ _).alloc (Nat.le_refl _) _
  have HW1 := Lib.hid hW_
  clear hW_
  have oE : Own W1 w.heap.size 118 2 (some ⟨w.heap.size, 0, none⟩) 0 0 [] := b1.ownz (Nat.le_refl _)
  have HE := Lib.hid (he.below z1)
  have HEL := Lib.hid he.len
  have HX := Lib.hid hx
  have HR := Lib.hid hr
  have hw1 := z1.size
  have HZ1 := Lib.hid z1
  clear he hx hr b1 z1
  go_enter Try.func231, Try.ntmps231
  go_upto_region 2 with (at_builtin; rw [← HW1.out]; refine wpList_append_Own rfl (.tmp 8) (.tmp 9) rfl elEx (lo := w.heap.size) rfl oE rfl HE.out (cells2_one _) (by omega) (by simp only [maxLen]; omega) hw1 ?_; intro A5 c5 w5 o5 hg5 _)
  have z5 : Below w.heap.size w w5 := oE.below_of HZ1.out hg5 hw1
  rw [Nat.zero_add, List.nil_append] at o5
  obtain ⟨W, hW_⟩ : ∃ W_, W_ = w5.alloc (.cells #[.int .i64 1, .int .i64 0, .int .i64 (n : Int), .slice A5 m c5] 99) := ⟨_, rfl⟩
  have b6 : Blk W w5.heap.size 99 #[.int .i64 1, .int .i64 0, .int .i64 (n : Int), .slice A5 m c5] := by rw [hW_]; exact Blk.new w5 _ _
  have z6 : Below w5.heap.size w5 W := by rw [hW_]; exact (Below.refl _ _).alloc (Nat.le_refl _) _
  have HW := Lib.hid hW_
  clear hW_
  rw [← HW.out]
  have y6 : Below w.heap.size w W := z5.trans (z6.mono z5.size)
  have HB : Hid (∀ w', Below W.heap.size W w' → w'.cell? ⟨w5.heap.size, 0, none⟩ = some (.int .i64 1) ∧ w'.cell? ⟨w5.heap.size, 1, none⟩ = some (.int .i64 0) ∧ w'.cell? ⟨w5.heap.size, 2, none⟩ = some (.int .i64 (n : Int)) ∧ w'.cell? ⟨w5.heap.size, 3, none⟩ = some (.slice A5 m c5)) :=
    Lib.hid (fun w' z => ⟨(b6.below' z).cell 0, (b6.below' z).cell 1, (b6.below' z).cell 2, (b6.below' z).cell 3⟩)
  have HO : Hid (∀ w', Below W.heap.size W w' → Own w' w.heap.size 118 2 A5 rs.length c5 (cells2 rs)) := Lib.hid (fun w' z => by rw [HEL.out]; exact (o5.below z6).below z)
  have HXX : Hid (∀ w', Below W.heap.size W w' → SC w' A n ts) := Lib.hid (fun w' z => HX.out.below (y6.trans (z.mono y6.size)))
  have hp0 : Below W.heap.size W W.drew := below_drewN (Below.refl _ _) 1
  have hwW := y6.size
  have HY6 := Lib.hid y6
  obtain ⟨B, hB⟩ : ∃ B, w5.heap.size = B := ⟨_, rfl⟩
  rw [hB] at HB ⊢
  clear b6 z6 o5 oE hg5 z5 hB y6
  refine wp_region_noPanic ?_
  refine wp_region_held_drew (S := (fun w' => w'.cell? ⟨B, 0, none⟩ = some (.int .i64 1) ∧ w'.cell? ⟨B, 1, none⟩ = some (.int .i64 0) ∧ w'.cell? ⟨B, 2, none⟩ = some (.int .i64 (n : Int)) ∧ w'.cell? ⟨B, 3, none⟩ = some (.slice A5 m c5))) (by kernel_rfl) ?_ (fun hHeld => ?_)
  · exact HB.out _ hp0
  generalize W.drew = Wc at *
  refine wpAnyH_take (i := 0) (v := ?_) rfl (by kernel_rfl) (by kernel_rfl) (by kernel_rfl) (fun _ _ _ h => h) (Or.inl ⟨by rfl, ?_⟩) (by assumption) ?_
  rotate_left
  · intro w hSw
    try dsimp only at hSw
    obtain ⟨hs0_, hs1_, hs2_, hs3_⟩ := hSw
    go_simp
    try with_reducible rfl
  try simp only [Act.put, List.setIfInBounds_toArray]
  refine wpAnyH_take (i := 2) (v := ?_) rfl (by kernel_rfl) (by kernel_rfl) (by kernel_rfl) (fun _ _ _ h => h) (Or.inl ⟨by rfl, ?_⟩) (by assumption) ?_
  rotate_left
  · intro w hSw
    try dsimp only at hSw
    obtain ⟨hs0_, hs1_, hs2_, hs3_⟩ := hSw
    go_simp
    try with_reducible rfl
  try simp only [Act.put]
  simp only [List.getElem_toArray, List.getElem_cons_zero, List.getElem_cons_succ, List.setIfInBounds_toArray, List.set_cons_zero, List.set_cons_succ]
  refine wpAnyH_all (n := 4) (is := [1, 3, 4, 5]) [⟨1, [], (RHead (LitC w.heap.size [⟨1, 0, (n : Int), A5, c5, rs⟩])), false⟩, ⟨3, [], (RHead (HasC w.heap.size (cmds ts))), false⟩, ⟨4, [1, 3], (RHead (HasC w.heap.size (⟨1, 0, (n : Int), rs⟩ :: cmds ts))), false⟩, ⟨5, [4], (RKnown (fun vl => ∃ v, vl = [v, v])), true⟩] rfl rfl (by kernel_rfl) (by decide) (by kernel_rfl) (fun _ _ _ _ h => h) (fun w' hb => ?_) (BStay.all_cons (RHead.stay LitC.stay) <| BStay.all_cons (RHead.stay HasC.stay) <| BStay.all_cons (RHead.stay HasC.stay) <| BStay.all_cons (RKnown.stay) <| BStay.all_nil) ?_ ?_
  · exact HB.out _ (hp0.trans (hb.mono hp0.size))
  · refine BStep.all_cons (BStep.mk rfl (fun vs l h w1 hz hn hsp K hK => ?_)) ?_
    · simp only [putAll, List.map, Act.put, List.getElem_toArray, List.getElem_cons_zero, List.getElem_cons_succ, List.setIfInBounds_toArray, List.set_cons_zero, List.set_cons_succ] at hK ⊢
      clear hn hsp
      go_simp
      exact hK _ _ ((Below.refl _ _).alloc (Nat.le_refl _) _) ⟨_, rfl, _, rfl, by
        refine ⟨?_, fun t ht => ?_⟩
        · have h := Own.lit w1 #[.int .i64 1, .int .i64 0, .int .i64 (n : Int), .slice A5 m c5] 99 1 4 w.heap.size rfl (by simp [maxLen]) (by have := hz.size; have := hp0.size; omega)
          have e2 : ([⟨1, 0, (n : Int), A5, c5, rs⟩] : List Ce).flatMap Ce.cells = [.int .i64 1, .int .i64 0, .int .i64 (n : Int), .slice A5 m c5] := by simp [Ce.cells, HEL.out]
          rw [e2]; exact h
        · rw [List.mem_singleton.1 ht]
          exact (HO.out _ (hp0.trans (hz.mono hp0.size))).alloc _⟩
    refine BStep.all_cons (BStep.mk rfl (fun vs l h w1 hz hn hsp K hK => ?_)) ?_
    · simp only [putAll, List.map, Act.put, List.getElem_toArray, List.getElem_cons_zero, List.getElem_cons_succ, List.setIfInBounds_toArray, List.set_cons_zero, List.set_cons_succ] at hK ⊢
      clear hn hsp
      go_simp
      refine (l22Own_any A n c ts _ (HXX.out _ (hp0.trans (hz.mono hp0.size))) hn HR.out).mono ?_
      rintro e W2 ⟨E2, ec, us, rfl, hus, oc, zE⟩
      exact hK _ _ zE ⟨_, rfl, E2, ec, us, rfl, hus, oc.mono (by have := hz.size; have := hp0.size; omega)⟩
    refine BStep.all_cons (BStep.mk rfl (fun vs l h w1 hz hn hsp K hK => ?_)) ?_
    · simp only [putAll, List.map, dstAt, Act.put, List.getElem_toArray, List.getElem?_toArray, List.getElem_cons_zero, List.getElem_cons_succ, List.getElem?_cons_zero, List.getElem?_cons_succ, Option.bind_some, List.setIfInBounds_toArray, List.set_cons_zero, List.set_cons_succ] at hK ⊢
      simp only [List.forall_mem_cons, List.map] at hn
      obtain ⟨nn1, nn3, nn4, nn5, _⟩ := hn
      have q1 := (nn1 (by simp)).2.2.2
      have q3 := (nn3 (by simp)).2.2.2
      obtain ⟨v1, e1, g1, rfl, oc1⟩ := q1
      obtain ⟨v3, e3, E2, ec, us, rfl, hus, oc3⟩ := q3
      simp only [List.head?_cons, Option.some.injEq] at e1 e3
      rw [e1, e3] at hK ⊢
      have hul : us.length ≤ 10000 := by have h := congrArg List.length hus; rw [cmds_len, cmds_len, HX.out.len] at h; omega
      refine wp_append_full (.tmp 13) (.tmp 15) rfl elCm (lo := w.heap.size) rfl oc1.1 rfl oc3.1.rd (Ce.one us) (by simp; omega) (by simp only [maxLen, List.length_singleton]; omega) (by have := hz.size; have := hp0.size; omega) ?_
      intro A7 c7 w7 o7 z7
      refine hK _ _ z7 ⟨_, rfl, A7, c7, ⟨1, 0, (n : Int), A5, c5, rs⟩ :: us, ?_, ?_, ?_⟩
      · simp; omega
      · rw [← hus]; rfl
      · refine ⟨?_, fun t ht => ?_⟩
        · have e : (⟨1, 0, (n : Int), A5, c5, rs⟩ :: us : List Ce).length = [(⟨1, 0, (n : Int), A5, c5, rs⟩ : Ce)].length + us.length := by simp; omega
          rw [e]; simpa using o7
        · rcases List.mem_cons.1 ht with rfl | ht
          · exact (HO.out _ (hp0.trans (hz.mono hp0.size))).below z7
          · exact (oc3.2 t ht).below z7
    refine BStep.all_cons (BStep.pure rfl (fun vs l h w1 hz hn hsp => ?_)) ?_
    · simp only [putAll, List.map, dstAt, Act.put, List.getElem_toArray, List.getElem?_toArray, List.getElem_cons_zero, List.getElem_cons_succ, List.getElem?_cons_zero, List.getElem?_cons_succ, Option.bind_some, List.setIfInBounds_toArray, List.set_cons_zero, List.set_cons_succ]
      simp only [List.forall_mem_cons, List.map] at hn
      obtain ⟨nn1, nn3, nn4, nn5, _⟩ := hn
      have q4 := (nn4 (by simp)).2.2.2
      exact ⟨_, ⟨_, rfl⟩, fun w' _ => rfl⟩
    exact BStep.all_nil
  · intro vs l h w1 hz ht hsp
    simp only [Through, List.forall_mem_cons, List.map] at ht
    simp only [putAll, markAll, dstAt, Act.put, List.getElem?_toArray, List.getElem?_cons_zero, List.getElem?_cons_succ, Option.bind_some, List.setIfInBounds_toArray, List.set_cons_zero, List.set_cons_succ]
    obtain ⟨_, _, ⟨k4, _, m4, v4, e4, E2, ec, us, rfl, hus, oc4⟩, ⟨_, _, _, v5, e5⟩, _⟩ := ht
    simp only [List.head?_cons, Option.some.injEq, List.cons.injEq, and_true] at e4 e5
    obtain ⟨e5, e6⟩ := e5
    rw [e5, ← e6, e4]
    have HF : Hid (NewC w (⟨1, 0, (n : Int), rs⟩ :: cmds ts) (.returned (.slice E2 us.length ec)) w1) := Lib.hid ⟨E2, ec, us, rfl, hus, oc4, HY6.out.trans ((hp0.trans (hz.mono hp0.size)).mono HY6.out.size)⟩
    clear e4 e5 e6 oc4 hus hsp
    refine wpAnyH_done (by kernel_rfl) ?_ _
    refine NoPanic.normal ?_
    go_wp2_with fail
    go_ret
    exact HF.out
end Go.Proofs.Ytfheepjfpgiaoaa
