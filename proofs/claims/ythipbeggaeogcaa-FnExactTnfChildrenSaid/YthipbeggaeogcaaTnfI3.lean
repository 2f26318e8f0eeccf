/-
  Contract of impl.TnfChildren.
-/
import Derived.Test.YthipbeggaeogcaaTnfI2
namespace Go.Proofs.Ythipbeggaeogcaa
open Go.RowKit

theorem childM_get {sy st : Int} {rs l : List R3} {i k : Nat} {r : R3} (h : l[k]? = some r) : (childM sy st rs i l).take (k + 1) = (childM sy st rs i l).take k ++ [⟨sy, st, rs.set i r⟩] := by
  obtain ⟨hk, rfl⟩ := List.getElem?_eq_some_iff.1 h
  rw [List.take_succ_eq_append_getElem (by simpa [childM] using hk)]
  simp [childM]
theorem childM_len (sy st : Int) (rs l : List R3) (i : Nat) : (childM sy st rs i l).length = l.length := by simp [childM]
theorem tnf_open {sy st : Int} {rs : List R3} {N i : Nat} (hc : codeF sy st rs blankC (N : Int) = 0) (h : (nodeF sy rs N).1 = 0) (hi : (nodeF sy rs N).2.1 = (i : Int)) : tnfF sy st rs (N : Int) = (childM sy st rs i (childR sy st rs), 0) := by
  unfold tnfF
  rw [if_pos hc, Int.toNat_natCast, if_pos h, hi, Int.toNat_natCast]
theorem tnf_shut {sy st : Int} {rs : List R3} {N : Nat} (hc : codeF sy st rs blankC (N : Int) = 0) (h : ¬ (nodeF sy rs N).1 = 0) : tnfF sy st rs (N : Int) = ([], 6) := by
  unfold tnfF
  rw [if_pos hc, Int.toNat_natCast, if_neg h]
theorem tnf_code {sy st : Int} {rs : List R3} {b : Int} (hc : ¬ codeF sy st rs blankC b = 0) : tnfF sy st rs b = ([], codeF sy st rs blankC b) := by
  unfold tnfF
  rw [if_neg hc]

set_option maxRecDepth 100000 in
set_option maxHeartbeats 8000000 in
theorem tnfI_any (sy st : Int) (A : Option Addr) (n k : Nat) (rs : List R3) (b : Int) (w : World) (hr : S3 w A n rs) (hn : n ≤ 1048576) :
    Calls Try.prog 57 #[.agg #[.int .i64 sy, .int .i64 st, .slice A n k], .int .i64 b] w (NewMs w (tnfF sy st rs b)) := by
  obtain ⟨W, hW_⟩ : ∃ W, W = w.alloc (.cells #[.int .i64 sy, .int .i64 st, .slice A n k] 82) := ⟨_, rfl⟩
  have b0 : Blk W w.heap.size 82 #[.int .i64 sy, .int .i64 st, .slice A n k] := by rw [hW_]; exact Blk.new w _ _
  have y0 : Below w.heap.size w W := by rw [hW_]; exact (Below.refl _ _).alloc (Nat.le_refl _) _
  have HW := Lib.hid hW_
  clear hW_
  have q0 : W.cell? ⟨w.heap.size, 0, none⟩ = some (.int .i64 sy) := b0.cell 0
  have q1 : W.cell? ⟨w.heap.size, 1, none⟩ = some (.int .i64 st) := b0.cell 1
  have q2 : W.cell? ⟨w.heap.size, 2, none⟩ = some (.slice A n k) := b0.cell 2
  have HRL := Lib.hid hr.len
  go_enter Try.func57, Try.ntmps57
  go_wp2_with fail
  rw [← HW.out]
  refine (budgeted_any _ _ _ _ _ rs _ _ (hr.below y0) hn).mono ?_
  rintro e W1 ⟨rfl, z1⟩
  have y1 : Below w.heap.size w W1 := y0.trans (z1.mono y0.size)
  have b1 := b0.below' z1
  clear q0 q1 q2
  have q0 : W1.cell? ⟨w.heap.size, 0, none⟩ = some (.int .i64 sy) := b1.cell 0
  have q1 : W1.cell? ⟨w.heap.size, 1, none⟩ = some (.int .i64 st) := b1.cell 1
  have q2 : W1.cell? ⟨w.heap.size, 2, none⟩ = some (.slice A n k) := b1.cell 2
  by_cases hc : codeF sy st rs blankC b = 0
  rotate_left
  · have HF := Lib.hid (tnf_code hc)
    go_wp2_with fail
    exact bodyPost_ret (v := .tuple #[.slice none 0 0, .int .i64 (codeF sy st rs blankC b)]) (by simp [results, Try.results57, go_sem]) rfl (newMs_nil HF.out y1)
  obtain ⟨hg, hb1, hb2⟩ := codeF_zero hc
  have hm : machB sy st rs = true := by rw [← blank_good]; exact hg
  have hsm := small_of hm
  have HSM := Lib.hid hsm
  obtain ⟨k1, k2, k3, k4, _, _⟩ := machB_parts hm
  obtain ⟨N, rfl⟩ : ∃ N : Nat, b = (N : Int) := ⟨b.toNat, by omega⟩
  have HC := Lib.hid hc
  have HCL := Lib.hid (childR_len (sy := sy) (st := st) (rs := rs) k2 k4)
  rw [hc]
  clear hm hsm hc
  go_wp2_with fail
  refine (nodeStatus_any _ _ _ _ _ rs N _ (hr.below y1) hn hg (by omega)).mono ?_
  rintro e W2 ⟨rfl, z2⟩
  have y2 := y1.trans (z2.mono y1.size)
  have b2' := b1.below' z2
  clear q0 q1 q2
  by_cases hst : (nodeF sy rs N).1 = 0
  rotate_left
  · have HF := Lib.hid (tnf_shut HC.out hst)
    generalize nodeF sy rs N = nf at *
    go_wp2_with fail
    exact bodyPost_ret (v := .tuple #[.slice none 0 0, .int .i64 6]) (by simp [results, Try.results57, go_sem]) rfl (newMs_nil HF.out y2)
  obtain ⟨i, hi, hil⟩ := nodeF_at hg hst
  have HF := Lib.hid (tnf_open HC.out hst hi)
  have HIL : Hid (i < n) := Lib.hid (by rw [← HRL.out]; exact hil)
  generalize nodeF sy rs N = nf at *
  obtain ⟨nf1, nf2, nf3⟩ := nf
  dsimp only at hst hi ⊢
  subst hst
  subst hi
  clear hil hg
  obtain ⟨W3, hW_⟩ : ∃ W_, W_ = W2.alloc (.cells #[] 82) := ⟨_, rfl⟩
  have b3 : Blk W3 W2.heap.size 82 #[] := by rw [hW_]; exact Blk.new W2 _ _
  have z3 : Below W2.heap.size W2 W3 := by rw [hW_]; exact (Below.refl _ _).alloc (Nat.le_refl _) _
  have HW3 := Lib.hid hW_
  clear hW_
  have y3 := y2.trans (z3.mono y2.size)
  have b3' := b2'.below' z3
  have o3 : OMs W3 (w.heap.size + 1) (some ⟨W2.heap.size, 0, none⟩) 0 0 [] := by
    refine OMs.nil ?_
    rw [HW3.out]
    exact (Own.lit0 W2 _ 3).mono (by have := b2'.lt; omega)
  have q0 : W3.cell? ⟨w.heap.size, 0, none⟩ = some (.int .i64 sy) := b3'.cell 0
  have q1 : W3.cell? ⟨w.heap.size, 1, none⟩ = some (.int .i64 st) := b3'.cell 1
  have q2 : W3.cell? ⟨w.heap.size, 2, none⟩ = some (.slice A n k) := b3'.cell 2
  go_upto_region 8 with fail
  rw [← HW3.out]
  go_wp2_with fail
  refine (childRules_any _ _ _ _ _ rs _ (hr.below y3) hn HSM.out k1 k2 k3 k4).mono ?_
  rintro e W4 ⟨C, cC, rfl, oC, z4⟩
  have y4 := y3.trans (z4.mono y3.size)
  have b4 := b3'.below' z4
  have o4 := o3.below z4
  have hcl := HCL.out
  have hW3 := y3.size
  clear q0 q1 q2 o3 b3' z4 z3 b3 HW3 y3 y2 b2' z2 y1 b1 z1 b0 y0
  obtain ⟨M, hM⟩ : ∃ M, M = childM sy st rs i (childR sy st rs) := ⟨_, rfl⟩
  have HGET : Hid (∀ k r, (childR sy st rs)[k]? = some r → M.take (k + 1) = M.take k ++ [⟨sy, st, rs.set i r⟩]) := Lib.hid (fun k r h => by rw [hM]; exact childM_get h)
  have HML : Hid (M.length = (childR sy st rs).length) := Lib.hid (by rw [hM]; exact childM_len _ _ _ _ _)
  rw [← hM] at HF
  clear hM
  generalize childR sy st rs = cr at *
  go_wp2_with fail
  go_loopw [10, 32] (fun v i' wr => ∃ (j : Nat) (D : Option Addr) (cd : Nat) (ts : List Mc), j ≤ cr.length ∧ i' = .int .i64 (j : Int) ∧ v = .slice D j cd ∧ OMs wr (w.heap.size + 1) D j cd ts ∧ Hid (machs ts = M.take j) ∧ Own wr W3.heap.size 169 3 C cr.length cC (cells3 cr) ∧ Blk wr w.heap.size 82 #[.int .i64 sy, .int .i64 st, .slice A n k] ∧ Below w.heap.size w wr) (fun _ i' _ => cr.length - (intOf i').toNat)
  case atStart => exact ⟨0, _, 0, [], Nat.zero_le _, rfl, rfl, o4, rfl, oC, b4, y4⟩
  case round =>
    obtain ⟨j, D, cd, ts, hj, rfl, rfl, hO, hts, hR, hB, hy⟩ := hrel
    clear o4 oC b4 y4
    by_cases hlt : j < cr.length
    · obtain ⟨r, bb, off, HT, _, rfl, hbl, e0, e1, e2⟩ := (show S3 wr C cr.length cr from hR.rd).pick hlt
      have HG := Lib.hid (HGET.out j r HT.out)
      have hil := HIL.out
      obtain ⟨W5, hW_⟩ : ∃ W_, W_ = wr.alloc (.cells #[.int .i64 r.a, .int .i64 r.b, .int .i64 r.c] 169) := ⟨_, rfl⟩
      have b5 : Blk W5 wr.heap.size 169 #[.int .i64 r.a, .int .i64 r.b, .int .i64 r.c] := by rw [hW_]; exact Blk.new wr _ _
      have z5 : Below wr.heap.size wr W5 := by rw [hW_]; exact (Below.refl _ _).alloc (Nat.le_refl _) _
      have HW5 := Lib.hid hW_
      clear hW_
      have y5 := hy.trans (z5.mono hy.size)
      have hB5 := hB.below' z5
      have hO5 := hO.below z5
      have hR5 := hR.below z5
      have q0 : W5.cell? ⟨w.heap.size, 0, none⟩ = some (.int .i64 sy) := hB5.cell 0
      have q1 : W5.cell? ⟨w.heap.size, 1, none⟩ = some (.int .i64 st) := hB5.cell 1
      have q2 : W5.cell? ⟨w.heap.size, 2, none⟩ = some (.slice A n k) := hB5.cell 2
      have p0 : W5.cell? ⟨wr.heap.size, 0, none⟩ = some (.int .i64 r.a) := b5.cell 0
      have p1 : W5.cell? ⟨wr.heap.size, 1, none⟩ = some (.int .i64 r.b) := b5.cell 1
      have p2 : W5.cell? ⟨wr.heap.size, 2, none⟩ = some (.int .i64 r.c) := b5.cell 2
      go_upto_region 11 with fail
      rw [← HW5.out]
      go_wp2_with fail
      refine (child_any sy st A n k rs i r W5 (hr.below y5) hn hil).mono ?_
      rintro e W6 ⟨A6, c6, rfl, o6, z6⟩
      generalize rs.set i r = rs' at *
      have y6 := y5.trans (z6.mono y5.size)
      have hB6 := hB5.below' z6
      have hO6 := hO5.below z6
      have hR6 := hR5.below z6
      have h56 := z6.size
      clear q0 q1 q2 p0 p1 p2 e0 e1 e2 HW5
      go_wp2_with (at_builtin; refine wpList_append_Own rfl (.tmp 36) (.tmp 41) rfl elMach (lo := w.heap.size + 1) rfl (hO6.alloc _).spine rfl (Mc.new W6 ⟨sy, st, A6, c6, rs'⟩) (by have := Mc.one [⟨sy, st, A6, c6, rs'⟩]; simpa using this) (by omega) (by simp only [maxLen]; omega) (by have := hB6.lt; simp; omega) ?_; intro A7 c7 W7 h7 hg7 hw7)
      have hO7 : OMs W7 (w.heap.size + 1) A7 (j + 1) c7 (ts ++ [⟨sy, st, A6, c6, rs'⟩]) := OMs.snoc (wa := W5) hO5 (Nat.le_refl _) (hO6.alloc _) h7 hg7 (o6.alloc _) (by have := hB5.lt; omega)
      have hR7 := Own.grown_apt (hR6.alloc _) (hO6.alloc _).spine hg7 (by decide)
      have hy7 : Below w.heap.size w W7 := Own.below_of ((hO6.alloc _).spine.mono (Nat.le_succ _)) (y6.alloc y6.size _) hg7 (by have := y6.size; simp; omega)
      have hB7 : Blk W7 w.heap.size 82 #[.int .i64 sy, .int .i64 st, .slice A n k] := (hg7.block w.heap.size (by have := hB6.lt; simp; omega) (fun e => by have := (hO6.alloc (.cells #[.int .i64 sy, .int .i64 st, .slice A6 rs'.length c6] 82)).spine.blk_ge _ e.symm; omega)).trans (hB6.alloc _)
      have HTS : Hid (machs (ts ++ [⟨sy, st, A6, c6, rs'⟩]) = M.take (j + 1)) := Lib.hid (by rw [HG.out, ← hts.out]; simp [machs, Mc.mach])
      go_wp2_with fail
      go_roundw
      case rel => exact ⟨j + 1, A7, c7, _, by omega, by go_num, rfl, hO7, HTS, hR7, hB7, hy7⟩
      case measure => simp [intOf]; omega
    · obtain rfl : j = cr.length := by omega
      have hM : machs ts = M := by rw [hts.out, List.take_of_length_le (by rw [HML.out]; exact Nat.le_refl _)]
      have HM := Lib.hid hM
      clear hM
      go_wp2_with fail
      have hml := HML.out
      exact bodyPost_ret (v := .tuple #[.slice D cr.length cd, .int .i64 0]) (by simp [results, Try.results57, go_sem]) rfl (by rw [← hml] at hO ⊢; exact newMs_of HF.out HM.out (hO.mono (Nat.le_succ _)) hy)
end Go.Proofs.Ythipbeggaeogcaa
