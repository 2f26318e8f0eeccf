/-
  Contract of laws.b10Sum.
-/
import Derived.Test.YtbpofkggoolmpaaPkMeasures1
import Derived.Test.YtbpofkggoolmpaaPkMeasures7
import Derived.Test.YtbpofkggoolmpaaPkMeasures10
import Derived.Test.YtbpofkggoolmpaaPkMeasures11
import Derived.Test.YtbpofkggoolmpaaPkMeasures12
import Derived.Test.YtbpofkggoolmpaaRows
namespace Go.Proofs.Ytbpofkggoolmpaa
open Go.RowKit

section
variable {sy : Int} {rs : List R3} {c : Conf}
theorem visTo_nonneg (i : Nat) (a : Int) (n : Nat) : ∀ x ∈ visTo sy rs c i a n, 0 ≤ x := by
  induction n with
  | zero => intro x hx; simp [visTo] at hx
  | succ n ih =>
    intro x hx
    rcases List.mem_append.1 hx with hx | hx
    · exact ih x hx
    · rw [List.mem_singleton.1 hx]; omega
end
theorem sum_take_le {xs : List Int} (h : ∀ x ∈ xs, 0 ≤ x) (j : Nat) : 0 ≤ (xs.take j).sum ∧ (xs.take j).sum ≤ xs.sum := by
  have h1 := sum_nonneg (xs := xs.take j) fun x hx => h x (List.mem_of_mem_take hx)
  have h2 := sum_nonneg (xs := xs.drop j) fun x hx => h x (List.mem_of_mem_drop hx)
  have h3 : xs.sum = (xs.take j).sum + (xs.drop j).sum := by rw [← List.sum_append, List.take_append_drop]
  omega
set_option maxHeartbeats 1000000 in
theorem b10Sum_any (A : Option Addr) (n c : Nat) (xs : List Int) (w : World) (hx : SI w A n xs) (hn : n ≤ 1048576) (h0 : ∀ x ∈ xs, 0 ≤ x) (hs : xs.sum ≤ 1000000000) :
    Calls Try.prog 32 #[.slice A n c] w fun e w' => e = .returned (.int .i64 xs.sum) ∧ w = w' := by
  have HL := Lib.hid hx.len
  have HS := Lib.hid (fun j => sum_take_le h0 j)
  clear h0
  go_enter Try.func32, Try.ntmps32
  go_wp2
  go_loop [3, 4] (fun t i => ∃ j : Nat, j ≤ n ∧ i = .int .i64 (j : Int) ∧ t = .int .i64 (xs.take j).sum) (fun _ i => n - (intOf i).toNat)
  case atStart => exact ⟨0, by omega, rfl, rfl⟩
  case round =>
    obtain ⟨j, hj, rfl, rfl⟩ := hrel
    by_cases hjn : j < n
    · obtain ⟨b, off, rfl, _, hc⟩ := hx.at_ hjn
      obtain ⟨y, hy⟩ : ∃ y, y = xs[j]'(by rw [HL.out]; exact hjn) := ⟨_, rfl⟩
      have HN := Lib.hid (show (xs.take (j + 1)).sum = (xs.take j).sum + y by
        rw [List.take_succ_eq_append_getElem (by rw [HL.out]; exact hjn), List.sum_append, ← hy]; simp)
      rw [← hy] at hc
      have b1 := HS.out j
      have b2 := HS.out (j + 1)
      have h3 := HN.out
      obtain ⟨s, hs'⟩ : ∃ s, s = (xs.take j).sum := ⟨_, rfl⟩
      obtain ⟨s2, hs2⟩ : ∃ s, s = (xs.take (j + 1)).sum := ⟨_, rfl⟩
      rw [← hs'] at b1 h3 ⊢
      rw [← hs2] at b2 h3
      have w1 : IntKind.i64.wrap (s + y) = s2 := by rw [← h3]; exact IntWalk.i64_in _ (by omega)
      have H2 := Lib.hid hs2
      clear hy hs' hs2 h3 HN
      go_wp2
      exact ⟨⟨j + 1, by omega, by go_num, by rw [H2.out]⟩, by simp [intOf]; omega⟩
    · have HQ : Hid ((xs.take j).sum = xs.sum) := Lib.hid (by rw [List.take_of_length_le (by rw [HL.out]; omega)])
      generalize (xs.take j).sum = s at *
      go_wp2
      go_ret
      exact ⟨ret_int HQ.out, rfl⟩
end Go.Proofs.Ytbpofkggoolmpaa

/-
  Contract of impl.CrossingSequence, for short runs that have room.
-/
namespace Go.Proofs.Ytbpofkggoolmpaa
open Go.RowKit

set_option maxRecDepth 100000 in
set_option maxHeartbeats 4000000 in
theorem crossingSeq_any (sy st : Int) (A : Option Addr) (n k : Nat) (rs : List R3) (c : Conf) (B : Option Addr) (m a : Nat) (C : Option Addr) (l d : Nat) (at_ : Int) (N i : Nat) (w : World) (hr : S3 w A n rs) (hx : SI w B m c.xs) (hy : SI w C l c.ys) (hn : n ≤ 1048576) (hm : m ≤ 1048576) (hl : l ≤ 1048576)
    (hg : goodC sy st rs c) (hN0 : 1 ≤ N) (hN : N ≤ 60) (hrun : runN sy rs N c = some i) (ha0 : -20000 ≤ at_) (ha1 : at_ ≤ 20000) :
    Calls Try.prog 33 #[.agg #[.int .i64 sy, .int .i64 st, .slice A n k], .agg #[.int .i64 c.q, .slice B m a, .slice C l d], .int .i64 at_, .int .i64 (N : Int)] w (NewI2 w (crF sy rs c at_ i, 0)) := by
  obtain ⟨W, hW_⟩ : ∃ W, W = (w.alloc (.cells #[.int .i64 sy, .int .i64 st, .slice A n k] 36)).alloc (.cells #[.int .i64 c.q, .slice B m a, .slice C l d] 50) := ⟨_, rfl⟩
  have s_1 : (w.alloc (.cells #[.int .i64 sy, .int .i64 st, .slice A n k] 36)).heap.size = w.heap.size + 1 := by simp
  have b0 : Blk W w.heap.size 36 #[.int .i64 sy, .int .i64 st, .slice A n k] := by rw [hW_]; exact (Blk.new w _ _).alloc _
  have b1 : Blk W (w.heap.size + 1) 50 #[.int .i64 c.q, .slice B m a, .slice C l d] := by rw [hW_, ← s_1]; exact Blk.new _ _ _
  have y0 : Below w.heap.size w W := by rw [hW_]; exact ((Below.refl _ _).alloc (Nat.le_refl _) _).alloc (by simp) _
  have HW := Lib.hid hW_
  clear hW_ s_1
  have HRC := Lib.hid (runCode_any sy st A n k rs c B m a C l d (N : Int) W (hr.below y0) (hx.below y0) (hy.below y0) hn hm hl)
  have hcode : codeF sy st rs c (N : Int) = 0 := by
    unfold codeF
    rw [show validConfB sy st rs c.q c.xs c.ys = true from hg, if_pos rfl, if_pos]
    rw [inB_iff]; omega
  rw [hcode] at HRC
  clear hcode
  have HRUN := Lib.hid hrun
  have HG := Lib.hid hg
  have HIN : Hid (inB at_ (-20000) 20000 = true) := Lib.hid (by rw [inB_iff]; omega)
  clear hrun hg
  have q0 : W.cell? ⟨w.heap.size, 0, none⟩ = some (.int .i64 sy) := b0.cell 0
  have q1 : W.cell? ⟨w.heap.size, 1, none⟩ = some (.int .i64 st) := b0.cell 1
  have q2 : W.cell? ⟨w.heap.size, 2, none⟩ = some (.slice A n k) := b0.cell 2
  have r0 : W.cell? ⟨(w.heap.size + 1), 0, none⟩ = some (.int .i64 c.q) := b1.cell 0
  have r1 : W.cell? ⟨(w.heap.size + 1), 1, none⟩ = some (.slice B m a) := b1.cell 1
  have r2 : W.cell? ⟨(w.heap.size + 1), 2, none⟩ = some (.slice C l d) := b1.cell 2
  go_enter Try.func33, Try.ntmps33
  go_upto_region 1 with fail
  rw [← HW.out]
  go_wp2_with fail
  refine HRC.out.mono ?_
  rintro e W1 ⟨rfl, z1⟩
  have c0 := b0.below' z1
  have c1 := b1.below' z1
  have y1 := y0.trans (z1.mono y0.size)
  have hwz : w.heap.size + 1 < W1.heap.size := c1.lt
  clear q0 q1 q2 r0 r1 r2 z1 b0 b1
  go_upto_region 6 with (go_at_call 104; refine (within_is HIN.out _).mono ?_; rintro e w' ⟨rfl, rfl⟩)
  obtain ⟨W2, hW_⟩ : ∃ W_, W_ = W1.alloc (.cells #[.int .i64 at_, .slice none 0 0] 162) := ⟨_, rfl⟩
  have b3 : Blk W2 W1.heap.size 162 #[.int .i64 at_, .slice none 0 0] := by rw [hW_]; exact Blk.new W1 _ _
  have z2 : Below W1.heap.size W1 W2 := by rw [hW_]; exact (Below.refl _ _).alloc (Nat.le_refl _) _
  have HW2 := Lib.hid hW_
  clear hW_
  have y2 := y1.trans (z2.mono y1.size)
  have c0b := c0.below' z2
  have c1b := c1.below' z2
  clear c0 c1
  have q0 : W2.cell? ⟨w.heap.size, 0, none⟩ = some (.int .i64 sy) := c0b.cell 0
  have q1 : W2.cell? ⟨w.heap.size, 1, none⟩ = some (.int .i64 st) := c0b.cell 1
  have q2 : W2.cell? ⟨w.heap.size, 2, none⟩ = some (.slice A n k) := c0b.cell 2
  have r0 : W2.cell? ⟨(w.heap.size + 1), 0, none⟩ = some (.int .i64 c.q) := c1b.cell 0
  have r1 : W2.cell? ⟨(w.heap.size + 1), 1, none⟩ = some (.slice B m a) := c1b.cell 1
  have r2 : W2.cell? ⟨(w.heap.size + 1), 2, none⟩ = some (.slice C l d) := c1b.cell 2
  have hd0 : CrD w W1.heap.size sy rs c at_ 0 (fun x => x = W1.heap.size) W2 := ⟨none, 0, rfl, fun x hx => by simp [blk] at hx, y1.size, b3, Own.nil⟩
  have hb3 := b3.lt
  have HP := Lib.hid (fun i h => posF_bound (i := i) HG.out h)
  have HF := Lib.hid (follow_any w W2 sy st A n k rs c B m a C l d N 160 (.pointer (some ⟨W1.heap.size, 0, none⟩)) (.pointer (some ⟨W1.heap.size, 0, none⟩)) _ _ (fun i => CrD w W1.heap.size sy rs c at_ i) (fun i => CrD w W1.heap.size sy rs c at_ i) (fun x => x = W1.heap.size)
    hr (hx.below y2) (hy.below y2) hn hm hl HG.out (by omega) y2 (fun b hb => by subst hb; exact hb3) hd0 (fun i => CrD.st _ _ _ _ _ _ _) (fun i => CrD.st _ _ _ _ _ _ _) (crossM_config _) (crossM_step _) Try.call321 Try.call322
    (fun i g W hi hal hS => (crossConfig_any g W1.heap.size _ W).mono fun e W' ⟨he, e'⟩ => ⟨he, by rw [← e']; exact hS⟩)
    (fun i g W hi hal hh hS => crossStep_any w g sy st A n k rs c at_ i W1.heap.size _ _ W rfl rfl (rule_move (hal.good HG.out) hh) (by have := HP.out i hal; omega) (by have := HP.out i hal; omega) (by omega) (by omega) (by omega) hS))
  clear b3 hd0 hb3
  go_upto_region 7 with fail
  rw [← HW2.out]
  go_wp2_with fail
  refine HF.out.mono ?_
  rintro e W3 (⟨i', g, _, hE, rfl, hS⟩ | ⟨i', hE, rfl, hz⟩)
  rotate_left
  · have := runN_full hE
    rw [HRUN.out] at this
    cases this
  obtain rfl : i = i' := by
    have := runN_ended hE
    rw [HRUN.out] at this
    exact Option.some.inj this
  have hlen := cross_len (sy := sy) (rs := rs) (c := c) at_ i
  have hi64 := hE.1
  obtain ⟨P, pc, hq⟩ := hS.crx
  have HFIN : Hid (∀ ps len W', ps = crF sy rs c at_ i → ps.length = len → Own W' w.heap.size 2 1 P len pc (ints ps) → Below w.heap.size w W' → NewI2 w (crF sy rs c at_ i, 0) (.returned (.tuple #[.slice P len pc, .int .i64 0])) W') := Lib.hid (fun ps len W' h hl h1 h2 => by subst h hl; exact ⟨P, pc, rfl, h1, h2⟩)
  obtain ⟨hc, hhc⟩ : ∃ v, v = haltC sy rs (itC sy rs c i) := ⟨_, rfl⟩
  rw [← hhc]
  obtain ⟨ps, hps⟩ : ∃ ps, ps = crF sy rs c at_ i := ⟨_, rfl⟩
  rw [← hps] at hq hlen
  have HPS := Lib.hid hps
  obtain ⟨len, hle⟩ : ∃ len, ps.length = len := ⟨_, rfl⟩
  rw [hle] at hq hlen
  have HLE := Lib.hid hle
  clear hhc hS hE hps hle
  have x1 : W3.cell? ⟨W1.heap.size, 1, none⟩ = some (.slice P len pc) := hq.box.cell 1
  have g64 : ¬ (64 : Int) < (len : Int) := by omega
  clear q0 q1 q2 r0 r1 r2 HF HP
  go_wp2_with fail
  exact bodyPost_ret (v := .tuple #[.slice P len pc, .int .i64 0]) (by simp [results, Try.results33, go_sem]) rfl (HFIN.out ps len _ HPS.out HLE.out hq.pos hq.low)
end Go.Proofs.Ytbpofkggoolmpaa

/-
  The walk of the law FnMeasures: it returns true, and nothing that was there before has turned.
-/
namespace Go.Proofs.Ytbpofkggoolmpaa
open Go.RowKit

set_option maxRecDepth 100000 in
set_option maxHeartbeats 800000 in
theorem lawMeasures (A : Option Addr) (n c : Nat) (xs : List Int) (B : Option Addr) (m d : Nat) (ys : List Int) (w : World) (hx : SB w A n xs) (hy : SB w B m ys) (hA : ∀ k, blk A = some k → k < w.heap.size) (hn : n ≤ 9223372036854775807) (hm : m ≤ 9223372036854775807) :
    Calls Try.prog 5 #[.slice A n c, .slice B m d] w fun e w' => e = .returned (.bool true) ∧ Below w.heap.size w w' := by
  by_cases hlong : 1048576 < n
  · go_enter Try.func5, Try.ntmps5
    go_wp2_with (go_at_call 24; refine (b10Long_yes _ _ _ _ hlong).mono ?_; rintro e w' ⟨rfl, rfl⟩)
    go_ret
    exact ⟨rfl, Below.refl _ _⟩
  by_cases hlong2 : 1048576 < m
  · go_enter Try.func5, Try.ntmps5
    go_wp2_with (go_at_call 24; first | (refine (b10Long_no A n c w hlong).mono ?_; rintro e w' ⟨rfl, rfl⟩) | (refine (b10Long_yes B m d w hlong2).mono ?_; rintro e w' ⟨rfl, rfl⟩))
    go_ret
    exact ⟨rfl, Below.refl _ _⟩
  have HS := Lib.hid (b10Small_any A n c xs w hx hA hn)
  have HY := Lib.hid hy
  clear hx hy hA
  go_enter Try.func5, Try.ntmps5
  go_upto_region 3 with (go_at_call 24; first | (refine (b10Long_no A n c w hlong).mono ?_; rintro e w' ⟨rfl, rfl⟩) | (refine (b10Long_no B m d w hlong2).mono ?_; rintro e w' ⟨rfl, rfl⟩))
  clear hlong hlong2
  go_wp2_with fail
  refine HS.out.mono ?_
  rintro e w1 ⟨st, R, rc, rs, q, L, lc, ls, Y, yc, us, rfl, hR, hL, hY, hS, z1⟩
  have hg := hS.good
  have hst1 := hS.st1
  have hst2 := hS.st2
  have hll := hS.ll
  have hyl := hS.yl
  obtain ⟨ns, rfl⟩ : ∃ ns : Nat, st = (ns : Int) := ⟨st.toNat, by omega⟩
  have HR := Lib.hid hR.as3
  have HL := Lib.hid hL.asI
  have HYY := Lib.hid hY.asI
  have hrl : rs.length ≤ 12 := by
    obtain ⟨_, _, _, _, h5, _⟩ := conf_parts hg
    omega
  have HZ1 := Lib.hid z1
  clear hR hL hY hS z1 HS
  obtain ⟨W2, hW_⟩ : ∃ W, W = (w1.alloc (.cells #[.int .i64 2, .int .i64 (ns : Int), .slice R rs.length rc] 36)).alloc (.cells #[.int .i64 q, .slice L ls.length lc, .slice Y us.length yc] 50) := ⟨_, rfl⟩
  have s_1 : (w1.alloc (.cells #[.int .i64 2, .int .i64 (ns : Int), .slice R rs.length rc] 36)).heap.size = w1.heap.size + 1 := by simp
  have b0 : Blk W2 w1.heap.size 36 #[.int .i64 2, .int .i64 (ns : Int), .slice R rs.length rc] := by rw [hW_]; exact (Blk.new w1 _ _).alloc _
  have b1 : Blk W2 (w1.heap.size + 1) 50 #[.int .i64 q, .slice L ls.length lc, .slice Y us.length yc] := by rw [hW_, ← s_1]; exact Blk.new _ _ _
  have y2 : Below w1.heap.size w1 W2 := by rw [hW_]; exact ((Below.refl _ _).alloc (Nat.le_refl _) _).alloc (by simp) _
  have HW2 := Lib.hid hW_
  clear hW_ s_1
  have HZ2 := Lib.hid (HZ1.out.trans (y2.mono HZ1.out.size))
  go_upto_region 4 with fail
  rw [← HW2.out]
  go_wp2_with fail
  refine (b10At_low B m d ys 0 50 _ (HY.out.below HZ2.out) hm (by omega) (by omega) (by omega)).mono ?_
  rintro e2 w2 ⟨v, rfl, hv, rfl⟩
  obtain ⟨N, hN⟩ : ∃ N : Nat, 1 + (v : Int) = (N : Int) := ⟨1 + v, by omega⟩
  have hN1 : 1 ≤ N ∧ N ≤ 50 := by omega
  have v1 : IntKind.i64.wrap (1 + (v : Int)) = (N : Int) := by rw [hN]; exact IntWalk.i64_in _ (by omega)
  obtain ⟨hN1, hN2⟩ := hN1
  clear hN hv
  obtain ⟨i, hrun, hiN⟩ := runN_some (sy := 2) (rs := rs) N ⟨q, ls, us⟩ (by show ls.length + 2 * N ≤ 200; omega) (by show us.length + 2 * N ≤ 200; omega)
  have hal := runN_alive hrun
  have hrm : runMachF 2 (ns : Int) rs q ls us (N : Int) = (itC 2 rs ⟨q, ls, us⟩ i, (i : Int), haltC 2 rs (itC 2 rs ⟨q, ls, us⟩ i), 0) := by
    unfold runMachF
    rw [show validConfB 2 (ns : Int) rs q ls us = true from hg, if_pos rfl, if_pos (by rw [inB_iff]; omega), Int.toNat_natCast, hrun]
  have HM := Lib.hid (fun W' (z : Below w1.heap.size w1 W') => measureRun_any 2 (ns : Int) R rs.length rc rs ⟨q, ls, us⟩ L ls.length lc Y us.length yc N i W' (HR.out.below z) (HL.out.below z) (HYY.out.below z) (by omega) (by omega) (by omega) hg hN1 (by omega) hrun)
  have HRM := Lib.hid (fun W' (z : Below w1.heap.size w1 W') => runMachine_any 2 (ns : Int) R rs.length rc rs q L ls.length lc ls Y us.length yc us (N : Int) W' (HR.out.below z) (HL.out.below z) (HYY.out.below z) (by omega) (by omega) (by omega))
  rw [hrm] at HRM
  have HV := Lib.hid (fun W' (z : Below w1.heap.size w1 W') => visitCounts_any 2 ns R rs.length rc rs ⟨q, ls, us⟩ L ls.length lc Y us.length yc N i W' (HR.out.below z) (HL.out.below z) (HYY.out.below z) (by omega) (by omega) (by omega) hg hN1 (by omega) hrun (by omega) hal)
  have HSC := Lib.hid (fun W' (z : Below w1.heap.size w1 W') => stateCounts_any 2 ns R rs.length rc rs ⟨q, ls, us⟩ L ls.length lc Y us.length yc N i W' (HR.out.below z) (HL.out.below z) (HYY.out.below z) (by omega) (by omega) (by omega) hg hN1 (by omega) hrun)
  have HRC := Lib.hid (fun W' (z : Below w1.heap.size w1 W') => ruleCounts_any 2 ns R rs.length rc rs ⟨q, ls, us⟩ L ls.length lc Y us.length yc N i W' (HR.out.below z) (HL.out.below z) (HYY.out.below z) (by omega) (by omega) (by omega) hg hN1 (by omega) hrun)
  have HCR := Lib.hid (fun at_ (h0 : -20000 ≤ at_) (h1 : at_ ≤ 20000) W' (z : Below w1.heap.size w1 W') => crossingSeq_any 2 (ns : Int) R rs.length rc rs ⟨q, ls, us⟩ L ls.length lc Y us.length yc at_ N i W' (HR.out.below z) (HL.out.below z) (HYY.out.below z) (by omega) (by omega) (by omega) hg hN1 (by omega) hrun h0 h1)
  have HXL := Lib.hid (fun a => cross_law hg a i hal)
  have HXN := Lib.hid (fun a => cross_len (sy := 2) (rs := rs) (c := ⟨q, ls, us⟩) a i)
  have hvs := vis_law (sy := 2) (rs := rs) (c := ⟨q, ls, us⟩) i
  have hvl := visTo_len (sy := 2) (rs := rs) (c := ⟨q, ls, us⟩) (i + 1) (loF 2 rs ⟨q, ls, us⟩ (i + 1)) (manyF 2 rs ⟨q, ls, us⟩ (i + 1))
  have hv0 := visTo_nonneg (sy := 2) (rs := rs) (c := ⟨q, ls, us⟩) (i + 1) (loF 2 rs ⟨q, ls, us⟩ (i + 1)) (manyF 2 rs ⟨q, ls, us⟩ (i + 1))
  have hmi := many_int (sy := 2) (rs := rs) (c := ⟨q, ls, us⟩) i
  have hlb := lo_bound hg i hal
  have hl0 := lo_le (sy := 2) (rs := rs) (c := ⟨q, ls, us⟩) (i + 1)
  have hns : ns ≤ 2 := by omega
  clear hrm hrun hal hg hst1 hst2 hll hyl HR HL HYY
  unfold MeasP VisitP at *
  generalize visTo 2 rs ⟨q, ls, us⟩ (i + 1) (loF 2 rs ⟨q, ls, us⟩ (i + 1)) (manyF 2 rs ⟨q, ls, us⟩ (i + 1)) = vs at *
  generalize manyF 2 rs ⟨q, ls, us⟩ (i + 1) = num at *
  generalize loF 2 rs ⟨q, ls, us⟩ (i + 1) = lo at *
  generalize hiF 2 rs ⟨q, ls, us⟩ (i + 1) = hi at *
  generalize crF 2 rs ⟨q, ls, us⟩ = cf at *
  generalize itC 2 rs ⟨q, ls, us⟩ i = ce at *
  generalize haltC 2 rs ce = hc at *
  have a0 : W2.cell? ⟨w1.heap.size, 0, none⟩ = some (.int .i64 2) := b0.cell 0
  have a1 : W2.cell? ⟨w1.heap.size, 1, none⟩ = some (.int .i64 (ns : Int)) := b0.cell 1
  have a2 : W2.cell? ⟨w1.heap.size, 2, none⟩ = some (.slice R rs.length rc) := b0.cell 2
  have p0 : W2.cell? ⟨(w1.heap.size + 1), 0, none⟩ = some (.int .i64 q) := b1.cell 0
  have p1 : W2.cell? ⟨(w1.heap.size + 1), 1, none⟩ = some (.slice L ls.length lc) := b1.cell 1
  have p2 : W2.cell? ⟨(w1.heap.size + 1), 2, none⟩ = some (.slice Y us.length yc) := b1.cell 2
  go_wp2_with fail
  clear v1
  refine (HM.out W2 y2).mono ?_
  rintro e W3 ⟨sp, ch, tu, mk, rfl, hmk, hch, z3⟩
  have c0 := b0.below' z3
  have c1 := b1.below' z3
  have y3 := y2.trans (z3.mono y2.size)
  clear a0 a1 a2 p0 p1 p2 b0 b1 z3
  obtain ⟨W4, hW_⟩ : ∃ W_, W_ = W3.alloc (.cells #[.int .i64 (i : Int), .bool hc, .int .i64 sp, .int .i64 lo, .int .i64 hi, .int .i64 ch, .int .i64 tu, .int .i64 mk] 55) := ⟨_, rfl⟩
  have b2 : Blk W4 W3.heap.size 55 #[.int .i64 (i : Int), .bool hc, .int .i64 sp, .int .i64 lo, .int .i64 hi, .int .i64 ch, .int .i64 tu, .int .i64 mk] := by rw [hW_]; exact Blk.new W3 _ _
  have z4 : Below W3.heap.size W3 W4 := by rw [hW_]; exact (Below.refl _ _).alloc (Nat.le_refl _) _
  have HW4 := Lib.hid hW_
  clear hW_
  have y4 := y3.trans (z4.mono y3.size)
  have d0 := c0.below' z4
  have d1 := c1.below' z4
  clear c0 c1 y3 z4
  have a0 : W4.cell? ⟨w1.heap.size, 0, none⟩ = some (.int .i64 2) := d0.cell 0
  have a1 : W4.cell? ⟨w1.heap.size, 1, none⟩ = some (.int .i64 (ns : Int)) := d0.cell 1
  have a2 : W4.cell? ⟨w1.heap.size, 2, none⟩ = some (.slice R rs.length rc) := d0.cell 2
  have p0 : W4.cell? ⟨(w1.heap.size + 1), 0, none⟩ = some (.int .i64 q) := d1.cell 0
  have p1 : W4.cell? ⟨(w1.heap.size + 1), 1, none⟩ = some (.slice L ls.length lc) := d1.cell 1
  have p2 : W4.cell? ⟨(w1.heap.size + 1), 2, none⟩ = some (.slice Y us.length yc) := d1.cell 2
  go_upto_region 6 with fail
  rw [← HW4.out]
  go_wp2_with fail
  refine (HRM.out W4 y4).mono ?_
  rintro e W5 ⟨L9, c9, R9, d9, rfl, _, _, _, z5⟩
  dsimp only
  obtain ⟨W6, hW_⟩ : ∃ W_, W_ = W5.alloc (.cells #[.int .i64 ce.q, .slice L9 ce.xs.length c9, .slice R9 ce.ys.length d9] 50) := ⟨_, rfl⟩
  have b6 : Blk W6 W5.heap.size 50 #[.int .i64 ce.q, .slice L9 ce.xs.length c9, .slice R9 ce.ys.length d9] := by rw [hW_]; exact Blk.new W5 _ _
  have z6 : Below W5.heap.size W5 W6 := by rw [hW_]; exact (Below.refl _ _).alloc (Nat.le_refl _) _
  have HW6 := Lib.hid hW_
  clear hW_
  have z56 := z5.trans (z6.mono z5.size)
  have y6 := y4.trans (z56.mono y4.size)
  have e0 := d0.below' z56
  have e1 := d1.below' z56
  have e2 := b2.below' z56
  clear d0 d1 y4 z5 z6 z56 a0 a1 a2 p0 p1 p2 b2 b6
  have a0 : W6.cell? ⟨w1.heap.size, 0, none⟩ = some (.int .i64 2) := e0.cell 0
  have a1 : W6.cell? ⟨w1.heap.size, 1, none⟩ = some (.int .i64 (ns : Int)) := e0.cell 1
  have a2 : W6.cell? ⟨w1.heap.size, 2, none⟩ = some (.slice R rs.length rc) := e0.cell 2
  have p0 : W6.cell? ⟨(w1.heap.size + 1), 0, none⟩ = some (.int .i64 q) := e1.cell 0
  have p1 : W6.cell? ⟨(w1.heap.size + 1), 1, none⟩ = some (.slice L ls.length lc) := e1.cell 1
  have p2 : W6.cell? ⟨(w1.heap.size + 1), 2, none⟩ = some (.slice Y us.length yc) := e1.cell 2
  go_upto_region 7 with fail
  rw [← HW6.out]
  go_wp2_with fail
  refine (HV.out W6 y6).mono ?_
  rintro e W7 ⟨A7, c7, rfl, o7, z7⟩
  have y7 := y6.trans (z7.mono y6.size)
  have f0 := e0.below' z7
  have f1 := e1.below' z7
  have f2 := e2.below' z7
  clear e0 e1 e2 y6 z7 a0 a1 a2 p0 p1 p2
  have a0 : W7.cell? ⟨w1.heap.size, 0, none⟩ = some (.int .i64 2) := f0.cell 0
  have a1 : W7.cell? ⟨w1.heap.size, 1, none⟩ = some (.int .i64 (ns : Int)) := f0.cell 1
  have a2 : W7.cell? ⟨w1.heap.size, 2, none⟩ = some (.slice R rs.length rc) := f0.cell 2
  have p0 : W7.cell? ⟨(w1.heap.size + 1), 0, none⟩ = some (.int .i64 q) := f1.cell 0
  have p1 : W7.cell? ⟨(w1.heap.size + 1), 1, none⟩ = some (.slice L ls.length lc) := f1.cell 1
  have p2 : W7.cell? ⟨(w1.heap.size + 1), 2, none⟩ = some (.slice Y us.length yc) := f1.cell 2
  go_wp2_with fail
  refine (HSC.out W7 y7).mono ?_
  rintro e W8 ⟨A8, c8, x8, rfl, o8, sx8, z8⟩
  have y8 := y7.trans (z8.mono y7.size)
  have g0 := f0.below' z8
  have g1 := f1.below' z8
  have g2 := f2.below' z8
  have o78 := o7.below z8
  clear f0 f1 f2 y7 z8 a0 a1 a2 p0 p1 p2 o7
  have a0 : W8.cell? ⟨w1.heap.size, 0, none⟩ = some (.int .i64 2) := g0.cell 0
  have a1 : W8.cell? ⟨w1.heap.size, 1, none⟩ = some (.int .i64 (ns : Int)) := g0.cell 1
  have a2 : W8.cell? ⟨w1.heap.size, 2, none⟩ = some (.slice R rs.length rc) := g0.cell 2
  have p0 : W8.cell? ⟨(w1.heap.size + 1), 0, none⟩ = some (.int .i64 q) := g1.cell 0
  have p1 : W8.cell? ⟨(w1.heap.size + 1), 1, none⟩ = some (.slice L ls.length lc) := g1.cell 1
  have p2 : W8.cell? ⟨(w1.heap.size + 1), 2, none⟩ = some (.slice Y us.length yc) := g1.cell 2
  go_wp2_with fail
  refine (HRC.out W8 y8).mono ?_
  rintro e W9 ⟨A9, c9', x9, rfl, o9, sx9, z9⟩
  have y9 := y8.trans (z9.mono y8.size)
  have k0 := g0.below' z9
  have k1 := g1.below' z9
  have k2 := g2.below' z9
  have o79 := o78.below z9
  have o89 := o8.below z9
  have HZ9 := Lib.hid (HZ1.out.trans (y9.mono HZ1.out.size))
  clear g0 g1 g2 y8 z9 a0 a1 a2 p0 p1 p2 o78 o8
  have HB7 : Hid (Calls Try.prog 32 #[.slice A7 num c7] W9 fun e w' => e = .returned (.int .i64 ((i : Int) + 1)) ∧ W9 = w') := Lib.hid (by
    have := b10Sum_any A7 num c7 vs W9 o79.rd (by omega) hv0 (by omega)
    rw [hvs] at this; exact this)
  have HB8 : Hid (Calls Try.prog 32 #[.slice A8 ns c8] W9 fun e w' => e = .returned (.int .i64 ((i : Int) + 1)) ∧ W9 = w') := Lib.hid (by
    have := b10Sum_any A8 ns c8 x8 W9 o89.rd (by omega) sx8.2.1 (by have := sx8.2.2; omega)
    rw [sx8.2.2] at this; exact this)
  have HB9 : Hid (Calls Try.prog 32 #[.slice A9 rs.length c9'] W9 fun e w' => e = .returned (.int .i64 (i : Int)) ∧ W9 = w') := Lib.hid (by
    have := b10Sum_any A9 rs.length c9' x9 W9 o9.rd (by omega) sx9.2.1 (by have := sx9.2.2; omega)
    rw [sx9.2.2] at this; exact this)
  have w1_ : IntKind.i64.wrap ((i : Int) + 1) = (i : Int) + 1 := IntWalk.i64_in _ (by omega)
  have w2_ : IntKind.i64.wrap (hi - lo) = hi - lo := IntWalk.i64_in _ (by omega)
  have w3_ : IntKind.i64.wrap (hi - lo + 1) = (num : Int) := by rw [hmi]; exact IntWalk.i64_in _ (by omega)
  have x0 : W9.cell? ⟨W3.heap.size, 0, none⟩ = some (.int .i64 (i : Int)) := k2.cell 0
  have x1 : W9.cell? ⟨W3.heap.size, 1, none⟩ = some (.bool hc) := k2.cell 1
  have x2 : W9.cell? ⟨W3.heap.size, 2, none⟩ = some (.int .i64 sp) := k2.cell 2
  have x3 : W9.cell? ⟨W3.heap.size, 3, none⟩ = some (.int .i64 lo) := k2.cell 3
  have x4 : W9.cell? ⟨W3.heap.size, 4, none⟩ = some (.int .i64 hi) := k2.cell 4
  have x5 : W9.cell? ⟨W3.heap.size, 5, none⟩ = some (.int .i64 ch) := k2.cell 5
  have x6 : W9.cell? ⟨W3.heap.size, 6, none⟩ = some (.int .i64 tu) := k2.cell 6
  have x7 : W9.cell? ⟨W3.heap.size, 7, none⟩ = some (.int .i64 mk) := k2.cell 7
  have HLB := Lib.hid hlb
  have HL0 := Lib.hid hl0
  clear o79 o89 o9 sx8 sx9 hvs hvl hv0 hmi hlb hl0 HM HRM HV HSC HRC
  go_upto_region 12 with fail
  go_wp2_with fail
  refine HB7.out.mono ?_
  rintro e w' ⟨rfl, rfl⟩
  go_wp2_with fail
  refine HB8.out.mono ?_
  rintro e w' ⟨rfl, rfl⟩
  go_wp2_with fail
  refine HB9.out.mono ?_
  rintro e w' ⟨rfl, rfl⟩
  clear HB7 HB8 HB9
  go_wp2_with fail
  clear w1_ w2_ w3_
  refine (b10At_low B m d ys 1 5 _ (HY.out.below HZ9.out) hm (by omega) (by omega) (by omega)).mono ?_
  rintro e2 w2 ⟨v2, rfl, hv2, rfl⟩
  obtain ⟨at_, hat⟩ : ∃ at_ : Int, (v2 : Int) - 2 = at_ := ⟨_, rfl⟩
  have v3 : IntKind.i64.wrap ((v2 : Int) - 2) = at_ := by rw [hat]; exact IntWalk.i64_in _ (by omega)
  have ha0 : -20000 ≤ at_ := by omega
  have ha1 : at_ ≤ 20000 := by omega
  clear hat hv2
  have a0 : W9.cell? ⟨w1.heap.size, 0, none⟩ = some (.int .i64 2) := k0.cell 0
  have a1 : W9.cell? ⟨w1.heap.size, 1, none⟩ = some (.int .i64 (ns : Int)) := k0.cell 1
  have a2 : W9.cell? ⟨w1.heap.size, 2, none⟩ = some (.slice R rs.length rc) := k0.cell 2
  have p0 : W9.cell? ⟨(w1.heap.size + 1), 0, none⟩ = some (.int .i64 q) := k1.cell 0
  have p1 : W9.cell? ⟨(w1.heap.size + 1), 1, none⟩ = some (.slice L ls.length lc) := k1.cell 1
  have p2 : W9.cell? ⟨(w1.heap.size + 1), 2, none⟩ = some (.slice Y us.length yc) := k1.cell 2
  have HXA := Lib.hid (HXL.out at_)
  have hxn := HXN.out at_
  have HCA := Lib.hid (HCR.out at_ ha0 ha1 W9 y9)
  generalize cf at_ i = cr at *
  go_wp2_with fail
  clear v3
  refine HCA.out.mono ?_
  rintro e W10 ⟨A10, c10, rfl, o10, z10⟩
  have k3 := k2.below' z10
  have HZ10 := Lib.hid (HZ9.out.trans ((z10.mono y9.size).mono HZ1.out.size))
  obtain ⟨len, hlen⟩ : ∃ len, cr.length = len := ⟨_, rfl⟩
  have HIN : Hid ((0 < len) ↔ (lo < at_ ∧ at_ ≤ hi)) := Lib.hid (by
    rw [← HXA.out, ← hlen]
    cases cr <;> simp)
  dsimp only
  rw [hlen] at o10 ⊢
  clear hlen hxn HXA HCA o10 z10 k0 k1 k2 a0 a1 a2 p0 p1 p2 x0 x1 x2 x3 x4 x5 x6 x7 HXL HXN HCR y9
  have x0 : W10.cell? ⟨W3.heap.size, 0, none⟩ = some (.int .i64 (i : Int)) := k3.cell 0
  have x1 : W10.cell? ⟨W3.heap.size, 1, none⟩ = some (.bool hc) := k3.cell 1
  have x2 : W10.cell? ⟨W3.heap.size, 2, none⟩ = some (.int .i64 sp) := k3.cell 2
  have x3 : W10.cell? ⟨W3.heap.size, 3, none⟩ = some (.int .i64 lo) := k3.cell 3
  have x4 : W10.cell? ⟨W3.heap.size, 4, none⟩ = some (.int .i64 hi) := k3.cell 4
  have x5 : W10.cell? ⟨W3.heap.size, 5, none⟩ = some (.int .i64 ch) := k3.cell 5
  have x6 : W10.cell? ⟨W3.heap.size, 6, none⟩ = some (.int .i64 tu) := k3.cell 6
  have x7 : W10.cell? ⟨W3.heap.size, 7, none⟩ = some (.int .i64 mk) := k3.cell 7
  clear x0 x1 x6
  by_cases h1 : lo < at_
  · by_cases h2 : at_ ≤ hi
    · have h3 : 0 < len := HIN.out.2 ⟨h1, h2⟩
      have h4 : (0 : Int) < (len : Int) := by omega
      go_wp2_with fail
      go_ret
      exact ⟨rfl, HZ10.out⟩
    · have h3 : ¬ 0 < len := fun h => h2 (HIN.out.1 h).2
      have h4 : ¬ (0 : Int) < (len : Int) := by omega
      go_wp2_with fail
      go_ret
      exact ⟨rfl, HZ10.out⟩
  · have h3 : ¬ 0 < len := fun h => h1 (HIN.out.1 h).1
    have h4 : ¬ (0 : Int) < (len : Int) := by omega
    go_wp2_with fail
    go_ret
    exact ⟨rfl, HZ10.out⟩
end Go.Proofs.Ytbpofkggoolmpaa

/-
  For every input, FnMeasures returns true, and each argument reads afterwards as it read before. No conditions.
-/
namespace Go.Proofs.Ytbpofkggoolmpaa.lawMeasuresRow
open Go.ChangeShapes Go.WideShapes Go.ChangeAt Go.RowKit Go.Joins Go.Proofs.Ytbpofkggoolmpaa

theorem own : ownKnob Try.prog.godebug = none := by kernel_rfl
theorem laidOut : laidOutB Try.prog = true := by kernel_rfl
theorem readable : ∀ t ∈ Try.f5.params.toList, Try.prog.readableRec t = true ∧ t < Try.prog.types.size := by
  have h : (Try.f5.params.toList.all fun t => Try.prog.readableRec t && decide (t < Try.prog.types.size)) = true := by kernel_rfl
  intro t ht
  have := List.all_eq_true.1 h t ht
  simpa using this

set_option maxRecDepth 100000 in
theorem lifted (os : Os) (started : os.Started) (H : Type) (enc : TypeId × Value → H) :
    ReturnsInHanded {} Try.checked os 5 .any (Rows.fnMeasuresSpec.pre6 enc Try.prog Try.f5 Rows.fnMeasuresRow.domain false) (Rows.fnMeasuresSpec.post enc Try.prog Try.f5 false true false false) := by
  refine returnsInHanded_of_change (C := Try.checked) own started (by kernel_rfl) Try.func5
    (ChangeSpec.witness6 (enc := enc) (C := Try.checked) false ⟨#[], #[.slice none 0 0, .slice none 0 0], []⟩ 8 (by kernel_rfl) (by kernel_rfl) (by kernel_rfl) (by kernel_rfl)) ?_
  intro W base args ds gs before hval0 hW hcnd _
  have hval : ∀ (j : Nat) t v, Try.f5.params[j]? = some t → args[j]? = some v → Value.okWide Try.prog W .any base t v := hval0
  have hW' := hW
  obtain ⟨p, q, hA0, hV, hbef, hfz, hnd⟩ := hW
  have hA : DataW.TrodAll enc Try.prog W 0 (fun _ => true) true Try.f5.params.toList args.toList ds p := hA0
  rw [Try.params5] at hA hval
  obtain ⟨v0, vs0, d0, ds0, p0, q0, hargs, rfl, rfl, h0, r0⟩ := trodAll_cons hA
  obtain ⟨v1, vs1, d1, ds1, p1, q1, rfl, rfl, rfl, h1, r1⟩ := trodAll_cons r0
  obtain ⟨rfl, rfl, rfl⟩ := trodAll_nil r1
  obtain rfl : args = #[v0, v1] := by cases args; simp_all
  obtain ⟨rfl, rfl⟩ := trodVars_none hV
  obtain ⟨Aa0, na0, ka0, rfl⟩ := okWide_slice Try.underlying47 (hval 0 47 v0 rfl rfl)
  have hB0 := okWide_blk Try.underlying47 (hval 0 47 _ rfl rfl)
  obtain ⟨fuel0, hf0⟩ := h0
  obtain ⟨Aa0', na0', ka0', xa0, ee0, Sa0, la0, ma0⟩ := sb_of_trod (v := .slice Aa0 na0 ka0) Try.underlying47 Try.underlying5 (by kernel_rfl) (by simpa [Value.cells] using hf0)
  simp only [Value.slice.injEq] at ee0
  obtain ⟨rfl, rfl, rfl⟩ := ee0
  obtain ⟨Aa1, na1, ka1, rfl⟩ := okWide_slice Try.underlying47 (hval 1 47 v1 rfl rfl)
  obtain ⟨fuel1, hf1⟩ := h1
  obtain ⟨Aa1', na1', ka1', xa1, ee1, Sa1, la1, ma1⟩ := sb_of_trod (v := .slice Aa1 na1 ka1) Try.underlying47 Try.underlying5 (by kernel_rfl) (by simpa [Value.cells] using hf1)
  simp only [Value.slice.injEq] at ee1
  obtain ⟨rfl, rfl, rfl⟩ := ee1
  refine (lawMeasures Aa0 na0 ka0 xa0 Aa1 na1 ka1 xa1 W Sa0 Sa1 hB0 (by omega) (by omega)).mono fun e W' ⟨he, hb⟩ => ?_
  subst he
  exact ⟨_, rfl, law_post laidOut readable rfl (by kernel_rfl) Try.underlying4 rfl rfl rfl hW' hb⟩

set_option maxHeartbeats 8000000 in
theorem closed : joinedFacts Try.pinned.checked.prog 5 Try.f5 Rows.fnMeasuresSpec Rows.fnMeasuresRow = true := by
  unfold joinedFacts
  simp only [Bool.and_eq_true]
  repeat' (refine And.intro ?_ ?_)
  all_goals (as_aux_lemma => kernel_rfl)
theorem named : Try.pinned.checked.prog.funcNamed Rows.fnMeasuresRow.func = some 5 := by kernel_rfl
theorem instance_ : decide (Func.isInstance Try.pinned.checked.prog Try.f5 Rows.fnMeasuresRow.origin Rows.fnMeasuresRow.targs) = true := by kernel_rfl
set_option maxHeartbeats 8000000 in
theorem proved : Rows.FnMeasuresSaid :=
  OpenClaim.holds_of_wide 5 Try.f5 rfl rfl rfl rfl rfl rfl rfl ⟨rfl, rfl, rfl, rfl, rfl⟩ rfl rfl rfl rfl rfl named Try.func5 closed
    (of_decide_eq_true instance_) (by unfold Func.isWrapper; first | (rw [if_pos (by decide +kernel)]; kernel_rfl) | (rw [if_neg (by decide +kernel)]; exact ⟨rfl, rfl⟩))
    (fun os started H enc _ => lifted os started H enc)
end Go.Proofs.Ytbpofkggoolmpaa.lawMeasuresRow
