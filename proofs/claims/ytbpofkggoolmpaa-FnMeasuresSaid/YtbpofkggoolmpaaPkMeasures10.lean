/-
  Contracts of impl.VisitCounts, StateCounts and RuleCounts, for runs that have room.
-/
import Derived.Test.YtbpofkggoolmpaaPkMeasures0
import Derived.Test.YtbpofkggoolmpaaPkMeasures1
import Derived.Test.YtbpofkggoolmpaaPkMeasures9
import Derived.Deep.DeepCutAuto
import Derived.BigRegion
import Derived.BigQuiet
import Derived.Lib.VarintBits
import Derived.Deep.RegionHeld3
import Derived.Deep.RegionLaw
namespace Go.Proofs.Ytbpofkggoolmpaa
open Go.RowKit Go.Maps

def SumP (w : World) (n : Nat) (s : Int) (e : Ending) (w' : World) : Prop :=
  ∃ A c xs, e = .returned (.tuple #[.slice A n c, .int .i64 0]) ∧ Own w' w.heap.size 2 1 A n c (ints xs) ∧ SumL xs n s ∧ Below w.heap.size w w'
set_option maxHeartbeats 1000000 in
theorem stateCounts_any (sy : Int) (ns : Nat) (A : Option Addr) (n k : Nat) (rs : List R3) (c : Conf) (B : Option Addr) (m a : Nat) (C : Option Addr) (l d : Nat) (N i : Nat) (w : World) (hr : S3 w A n rs) (hx : SI w B m c.xs) (hy : SI w C l c.ys) (hn : n ≤ 1048576) (hm : m ≤ 1048576) (hl : l ≤ 1048576)
    (hg : goodC sy (ns : Int) rs c) (hN0 : 1 ≤ N) (hN : N ≤ 20000) (hrun : runN sy rs N c = some i) :
    Calls Try.prog 30 #[.agg #[.int .i64 sy, .int .i64 (ns : Int), .slice A n k], .agg #[.int .i64 c.q, .slice B m a, .slice C l d], .int .i64 (N : Int)] w (SumP w ns ((i : Int) + 1)) := by
  obtain ⟨W, hW_⟩ : ∃ W, W = (w.alloc (.cells #[.int .i64 sy, .int .i64 (ns : Int), .slice A n k] 36)).alloc (.cells #[.int .i64 c.q, .slice B m a, .slice C l d] 50) := ⟨_, rfl⟩
  have s_1 : (w.alloc (.cells #[.int .i64 sy, .int .i64 (ns : Int), .slice A n k] 36)).heap.size = w.heap.size + 1 := by simp
  have b0 : Blk W w.heap.size 36 #[.int .i64 sy, .int .i64 (ns : Int), .slice A n k] := by rw [hW_]; exact (Blk.new w _ _).alloc _
  have b1 : Blk W (w.heap.size + 1) 50 #[.int .i64 c.q, .slice B m a, .slice C l d] := by rw [hW_, ← s_1]; exact Blk.new _ _ _
  have y0 : Below w.heap.size w W := by rw [hW_]; exact ((Below.refl _ _).alloc (Nat.le_refl _) _).alloc (by simp) _
  have HW := Lib.hid hW_
  clear hW_ s_1
  have HC := Lib.hid (counted_any sy ns A n k rs c B m a C l d N i W (hr.below y0) (hx.below y0) (hy.below y0) hn hm hl hg hN0 hN hrun)
  have q0 : W.cell? ⟨w.heap.size, 0, none⟩ = some (.int .i64 sy) := b0.cell 0
  have q1 : W.cell? ⟨w.heap.size, 1, none⟩ = some (.int .i64 (ns : Int)) := b0.cell 1
  have q2 : W.cell? ⟨w.heap.size, 2, none⟩ = some (.slice A n k) := b0.cell 2
  have r0 : W.cell? ⟨(w.heap.size + 1), 0, none⟩ = some (.int .i64 c.q) := b1.cell 0
  have r1 : W.cell? ⟨(w.heap.size + 1), 1, none⟩ = some (.slice B m a) := b1.cell 1
  have r2 : W.cell? ⟨(w.heap.size + 1), 2, none⟩ = some (.slice C l d) := b1.cell 2
  clear hrun hg b0 b1
  go_enter Try.func30, Try.ntmps30
  go_upto_region 1 with fail
  rw [← HW.out]
  go_wp2_with fail
  refine HC.out.mono ?_
  rintro e W1 ⟨b, mb, sb, ub, xs, us, rfl, hbx, him, hmb, hs, hu, sx, su, z1⟩
  have SX := Lib.hid sx
  have x1 : W1.cell? ⟨b, 1, none⟩ = some (.slice (some ⟨sb, 0, none⟩) ns ns) := hbx.cell 1
  clear q0 q1 q2 r0 r1 r2 HC him hu sx su hbx
  go_wp2_with fail
  exact bodyPost_ret (v := .tuple #[.slice (some ⟨sb, 0, none⟩) ns ns, .int .i64 0]) (by simp [results, Try.results30, go_sem]) rfl ⟨_, _, xs, rfl, hs.mono y0.size, SX.out, y0.trans (z1.mono y0.size)⟩
set_option maxHeartbeats 1000000 in
theorem ruleCounts_any (sy : Int) (ns : Nat) (A : Option Addr) (n k : Nat) (rs : List R3) (c : Conf) (B : Option Addr) (m a : Nat) (C : Option Addr) (l d : Nat) (N i : Nat) (w : World) (hr : S3 w A n rs) (hx : SI w B m c.xs) (hy : SI w C l c.ys) (hn : n ≤ 1048576) (hm : m ≤ 1048576) (hl : l ≤ 1048576)
    (hg : goodC sy (ns : Int) rs c) (hN0 : 1 ≤ N) (hN : N ≤ 20000) (hrun : runN sy rs N c = some i) :
    Calls Try.prog 31 #[.agg #[.int .i64 sy, .int .i64 (ns : Int), .slice A n k], .agg #[.int .i64 c.q, .slice B m a, .slice C l d], .int .i64 (N : Int)] w (SumP w n (i : Int)) := by
  obtain ⟨W, hW_⟩ : ∃ W, W = (w.alloc (.cells #[.int .i64 sy, .int .i64 (ns : Int), .slice A n k] 36)).alloc (.cells #[.int .i64 c.q, .slice B m a, .slice C l d] 50) := ⟨_, rfl⟩
  have s_1 : (w.alloc (.cells #[.int .i64 sy, .int .i64 (ns : Int), .slice A n k] 36)).heap.size = w.heap.size + 1 := by simp
  have b0 : Blk W w.heap.size 36 #[.int .i64 sy, .int .i64 (ns : Int), .slice A n k] := by rw [hW_]; exact (Blk.new w _ _).alloc _
  have b1 : Blk W (w.heap.size + 1) 50 #[.int .i64 c.q, .slice B m a, .slice C l d] := by rw [hW_, ← s_1]; exact Blk.new _ _ _
  have y0 : Below w.heap.size w W := by rw [hW_]; exact ((Below.refl _ _).alloc (Nat.le_refl _) _).alloc (by simp) _
  have HW := Lib.hid hW_
  clear hW_ s_1
  have HC := Lib.hid (counted_any sy ns A n k rs c B m a C l d N i W (hr.below y0) (hx.below y0) (hy.below y0) hn hm hl hg hN0 hN hrun)
  have q0 : W.cell? ⟨w.heap.size, 0, none⟩ = some (.int .i64 sy) := b0.cell 0
  have q1 : W.cell? ⟨w.heap.size, 1, none⟩ = some (.int .i64 (ns : Int)) := b0.cell 1
  have q2 : W.cell? ⟨w.heap.size, 2, none⟩ = some (.slice A n k) := b0.cell 2
  have r0 : W.cell? ⟨(w.heap.size + 1), 0, none⟩ = some (.int .i64 c.q) := b1.cell 0
  have r1 : W.cell? ⟨(w.heap.size + 1), 1, none⟩ = some (.slice B m a) := b1.cell 1
  have r2 : W.cell? ⟨(w.heap.size + 1), 2, none⟩ = some (.slice C l d) := b1.cell 2
  clear hrun hg b0 b1
  go_enter Try.func31, Try.ntmps31
  go_upto_region 1 with fail
  rw [← HW.out]
  go_wp2_with fail
  refine HC.out.mono ?_
  rintro e W1 ⟨b, mb, sb, ub, xs, us, rfl, hbx, him, hmb, hs, hu, sx, su, z1⟩
  have SU := Lib.hid su
  have x2 : W1.cell? ⟨b, 2, none⟩ = some (.slice (some ⟨ub, 0, none⟩) n n) := hbx.cell 2
  clear q0 q1 q2 r0 r1 r2 HC him hs sx su hbx
  go_wp2_with fail
  exact bodyPost_ret (v := .tuple #[.slice (some ⟨ub, 0, none⟩) n n, .int .i64 0]) (by simp [results, Try.results31, go_sem]) rfl ⟨_, _, us, rfl, hu.mono y0.size, SU.out, y0.trans (z1.mono y0.size)⟩

theorem IMap.ne_own {W : World} {b N num : Nat} {f : Int → Nat} {lo n c s : Nat} {e : TypeId} {A : Option Addr} {cs : List Value} (h : IMap W b N num f) (ho : Own W lo e s A n c cs) : blk A ≠ some b := by
  intro hb
  obtain ⟨D, ⟨es, clock, hh, _⟩, _⟩ := h
  rcases ho.2 with ⟨rfl, _⟩ | ⟨b', off, cur, rfl, _, hg, _⟩
  · simp [blk] at hb
  · simp [blk] at hb
    subst hb
    rw [hh] at hg
    cases hg
/-- The least number so far: every count is still to come or not below it. -/
def LeastP (f : Int → Nat) (lo : Int) (left : Lit → Bool) (v : Int) : Prop := v ≤ 0 ∧ lo ≤ v ∧ ∀ k : Int, f k ≠ 0 → left (.int .i64 k) = true ∨ v ≤ k
def VisitP (w : World) (sy : Int) (rs : List R3) (c : Conf) (i : Nat) (e : Ending) (w' : World) : Prop :=
  ∃ A cc, e = .returned (.tuple #[.slice A (manyF sy rs c (i + 1)) cc, .int .i64 (loF sy rs c (i + 1)), .int .i64 0]) ∧ Own w' w.heap.size 2 1 A (manyF sy rs c (i + 1)) cc (ints (visTo sy rs c (i + 1) (loF sy rs c (i + 1)) (manyF sy rs c (i + 1)))) ∧ Below w.heap.size w w'
set_option maxRecDepth 100000 in
set_option maxHeartbeats 4000000 in
theorem visitCounts_any (sy : Int) (ns : Nat) (A : Option Addr) (n k : Nat) (rs : List R3) (c : Conf) (B : Option Addr) (m a : Nat) (C : Option Addr) (l d : Nat) (N i : Nat) (w : World) (hr : S3 w A n rs) (hx : SI w B m c.xs) (hy : SI w C l c.ys) (hn : n ≤ 1048576) (hm : m ≤ 1048576) (hl : l ≤ 1048576)
    (hg : goodC sy (ns : Int) rs c) (hN0 : 1 ≤ N) (hN : N ≤ 20000) (hrun : runN sy rs N c = some i) (hi : i ≤ 20000) (hal : Alive sy rs c i) :
    Calls Try.prog 29 #[.agg #[.int .i64 sy, .int .i64 (ns : Int), .slice A n k], .agg #[.int .i64 c.q, .slice B m a, .slice C l d], .int .i64 (N : Int)] w (VisitP w sy rs c i) := by
  obtain ⟨W, hW_⟩ : ∃ W, W = (w.alloc (.cells #[.int .i64 sy, .int .i64 (ns : Int), .slice A n k] 36)).alloc (.cells #[.int .i64 c.q, .slice B m a, .slice C l d] 50) := ⟨_, rfl⟩
  have s_1 : (w.alloc (.cells #[.int .i64 sy, .int .i64 (ns : Int), .slice A n k] 36)).heap.size = w.heap.size + 1 := by simp
  have b0 : Blk W w.heap.size 36 #[.int .i64 sy, .int .i64 (ns : Int), .slice A n k] := by rw [hW_]; exact (Blk.new w _ _).alloc _
  have b1 : Blk W (w.heap.size + 1) 50 #[.int .i64 c.q, .slice B m a, .slice C l d] := by rw [hW_, ← s_1]; exact Blk.new _ _ _
  have y0 : Below w.heap.size w W := by rw [hW_]; exact ((Below.refl _ _).alloc (Nat.le_refl _) _).alloc (by simp) _
  have HW := Lib.hid hW_
  clear hW_ s_1
  have HC := Lib.hid (counted_any sy ns A n k rs c B m a C l d N i W (hr.below y0) (hx.below y0) (hy.below y0) hn hm hl hg hN0 hN hrun)
  have hb1 := lo_bound hg i hal
  have hb2 := lo_le (sy := sy) (rs := rs) (c := c) (i + 1)
  have hmany := many_int (sy := sy) (rs := rs) (c := c) i
  have hlo := (seen_iff hg i hal (loF sy rs c (i + 1))).1 ⟨Int.le_refl _, by omega⟩
  have HSEEN := Lib.hid (fun p => (seen_iff hg i hal p).2)
  have HVT : Hid (∀ j, visTo sy rs c (i + 1) (loF sy rs c (i + 1)) (j + 1) = visTo sy rs c (i + 1) (loF sy rs c (i + 1)) j ++ [(cntF sy rs c (i + 1) (loF sy rs c (i + 1) + (j : Int)) : Int)]) := Lib.hid (fun j => rfl)
  have HLO := Lib.hid hlo
  have q0 : W.cell? ⟨w.heap.size, 0, none⟩ = some (.int .i64 sy) := b0.cell 0
  have q1 : W.cell? ⟨w.heap.size, 1, none⟩ = some (.int .i64 (ns : Int)) := b0.cell 1
  have q2 : W.cell? ⟨w.heap.size, 2, none⟩ = some (.slice A n k) := b0.cell 2
  have r0 : W.cell? ⟨(w.heap.size + 1), 0, none⟩ = some (.int .i64 c.q) := b1.cell 0
  have r1 : W.cell? ⟨(w.heap.size + 1), 1, none⟩ = some (.slice B m a) := b1.cell 1
  have r2 : W.cell? ⟨(w.heap.size + 1), 2, none⟩ = some (.slice C l d) := b1.cell 2
  clear hrun hg b0 b1 hal hlo
  have HFIN : Hid (∀ (A : Option Addr) (cc : Nat) (num : Nat) (lo : Int) (vs : List Int) (W' : World), num = manyF sy rs c (i + 1) → lo = loF sy rs c (i + 1) → vs = visTo sy rs c (i + 1) (loF sy rs c (i + 1)) (manyF sy rs c (i + 1)) → Own W' w.heap.size 2 1 A num cc (ints vs) → Below w.heap.size w W' → VisitP w sy rs c i (.returned (.tuple #[.slice A num cc, .int .i64 lo, .int .i64 0])) W') := Lib.hid (fun A cc num lo vs W' h1 h2 h3 h4 h5 => by subst h1 h2 h3; exact ⟨A, cc, rfl, h4, h5⟩)
  have HV0 : Hid (visTo sy rs c (i + 1) (loF sy rs c (i + 1)) 0 = []) := Lib.hid rfl
  go_enter Try.func29, Try.ntmps29
  go_upto_region 1 with fail
  rw [← HW.out]
  go_wp2_with fail
  refine HC.out.mono ?_
  rintro e W1 ⟨b, mb, sb, ub, xs, us, rfl, hbx, him, hmb, hs, hu, sx, su, z1⟩
  have y1 := y0.trans (z1.mono y0.size)
  clear q0 q1 q2 r0 r1 r2 HC sx su hs hu z1
  generalize hvt : visTo sy rs c (i + 1) (loF sy rs c (i + 1)) = vt at *
  generalize manyF sy rs c (i + 1) = num at *
  generalize loF sy rs c (i + 1) = lo at *
  generalize hiF sy rs c (i + 1) = hi' at *
  generalize cntF sy rs c (i + 1) = f at *
  clear hvt
  have him0 := him
  obtain ⟨D, ho, hsz, hD⟩ := him
  have x0 : W1.cell? ⟨b, 0, none⟩ = some (.map (some mb)) := hbx.cell 0
  go_wp2_with (first
    | (at_range; refine wpList_range_own _ rfl _ 157 rfl 2 2 intKeyed Try.underlying157 _ mb (i + 1) D rfl ho ?_; intro w0 hrg0 hg0 hs0))
  go_frame
  clear x0
  have HDD := Lib.hid hD
  have HFK : Hid (∀ (x cv : Int), (∀ zd : DataW Unit, D.atKey (.int .i64 x) zd = .lit (.int .i64 cv)) → f x ≠ 0) := Lib.hid (fun x cv h => by
    have h1 := has_true_of_atKey h
    rw [(HDD.out x).2] at h1
    simpa using h1)
  have z0 : Below W1.heap.size W1 w0 := (Below.refl W1.heap.size W1).grown hg0 (Nat.le_refl _) (fun j hj => by cases hj)
  go_loopw [11] (fun s11 wr => ∃ (left : Lit → Bool) (cnt : Nat) (v : Int), s11 = .int .i64 v ∧ wr.ranges Try.prog 2 (plainElem Try.prog 2) mb W1.heap.size (i + 1) D left cnt ∧ LeastP f lo left v ∧ Below W1.heap.size W1 wr ∧ W1.heap.size < wr.heap.size) (fun _ wr => wr.rangeLeft mb W1.heap.size)
  case atStart =>
    refine ⟨_, _, 0, rfl, hrg0, ⟨Int.le_refl _, hb2.1, fun k hk => .inl ?_⟩, z0, by omega⟩
    rw [(HDD.out k).2]; simpa using hk
  case round =>
    obtain ⟨left, cnt, v, rfl, hrg, hlp, zr, hsz2⟩ := hrel
    go_wp2_with (first
      | (at_next; refine wpList_next_ranges_ii _ rfl _ rfl 2 2 .i64 .i64 intKeyed Try.underlying2 Try.underlying2 mb W1.heap.size (i + 1) _ _ _ rfl hrg ?_ ?_))
    · intro _ hl0
      obtain ⟨l1, l2, l3⟩ := hlp
      have hvl : lo = v := by
        rcases l3 lo HLO.out with h | h
        · rw [hl0] at h; cases h
        · omega
      have HVL := Lib.hid hvl
      have hvb : -20000 ≤ v ∧ v ≤ 0 := by omega
      have hm4 : IMap wr mb (i + 1) num f := ⟨D, hrg.owns, hsz, HDD.out⟩
      have hbx4 := hbx.below' zr
      have y4 := y1.trans (zr.mono y1.size)
      clear hl0 l1 l2 l3 hrg hrg0 z0 him0 ho hvl hg0 hs0
      obtain ⟨W5, hW_⟩ : ∃ W_, W_ = wr.alloc (.cells #[] 2) := ⟨_, rfl⟩
      have b5 : Blk W5 wr.heap.size 2 #[] := by rw [hW_]; exact Blk.new wr _ _
      have z5 : Below wr.heap.size wr W5 := by rw [hW_]; exact (Below.refl _ _).alloc (Nat.le_refl _) _
      have HW5 := Lib.hid hW_
      clear hW_
      have y5 := y4.trans (z5.mono y4.size)
      have hm5 := hm4.below z5
      have hbx5 := hbx4.below' z5
      have x0 : W5.cell? ⟨b, 0, none⟩ = some (.map (some mb)) := hbx5.cell 0
      have hO5 : Own W5 W1.heap.size 2 1 (some ⟨wr.heap.size, 0, none⟩) 0 0 (ints []) := by
        have := Own.lit wr #[] 2 0 1 W1.heap.size rfl (by simp [maxLen]) zr.size
        rw [← HW5.out] at this
        exact this
      clear hm4 hbx4
      go_upto_region 10 with fail
      rw [← HW5.out]
      obtain ⟨D5, ho5, hsz5, hD5⟩ := id hm5
      go_wp2_with (first
        | (at_len; refine wpList_len_own _ rfl _ 157 rfl 2 2 Try.underlying157 _ mb (i + 1) D5 rfl ho5 ?_))
      clear hsz5 hD5 ho5 x0 hsz HDD HFK HSEEN hD
      have hnum : (num : Int) ≤ 40001 := by omega
      go_loopw [13, 43] (fun s13 s43 w2 => ∃ (j cc : Nat) (A : Option Addr), j ≤ num ∧ s43 = .int .i64 (j : Int) ∧ s13 = .slice A j cc ∧ Own w2 W1.heap.size 2 1 A j cc (ints (vt j)) ∧ IMap w2 mb (i + 1) num f ∧ Blk w2 b 159 #[.map (some mb), .slice (some ⟨sb, 0, none⟩) ns ns, .slice (some ⟨ub, 0, none⟩) n n] ∧ Below w.heap.size w w2 ∧ W1.heap.size ≤ w2.heap.size) (fun _ s43 _ => num - (intOf s43).toNat)
      case atStart => exact ⟨0, 0, _, Nat.zero_le _, rfl, rfl, by rw [HV0.out]; exact hO5, hm5, hbx5, y5, by have := z5.size; omega⟩
      case round =>
        rename_i wr'
        obtain ⟨j, cc, A', hj, rfl, rfl, hO6, hm6, hb6, y6, hs6⟩ := hrel
        have i1 : (0 : Int) ≤ (j : Int) := by omega
        by_cases hlt : j < num
        · have i2 : (j : Int) < (num : Int) := by omega
          have x0 : wr.cell? ⟨b, 0, none⟩ = some (.map (some mb)) := hb6.cell 0
          obtain ⟨fv, hfv⟩ : ∃ fv : Nat, fv = f (v + (j : Int)) := ⟨_, rfl⟩
          have hlk := hm6.look (v + (j : Int)) (by omega) (by omega)
          rw [← hfv] at hlk
          have HV1 : Hid (vt (j + 1) = vt j ++ [(fv : Int)]) := Lib.hid (by rw [HVT.out j, hfv, HVL.out])
          have w1 : IntKind.i64.wrap (v + (j : Int)) = v + (j : Int) := IntWalk.i64_in _ (by omega)
          have zA := (Below.refl wr.heap.size wr).alloc (Nat.le_refl _) (.cells #[.int .i64 (fv : Int)] 2)
          have hO7 := hO6.below zA
          have hm7 := hm6.below zA
          have hb7 := hb6.below' zA
          have y7 := y6.trans (zA.mono y6.size)
          have hs7 : W1.heap.size ≤ (wr.alloc (.cells #[.int .i64 (fv : Int)] 2)).heap.size := Nat.le_trans hs6 zA.size
          have hwW := y1.size
          clear hfv hm6 hb6 y6 hO6 zA
          go_wp2_with (at_builtin; refine wpList_append_Own rfl (.tmp 46) (.tmp 55) rfl elI (lo := W1.heap.size) rfl hO7 rfl (Rd.new1 _ (.int .i64 (fv : Int)) _) (by simp [Value.oneCell']) (by omega) (by simp only [maxLen]; omega) hs7 ?_; intro A5 c5 w5 ho5 hg5 hw5; have hb8 := hb7.grown hO7 hg5 (by decide); have hm8 := hm7.keep (hg5.block mb hm7.lt (fun e => hm7.ne_own hO7 e.symm)); have y8 := y7.grown hg5 y7.size (fun x hx => by have := hO7.blk_ge x hx; omega); have hs8 : W1.heap.size ≤ w5.heap.size := Nat.le_trans hs7 hg5.size)
          rw [ints_snoc] at ho5
          clear hlk x0 hO7 hm7 hb7 y7 hg5 hw5
          go_wp2_with fail
          exact ⟨⟨j + 1, c5, A5, by omega, by go_num, rfl, by rw [HV1.out]; exact ho5, hm8, hb8, y8, hs8⟩, by simp [intOf]; omega⟩
        · have i2 : ¬ (j : Int) < (num : Int) := by omega
          have hjn : j = num := by omega
          have HJ : Hid (vt j = vt num) := Lib.hid (by rw [hjn])
          have HJN : Hid (j = num) := Lib.hid hjn
          clear hjn
          go_wp2_with fail
          exact bodyPost_ret (v := .tuple #[.slice A' j cc, .int .i64 v, .int .i64 0]) (by simp [results, Try.results29, go_sem]) rfl (HFIN.out A' cc j v (vt num) _ HJN.out HVL.out.symm rfl (by rw [← HJ.out]; exact hO6.mono (by have := y1.size; omega)) y6)
    · intro x cv w1 cnt1 hwx hwc hlx hat hrg1 hlt hg1 hs1 hen
      have hfx := HFK.out x cv hat
      obtain ⟨l1, l2, l3⟩ := hlp
      have hxlo : lo ≤ x ∧ x ≤ hi' := by
        have := HSEEN.out x hfx
        omega
      have zr1 : Below W1.heap.size W1 w1 := zr.grown hg1 zr.size (fun j hj => by cases hj; exact Nat.le_refl _)
      obtain ⟨v', hv'⟩ : ∃ v', (if x < v then x else v) = v' := ⟨_, rfl⟩
      have hlp2 : LeastP f lo (fun z => left z && !z.sameKey (.int .i64 x)) v' := by
        refine ⟨by rw [← hv']; split <;> omega, by rw [← hv']; split <;> omega, fun k hk => ?_⟩
        by_cases e : k = x
        · right; rw [← hv', e]; split <;> omega
        · rcases l3 k hk with h | h
          · left
            have : (Lit.int .i64 k).sameKey (.int .i64 x) = false := sameKey_ne (fun h => e (by cases h; rfl))
            show (left (.int .i64 k) && !(Lit.int .i64 k).sameKey (.int .i64 x)) = true
            rw [h, this]; rfl
          · right; rw [← hv']; split <;> omega
      have HLP := Lib.hid hlp2
      clear hlp2 l1 l2 l3
      go_wp2_with fail
      go_roundw
      case rel => exact ⟨_, cnt1, v', rfl, hrg1, HLP.out, zr1, by omega⟩
      case measure => rw [hrg1.left_eq, hrg.left_eq]; exact hlt
end Go.Proofs.Ytbpofkggoolmpaa

/-
  All blocks but one are as they were (the same words as in Src, for seats without a source).
-/
namespace Go.Proofs.Ytbpofkggoolmpaa
open Go.RowKit

/-- All blocks but b are as they were. -/
structure Kb (b : Nat) (W W' : World) : Prop where
  os : W'.os = W.os
  tape : W'.tape = W.tape
  output : W'.output = W.output
  size : W.heap.size ≤ W'.heap.size
  block : ∀ k, k < W.heap.size → k ≠ b → W'.heap[k]? = W.heap[k]?
section
variable {b : Nat} {a W W' : World}
theorem Kb.refl (b : Nat) (W : World) : Kb b W W := ⟨rfl, rfl, rfl, Nat.le_refl _, fun _ _ _ => rfl⟩
theorem Kb.drewN (h : Kb b a W) (n : Nat) : Kb b a (W.drewN n) := ⟨h.os, h.tape, h.output, h.size, h.block⟩
theorem Kb.alloc (h : Kb b a W) (o : Obj) : Kb b a (W.alloc o) := ⟨h.os, h.tape, h.output, Nat.le_trans h.size (by simp), fun k hk hy => (Below.heap_alloc W o k (by have := h.size; omega)).trans (h.block k hk hy)⟩
theorem Kb.trans (h : Kb b a W) (z : Kb b W W') : Kb b a W' := ⟨z.os.trans h.os, z.tape.trans h.tape, z.output.trans h.output, Nat.le_trans h.size z.size, fun k hk hy => (z.block k (by have := h.size; omega) hy).trans (h.block k hk hy)⟩
theorem Kb.set_ (h : Kb b a W) (o : Nat) (u : Value) : Kb b a (W.setCell ⟨b, o, none⟩ u) :=
  ⟨h.os, h.tape, h.output, by simpa [World.setCell] using h.size, fun k hk hy => (Below.heap_setCell W ⟨b, o, none⟩ u k hy).trans (h.block k hk hy)⟩
theorem Kb.blk_ {x : Nat} {t : TypeId} {cs : Array Value} (k : Kb b W W') (h : Blk W x t cs) (hn : x ≠ b) : Blk W' x t cs := (k.block x h.lt hn).trans h
theorem Kb.below {w : World} (k : Kb b W W') (h : Below w.heap.size w W) (hb : w.heap.size ≤ b) : Below w.heap.size w W' :=
  ⟨k.os.trans h.os, k.tape.trans h.tape, k.output.trans h.output, Nat.le_trans h.size k.size, fun x hx => (k.block x (by have := h.size; omega) (by omega)).trans (h.block x hx)⟩
theorem Kb.own {lo s n c : Nat} {e : TypeId} {A : Option Addr} {xs : List Value} (k : Kb b W W') (h : Own W lo e s A n c xs) (hn : blk A ≠ some b) : Own W' lo e s A n c xs :=
  h.kept fun x hx _ hlt => k.block x hlt (fun e => hn (by rw [← e]; exact hx))
end
theorem Kb.of_below {b : Nat} {w w' : World} (h : Below w.heap.size w w') : Kb b w w' := ⟨h.os, h.tape, h.output, h.size, fun k hk _ => h.block k hk⟩
theorem Kb.grown {b lo s n c : Nat} {a W W' : World} {e : TypeId} {E : Option Addr} {xs : List Value} (h : Kb b a W) (ho : Own W lo e s E n c xs) (hlo : a.heap.size ≤ lo) (hg : W.grownBy W' (blk E)) : Kb b a W' :=
  ⟨hg.os.trans h.os, hg.tape.trans h.tape, hg.output.trans h.output, Nat.le_trans h.size hg.size, fun k hk hy => (hg.block k (by have := h.size; omega) (fun e => by have := ho.blk_ge k e.symm; omega)).trans (h.block k hk hy)⟩
theorem Kb.own' {b lo s n c : Nat} {e : TypeId} {A : Option Addr} {xs : List Value} {W W' : World} (k : Kb b W W') (h : Own W lo e s A n c xs) (hb : b < lo) : Own W' lo e s A n c xs :=
  k.own h fun e => by have := h.blk_ge b e; omega
end Go.Proofs.Ytbpofkggoolmpaa

/-
  The reference's source of choices: next, pick, one.
-/
namespace Go.Proofs.Ytbpofkggoolmpaa
open Go.ChangeShapes Go.WideShapes Go.ChangeAt Go.RowKit Go.Joins Go.Deep

/-- A source in memory: bytes, a place of at most T, a seed. -/
def Src (b : Nat) (A : Option Addr) (n c T : Nat) (W : World) : Prop := ∃ (a : Nat) (s : Int), a ≤ T ∧ 0 ≤ s ∧ s ≤ 18446744073709551615 ∧ Blk W b 241 #[.slice A n c, .int .i64 (a : Int), .int .u64 s]
theorem Src.le {b : Nat} {A : Option Addr} {n c T T' : Nat} {W : World} (h : Src b A n c T W) (ht : T ≤ T') : Src b A n c T' W := by
  obtain ⟨a, s, h1, h2⟩ := h
  exact ⟨a, s, by omega, h2⟩
theorem Src.below {b : Nat} {A : Option Addr} {n c T : Nat} {W W' : World} (h : Src b A n c T W) (z : Below W.heap.size W W') : Src b A n c T W' := by
  obtain ⟨a, s, h1, h2, h3, h4⟩ := h
  exact ⟨a, s, h1, h2, h3, h4.below' z⟩
theorem Src.alloc {b : Nat} {A : Option Addr} {n c T : Nat} {W : World} (h : Src b A n c T W) (o : Obj) : Src b A n c T (W.alloc o) := by
  obtain ⟨a, s, h1, h2, h3, h4⟩ := h
  exact ⟨a, s, h1, h2, h3, h4.alloc o⟩
theorem Src.set_at {b : Nat} {A : Option Addr} {n c T k : Nat} {W : World} (h : Src b A n c T W) (hk : k ≠ b) (j : Nat) (u : Value) : Src b A n c T (W.setCell ⟨k, j, none⟩ u) := by
  obtain ⟨a, s, h1, h2, h3, h4⟩ := h
  exact ⟨a, s, h1, h2, h3, (Below.heap_setCell W ⟨k, j, none⟩ u b (by dsimp only; omega)).trans h4⟩
/-- A number from 0 to hi - 1 was chosen. -/
def Got (b : Nat) (A : Option Addr) (n c T : Nat) (hi : Int) (w : World) (e : Ending) (w' : World) : Prop :=
  ∃ x : Int, e = .returned (.int .i64 x) ∧ 0 ≤ x ∧ x < hi ∧ Src b A n c T w' ∧ Kb b w w'
theorem u64_range (x : Int) : 0 ≤ IntKind.u64.wrap x ∧ IntKind.u64.wrap x ≤ 18446744073709551615 := by
  rw [IntKind.wrap_u64]; omega
theorem and255 (x : Int) (h0 : 0 ≤ x) (h1 : x < 18446744073709551616) : 0 ≤ bits BinOp.and IntKind.u64 x 255 ∧ bits BinOp.and IntKind.u64 x 255 < 256 := by
  have h := bits_mask .u64 64 (by decide) wraps_u64 8 (by decide) x h0 (by omega)
  have e : bits BinOp.and IntKind.u64 x 255 = x % 256 := by simpa using h
  rw [e]
  omega
theorem next_low (s : Int) : 0 ≤ wrap64 (bits BinOp.and IntKind.u64 (IntKind.u64.wrap s / 1099511627776) 255) ∧ wrap64 (bits BinOp.and IntKind.u64 (IntKind.u64.wrap s / 1099511627776) 255) < 256 := by
  obtain ⟨h1, h2⟩ := u64_range s
  obtain ⟨h3, h4⟩ := and255 (IntKind.u64.wrap s / 1099511627776) (by omega) (by omega)
  rw [IntWalk.wrap64_in _ (by constructor <;> omega)]
  exact ⟨h3, h4⟩
theorem next_done {b a n c T : Nat} {A : Option Addr} {s s' x : Int} {w w1 : World} {j k : Nat} (hb : Blk w b 241 #[.slice A n c, .int .i64 (a : Int), .int .u64 s]) (ha : a ≤ T) (hx0 : 0 ≤ x) (hx1 : x < 256)
    (hw : w1 = (((w.drewN j).setCell ⟨b, 1, none⟩ (.int .i64 ((a : Int) + 1))).setCell ⟨b, 2, none⟩ (.int .u64 (IntKind.u64.wrap s'))).drewN k) : Got b A n c (T + 1) 256 w (.returned (.int .i64 x)) w1 := by
  subst hw
  obtain ⟨h1, h2⟩ := u64_range s'
  exact ⟨x, rfl, hx0, hx1, ⟨a + 1, _, by omega, h1, h2, ((hb.drewN j).set_ 1 (.int .i64 ((a : Int) + 1))).set_ 2 (.int .u64 (IntKind.u64.wrap s'))⟩, ((((Kb.refl b w).drewN j).set_ 1 _).set_ 2 _).drewN k⟩
set_option maxHeartbeats 2000000 in
theorem next_any (b : Nat) (A : Option Addr) (n c T : Nat) (xs : List Int) (w : World) (hx : SB w A n xs) (hA : ∀ k, blk A = some k → k ≠ b) (hs : Src b A n c T w) (hT : T ≤ 1000000000) (hn : n ≤ 9223372036854775807) :
    Calls Try.prog 194 #[.pointer (some ⟨b, 0, none⟩)] w (Got b A n c (T + 1) 256 w) := by
  obtain ⟨a, s, haT, hs0, hs1, hb⟩ := hs
  have k0 : w.cell? ⟨b, 0, none⟩ = some (.slice A n c) := hb.cell 0
  have k1 : w.cell? ⟨b, 1, none⟩ = some (.int .i64 (a : Int)) := hb.cell 1
  have k2 : w.cell? ⟨b, 2, none⟩ = some (.int .u64 s) := hb.cell 2
  have f1 := hb.frozen 1
  have f2 := hb.frozen 2
  have HB := Lib.hid hb
  have HX := Lib.hid hx
  have HA := Lib.hid hA
  have HT := Lib.hid haT
  have i0 : (a : Int) + 1 ≤ 1000000001 := by omega
  clear hb hx hA haT
  by_cases h : a < n
  · obtain ⟨b', off, rfl, _, hc⟩ := HX.out.at_ h
    obtain ⟨y, hy⟩ : ∃ y, y = xs[a]'(by rw [HX.out.len]; exact h) := ⟨_, rfl⟩
    have hy2 := HX.out.2 _ (List.getElem_mem (l := xs) (n := a) (by rw [HX.out.len]; exact h))
    rw [← hy] at hc hy2
    clear hy
    have i1 : (0 : Int) ≤ (a : Int) := by omega
    have i2 : (a : Int) < (n : Int) := by omega
    have i3 : (a : Int) + 1 ≤ (n : Int) := by omega
    have hne : b' ≠ b := HA.out b' rfl
    go_enter Try.func194, Try.ntmps194
    go_upto_region 2 with fail
    go_quiet (fail)
    go_upto_region 3 with fail
    go_quiet (fail)
    go_upto_region 6 with fail
    go_quiet (fail)
    go_wp2_with fail
    go_ret
    exact next_done HB.out HT.out (by omega) (by omega) rfl
  · have i2 : ¬ (a : Int) < (n : Int) := by omega
    have i3 : ¬ (a : Int) + 1 ≤ (n : Int) := by omega
    go_enter Try.func194, Try.ntmps194
    go_upto_region 2 with fail
    go_quiet (fail)
    go_upto_region 6 with fail
    go_quiet (fail)
    go_wp2_with fail
    go_ret
    exact next_done HB.out HT.out (next_low _).1 (next_low _).2 rfl
theorem SB.kb {b : Nat} {w w' : World} {A : Option Addr} {n : Nat} {xs : List Int} (h : SB w A n xs) (k : Kb b w w') (hA : ∀ x, blk A = some x → x ≠ b) : SB w' A n xs :=
  ⟨h.1.keep fun p hp he => World.cell?_of_block (k.block p.block hp (hA _ he.symm)), h.2⟩
set_option maxHeartbeats 2000000 in
theorem pick_any (b : Nat) (A : Option Addr) (n c T : Nat) (xs : List Int) (m : Int) (w : World) (hx : SB w A n xs) (hA : ∀ k, blk A = some k → k ≠ b) (hs : Src b A n c T w) (hT : T ≤ 900000000) (hn : n ≤ 9223372036854775807) (hm : m ≤ 60000) (hm0 : -60000 ≤ m) :
    Calls Try.prog 107 #[.pointer (some ⟨b, 0, none⟩), .int .i64 m] w (Got b A n c (T + 2) (max m 1) w) := by
  have HX := Lib.hid hx
  have HA := Lib.hid hA
  have HS := Lib.hid hs
  clear hx hA hs
  by_cases h1 : m ≤ 1
  · go_enter Try.func107, Try.ntmps107
    go_wp2_with fail
    go_ret
    exact ⟨0, rfl, by omega, by omega, HS.out.le (by omega), Kb.refl b w⟩
  have h0 : ¬ m = 0 := by omega
  by_cases h2 : m ≤ 200
  · go_enter Try.func107, Try.ntmps107
    go_wp2_with (go_at_call 194; refine (next_any b A n c T xs _ HX.out HA.out HS.out (by omega) hn).mono ?_; rintro e1 w1 ⟨x, rfl, hx0, hx1, hs1, hk1⟩)
    go_ret
    exact ⟨x % m, rfl, Int.emod_nonneg _ h0, by have := Int.emod_lt_of_pos x (show 0 < m by omega); omega, hs1.le (by omega), hk1⟩
  · go_enter Try.func107, Try.ntmps107
    go_upto_region 4 with (go_at_call 194; refine (next_any b A n c T xs _ HX.out HA.out HS.out (by omega) hn).mono ?_; rintro e1 w1 ⟨x, rfl, hx0, hx1, hs1, hk1⟩)
    have HX1 := Lib.hid (HX.out.kb hk1 HA.out)
    have HS1 := Lib.hid hs1
    have HK1 := Lib.hid hk1
    clear hs1 hk1
    go_wp2_with (go_at_call 194; refine (next_any b A n c (T + 1) xs _ HX1.out HA.out HS1.out (by omega) hn).mono ?_; rintro e2 w2 ⟨y, rfl, hy0, hy1, hs2, hk2⟩)
    go_ret
    exact ⟨(x * 256 + y) % m, rfl, Int.emod_nonneg _ h0, by have := Int.emod_lt_of_pos (x * 256 + y) (show 0 < m by omega); omega, hs2, HK1.out.trans hk2⟩
theorem one_any (b : Nat) (A : Option Addr) (n c T : Nat) (xs : List Int) (m : Int) (w : World) (hx : SB w A n xs) (hA : ∀ k, blk A = some k → k ≠ b) (hs : Src b A n c T w) (hT : T ≤ 900000000) (hn : n ≤ 9223372036854775807) (hm : m ≤ 60000) (hm0 : -60000 ≤ m) :
    Calls Try.prog 192 #[.pointer (some ⟨b, 0, none⟩), .int .i64 m] w (fun e w' => ∃ y : Bool, e = .returned (.bool y) ∧ Src b A n c (T + 2) w' ∧ Kb b w w') := by
  go_enter Try.func192, Try.ntmps192
  go_wp2_with (go_at_call 107; refine (pick_any b A n c T xs m _ hx hA hs hT hn hm hm0).mono ?_; rintro e1 w1 ⟨x, rfl, hx0, hx1, hs1, hk1⟩)
  go_ret
  exact ⟨decide (x = 0), rfl, hs1, hk1⟩
set_option maxHeartbeats 1000000 in
/-- A new source. -/
theorem from_any (A : Option Addr) (n c : Nat) (w : World) : Calls Try.prog 105 #[.slice A n c] w (fun e w' => e = .returned (.pointer (some ⟨w.heap.size, 0, none⟩)) ∧ Src w.heap.size A n c 0 w' ∧ Below w.heap.size w w') := by
  obtain ⟨W, hW_⟩ : ∃ W, W = w.alloc (.cells #[.slice A n c, .int .i64 0, .int .u64 0] 241) := ⟨_, rfl⟩
  have b0 : Blk W w.heap.size 241 #[.slice A n c, .int .i64 0, .int .u64 0] := by rw [hW_]; exact Blk.new w _ _
  have y0 : Below w.heap.size w W := by rw [hW_]; exact (Below.refl _ _).alloc (Nat.le_refl _) _
  have HW := Lib.hid hW_
  clear hW_
  go_enter Try.func105, Try.ntmps105
  go_wp2_with fail
  rw [← HW.out]
  go_ret
  exact ⟨rfl, ⟨0, 0, Nat.le_refl _, by omega, by omega, b0⟩, y0⟩
end Go.Proofs.Ytbpofkggoolmpaa

/-
  Contracts of the laws' helpers over [][]int64: szInt64SS, toInt64SS, eqInt64SS, markInt64SS.
-/
namespace Go.Proofs.Ytbpofkggoolmpaa
open Go.RowKit

theorem elII : Elem Try.prog 25 26 1 24 (.slice none 0 0) := ⟨Try.underlying25, by kernel_rfl, rfl, by decide⟩

set_option maxHeartbeats 400000 in
theorem szII (A : Option Addr) (n c : Nat) (ts : List Sl) (left : Int) (w : World) (hx : SII w A n ts) (hn : n ≤ 9223372036854775807) (hns : ∀ t ∈ ts, t.xs.length ≤ 9223372036854775807) (h0 : 0 ≤ left) (h1 : left ≤ 1048576) :
    Calls Try.prog 83 #[.slice A n c, .int .i64 left] w fun e w' => e = .returned (.int .i64 (szRows left (n :: ts.map (fun t => t.xs.length)))) ∧ w = w' := by
  by_cases h : left < n
  · have h2 : left - n < 0 := by omega
    go_enter Try.func83, Try.ntmps83
    go_wp2
    go_ret
    exact ⟨ret_int (by unfold szRows; rw [if_pos h]), rfl⟩
  · have h2 : ¬ left - n < 0 := by omega
    go_enter Try.func83, Try.ntmps83
    go_wp2
    go_loop [1, 5] (fun q i => ∃ (k : Nat) (z : Int), k ≤ n ∧ i = .int .i64 k ∧ q = .int .i64 z ∧ 0 ≤ z ∧ z ≤ 1048576 ∧ Hid (szRows left (n :: ts.map (fun t => t.xs.length)) = szRows z ((ts.drop k).map (fun t => t.xs.length)))) (fun _ i => n - (intOf i).toNat)
    case atStart => exact ⟨0, left - n, by omega, rfl, rfl, by omega, by omega, by show _ = _; rw [szRows, if_neg (by omega)]; simp⟩
    case round =>
      obtain ⟨k, z, hk, rfl, rfl, hz0, hz1, he⟩ := hrel
      by_cases hlt : k < n
      · obtain ⟨t, b, off, hT, htm, rfl, _, hc, hr⟩ := hx.pick hlt
        have hrl := hns t htm
        by_cases hzl : z < (t.xs.length : Int)
        · have HS : Hid (szF z (t.xs.length : Int) = -1) := by show _ = _; unfold szF; rw [if_pos hzl]
          go_wp2_with (go_at_call 84; refine (szI _ _ _ _ _ (by omega) (by omega) (by omega)).mono ?_; rintro e w' ⟨rfl, rfl⟩; rw [HS.out])
          go_ret
          refine ⟨ret_int ?_, rfl⟩
          rw [he.out, szRows_at hT.out, if_pos hzl]
        · have HS : Hid (szF z (t.xs.length : Int) = z - (t.xs.length : Int)) := by show _ = _; unfold szF; rw [if_neg hzl]
          go_wp2_with (go_at_call 84; refine (szI _ _ _ _ _ (by omega) (by omega) (by omega)).mono ?_; rintro e w' ⟨rfl, rfl⟩; rw [HS.out])
          refine ⟨⟨k + 1, _, by omega, by go_num, rfl, by omega, by omega, ?_⟩, by simp [intOf]; omega⟩
          show _ = _
          rw [he.out, szRows_at hT.out, if_neg (by omega)]
      · go_wp2
        go_ret
        refine ⟨ret_int ?_, rfl⟩
        have := hx.len
        rw [he.out, List.drop_eq_nil_of_le (by omega)]
        rfl

set_option maxHeartbeats 400000 in
theorem eqII (A B : Option Addr) (n m c d : Nat) (ts us : List Sl) (w : World) (hx : SII w A n ts) (hy : SII w B m us) (hn : n ≤ 9223372036854775807) (hns : ∀ t ∈ ts, t.xs.length ≤ 9223372036854775807) :
    Calls Try.prog 94 #[.slice A n c, .slice B m d] w fun e w' => e = .returned (.bool (sameII (nums ts) (nums us))) ∧ ∃ q, w' = w.drewN q := by
  by_cases hnm : n = m
  · subst hnm
    go_enter Try.func94, Try.ntmps94
    go_wp2
    go_loopw [5] (fun i wr => ∃ k q : Nat, k ≤ n ∧ i = .int .i64 k ∧ Hid ((nums ts).take k = (nums us).take k) ∧ wr = w.drewN q) (fun i _ => n - (intOf i).toNat)
    case atStart => exact ⟨0, 0, by omega, rfl, rfl, rfl⟩
    case round =>
      obtain ⟨k, q, hk, rfl, he, rfl⟩ := hrel
      by_cases hlt : k < n
      · obtain ⟨t, b, off, hT, htm, rfl, _, hc, hr⟩ := hx.pick hlt
        obtain ⟨u, b', off', hU, hum, rfl, _, hc', hr'⟩ := hy.pick hlt
        have hrl := hns t htm
        go_wp2
        go_quiet ((go_at_call 95; exact quiet_add (eqI _ _ _ _ _ _ _ _ _ (hr.drewN _) (hr'.drewN _) hrl)))
        go_wp2
        · go_ret
          exact ⟨ret_bool (sameII_ne hT.out hU.out (by assumption)), _, World.drewN_drewN _ _ _⟩
        · exact ⟨⟨k + 1, _, by omega, by go_num, nums_next hT.out hU.out he.out (by assumption), rfl⟩, by simp [intOf]; omega⟩
      · go_wp2
        go_ret
        exact ⟨ret_bool (sameII_eq (by omega) hx.len hy.len he.out), _, rfl⟩
  · have hne : ((n : Int) != (m : Int)) = true := by simp; omega
    go_enter Try.func94, Try.ntmps94
    go_wp2
    go_ret
    exact ⟨ret_bool (by have := hx.len; have := hy.len; unfold sameII; symm; rw [decide_eq_false_iff_not]; intro h; have := congrArg List.length h; simp [nums] at this; omega), 0, rfl⟩

def ToII (w : World) (n : Nat) (xss : List (List Int)) (e : Ending) (w' : World) : Prop :=
  ∃ A us, e = .returned (.slice A n n) ∧ OII w' w.heap.size 26 2 A n n us ∧ nums us = xss ∧ (∀ u ∈ us, u.c = u.xs.length) ∧ Below w.heap.size w w'

set_option maxHeartbeats 400000 in
theorem toII (A : Option Addr) (n c : Nat) (ts : List Sl) (w : World) (hx : SII w A n ts) (hn : n ≤ 1048576) (hns : ∀ t ∈ ts, t.xs.length ≤ 1048576) :
    Calls Try.prog 89 #[.slice A n c] w (ToII w n (nums ts)) := by
  have HL := Lib.hid hx.len
  have hxl : n ≤ ts.length := by have := hx.len; omega
  have hxl' : ts.length ≤ n := by have := hx.len; omega
  go_enter Try.func89, Try.ntmps89
  go_wp2_with (at_make; refine wpList_make_Own rfl (.tmp 6) (.tmp 6) rfl elII (n := n) (lo := w.heap.size) rfl rfl (by omega) (by unfold maxLen; omega) (Nat.le_refl _) ?_; intro w2 ho2 hb2 hs2)
  rw [made_rows n] at ho2
  have HS := Lib.hid hs2
  clear hs2
  go_loopw [4] (fun i wr => ∃ (k : Nat) (us : List Sl), k ≤ n ∧ i = .int .i64 k ∧ Hid (us.length = k) ∧ Hid (nums us = (nums ts).take k) ∧ Own wr w.heap.size 26 1 (some ⟨w.heap.size, 0, none⟩) n n (halfRows us (n - k)) ∧
    Hid (∀ u ∈ us, Own wr w.heap.size 2 1 u.A u.xs.length u.c (ints u.xs) ∧ u.c = u.xs.length) ∧ us.Pairwise Apt ∧ Below w.heap.size w wr) (fun i _ => n - (intOf i).toNat)
  case atStart => exact ⟨0, [], by omega, rfl, rfl, by simp [nums, Hid], ho2, fun _ h => absurd h (by simp), List.Pairwise.nil, hb2⟩
  case round =>
    obtain ⟨k, us, hk, rfl, hul, hnu, ho, hu, hp, hb⟩ := hrel
    by_cases hlt : k < n
    · obtain ⟨t, b, off, hT, htm, rfl, hbl, hc, hr⟩ := (hx.below hb).pick hlt
      have hrl := hns t htm
      go_wp2_with fail
      refine (toI _ _ _ _ _ hr (by omega)).mono ?_
      rintro e w3 ⟨A3, rfl, ho3, hb3⟩
      have hwz : w.heap.size < wr.heap.size := ho.blk_lt w.heap.size rfl
      have ho4 := ho.below hb3
      have hkl : k < (halfRows us (n - k)).length := by rw [halfRows_len, hul.out]; omega
      obtain ⟨b', off', he, hlo, _, hc', hf'⟩ := ho4.at_ hkl
      simp only [Option.some.injEq, Addr.mk.injEq, and_true] at he
      obtain ⟨rfl, rfl⟩ := he
      have ho5 := ho4.set_ hkl (.slice A3 t.xs.length t.xs.length)
      have e5 : (halfRows us (n - k)).set k (.slice A3 t.xs.length t.xs.length) = halfRows (us ++ [⟨A3, t.xs.length, t.xs⟩]) (n - (k + 1)) := by
        have := halfRows_next us (n - (k + 1)) ⟨A3, t.xs.length, t.xs⟩
        rw [hul.out, show n - (k + 1) + 1 = n - k from by omega] at this
        exact this
      rw [e5] at ho5
      simp only [Nat.zero_add] at hc' hf' ho5
      have hb5 := ((hb.trans (hb3.mono (by omega))).setCell (p := ⟨w.heap.size, k, none⟩) (Nat.le_refl _) (.slice A3 t.xs.length t.xs.length))
      have hu5 : Hid (∀ u ∈ us ++ [(⟨A3, t.xs.length, t.xs⟩ : Sl)], Own (w3.setCell ⟨w.heap.size, k, none⟩ (.slice A3 t.xs.length t.xs.length)) w.heap.size 2 1 u.A u.xs.length u.c (ints u.xs) ∧ u.c = u.xs.length) := by
        intro u hum
        rcases List.mem_append.1 hum with h | h
        · refine ⟨((hu.out u h).1.below hb3).far (p := ⟨w.heap.size, k, none⟩) (fun e => ?_) _, (hu.out u h).2⟩
          exact Own.blk_ne ((hu.out u h).1) ho (by decide) _ e rfl
        · simp only [List.mem_singleton] at h
          subst h
          refine ⟨(ho3.mono (by omega)).far (p := ⟨w.heap.size, k, none⟩) (fun e => ?_) _, rfl⟩
          have := ho3.blk_ge _ e
          simp only at this; omega
      have hp5 : (us ++ [(⟨A3, t.xs.length, t.xs⟩ : Sl)]).Pairwise Apt := Apt.snoc hp (fun u hum b hb1 hb2 => by
        have h1 := (hu.out u hum).1.blk_lt b hb1
        have h2 := ho3.blk_ge b hb2
        omega)
      have hnu5 : Hid (nums (us ++ [(⟨A3, t.xs.length, t.xs⟩ : Sl)]) = (nums ts).take (k + 1)) := nums_take_next hT.out hnu.out rfl
      have hul5 : Hid ((us ++ [(⟨A3, t.xs.length, t.xs⟩ : Sl)]).length = k + 1) := by show _ = _; rw [List.length_append, hul.out]; rfl
      clear e5 ho4 ho
      go_wp2
      exact ⟨⟨k + 1, _, by omega, by go_num, hul5, hnu5, ho5, hu5, hp5, hb5⟩, by simp [intOf]; omega⟩
    · go_wp2
      go_ret
      have e1 : n - k = 0 := by omega
      have hoo := ho
      rw [e1, halfRows_end] at hoo
      refine ⟨_, us, rfl, ⟨hoo, fun u h => (hu.out u h).1, hp⟩, ?_, fun u h => (hu.out u h).2, hb⟩
      rw [hnu.out, List.take_of_length_le (by simp [nums]; omega)]

theorem total_take {ts : List Sl} {t : Sl} {k : Nat} (hT : ts[k]? = some t) : total (ts.take (k + 1)) = total (ts.take k) + t.xs.length := by
  obtain ⟨h, rfl⟩ := List.getElem?_eq_some_iff.1 hT
  unfold total; rw [List.take_succ_eq_append_getElem h, List.map_append, List.sum_append]; simp
theorem total_take_le (ts : List Sl) (k : Nat) : total (ts.take k) ≤ total ts := by
  have e : total ts = total (ts.take k) + total (ts.drop k) := by unfold total; rw [← List.sum_append, ← List.map_append, List.take_append_drop]
  omega

set_option maxHeartbeats 400000 in
theorem markII_m (T : List TypeId) (A : Option Addr) (n c : Nat) (ts : List Sl) (m : Int) (w : World) (lo hi : Nat) (hx : MkII w lo hi 26 2 A n c ts) (hT : 2 ∈ T) (hT2 : 26 ∉ T) (hn : n ≤ 9223372036854775807) (h0 : 0 ≤ m) (h1 : m + total ts ≤ 9223372036854775807) :
    Calls Try.prog 98 #[.slice A n c, .int .i64 m] w (MarkP T w lo hi (total ts) m) := by
  have hl : ts.length = n := by have := hx.1.1; simp at this; omega
  have HL := Lib.hid hl
  have HT := Lib.hid hT
  have HT2 := Lib.hid hT2
  clear hl hT hT2
  go_enter Try.func98, Try.ntmps98
  go_wp2
  go_loopw [1, 5] (fun q i wr => ∃ k : Nat, k ≤ n ∧ i = .int .i64 k ∧ q = .int .i64 (m + total (ts.take k)) ∧ MkII wr lo hi 26 2 A n c ts ∧ MkF T lo hi w wr) (fun _ i _ => n - (intOf i).toNat)
  case atStart => exact ⟨0, by omega, rfl, by simp [total], hx, MkF.refl _ _ _ _⟩
  case round =>
    obtain ⟨k, hk, rfl, rfl, ho, ht⟩ := hrel
    by_cases hlt : k < n
    · have hkl : k < ts.length := by have := HL.out; omega
      obtain ⟨t, hT⟩ : ∃ t, ts[k]? = some t := ⟨ts[k], List.getElem?_eq_getElem hkl⟩
      have hmem : t ∈ ts := List.mem_of_getElem? hT
      have HTO := Lib.hid (total_take hT)
      have hle := total_take_le ts (k + 1)
      obtain ⟨b, off, rfl, _, _, hc, _⟩ := ho.1.at_ (k := k) (by simpa using hkl)
      have hcv : wr.cell? ⟨b, off + k, none⟩ = some (.slice t.A t.xs.length t.c) := by rw [hc]; obtain ⟨h, rfl⟩ := List.getElem?_eq_some_iff.1 hT; simp [Sl.val]
      have hle2 : (total (ts.take k) : Int) + t.xs.length ≤ total ts := by have := HTO.out; omega
      clear hc hT hle
      go_wp2_with (go_at_call 99; refine (markI_m T _ _ _ _ _ lo hi (ho.2 t hmem) HT.out (by omega) (by omega)).mono ?_; rintro e w3 ⟨rfl, ht3⟩)
      refine ⟨⟨k + 1, by omega, by go_num, ?_, ho.mkf ht3 HT2.out, ht.trans ht3⟩, by simp [intOf]; omega⟩
      rw [HTO.out]; go_num
    · go_wp2
      go_ret
      refine ⟨ret_int ?_, ht⟩
      rw [List.take_of_length_le (by have := HL.out; omega)]
end Go.Proofs.Ytbpofkggoolmpaa

/-
  What the size helpers of the laws come to, in one form.
-/
namespace Go.Proofs.Ytbpofkggoolmpaa
open Go.RowKit
def SzP (w : World) (left tot : Int) (e : Ending) (w' : World) : Prop := ∃ z : Int, e = .returned (.int .i64 z) ∧ -1 ≤ z ∧ z ≤ left ∧ (0 ≤ z → z = left - tot) ∧ Below w.heap.size w w'
theorem szF_p {left : Int} {n : Nat} (h0 : 0 ≤ left) : -1 ≤ szF left n ∧ szF left n ≤ left ∧ (0 ≤ szF left n → szF left n = left - n) := by
  unfold szF; split <;> omega
theorem szI_p (A : Option Addr) (n c : Nat) (left : Int) (w : World) (hn : n ≤ 9223372036854775807) (h0 : 0 ≤ left) (h1 : left ≤ 1048576) :
    Calls Try.prog 84 #[.slice A n c, .int .i64 left] w (SzP w left n) :=
  (szI A n c left w hn h0 h1).mono fun _e _w' ⟨he, hw⟩ => ⟨_, he, (szF_p h0).1, (szF_p h0).2.1, (szF_p h0).2.2, hw ▸ Below.refl _ _⟩
theorem szR_p (A : Option Addr) (n c : Nat) (left : Int) (w : World) (hn : n ≤ 9223372036854775807) (h0 : 0 ≤ left) (h1 : left ≤ 1048576) : Calls Try.prog 82 #[.slice A n c, .int .i64 left] w (SzP w left n) := (szR A n c left w hn h0 h1).mono fun _e _w' ⟨he, hw⟩ => ⟨_, he, (szF_p h0).1, (szF_p h0).2.1, (szF_p h0).2.2, hw ▸ Below.refl _ _⟩
end Go.Proofs.Ytbpofkggoolmpaa

/-
  What the size helper over [][]int64 comes to, in one form; totals of rows.
-/
namespace Go.Proofs.Ytbpofkggoolmpaa
open Go.RowKit
theorem szRows_tot : ∀ (rows : List Nat) (left : Int), 0 ≤ left → -1 ≤ szRows left rows ∧ szRows left rows ≤ left ∧ (0 ≤ szRows left rows → szRows left rows = left - rows.sum)
  | [], left, h => by simp [szRows]; omega
  | n :: r, left, h => by
    rw [szRows]
    split
    · omega
    · rename_i hn
      have h2 := szRows_tot r (left - n) (by omega)
      simp only [List.sum_cons]
      omega
theorem szII_p (A : Option Addr) (n c : Nat) (ts : List Sl) (left : Int) (w : World) (hx : SII w A n ts) (hn : n ≤ 9223372036854775807) (hns : ∀ t ∈ ts, t.xs.length ≤ 9223372036854775807) (h0 : 0 ≤ left) (h1 : left ≤ 1048576) :
    Calls Try.prog 83 #[.slice A n c, .int .i64 left] w (SzP w left ((n + total ts : Nat) : Int)) :=
  (szII A n c ts left w hx hn hns h0 h1).mono fun _e _w' ⟨he, hw⟩ => by
    have h2 := szRows_tot (n :: ts.map (fun t => t.xs.length)) left h0
    have h3 : (n :: ts.map (fun t => t.xs.length)).sum = n + total ts := by simp [total]
    rw [h3] at h2
    exact ⟨_, he, h2.1, h2.2.1, h2.2.2, hw ▸ Below.refl _ _⟩
theorem row_total {ts : List Sl} {t : Sl} (h : t ∈ ts) : t.xs.length ≤ total ts := by
  unfold total
  obtain ⟨a, b, rfl⟩ := List.append_of_mem h
  simp; omega
theorem total_of_nums (ts : List Sl) : total ts = ((nums ts).map List.length).sum := by simp [total, nums, Function.comp_def]
theorem total_same {ts us : List Sl} (h : nums us = nums ts) : total us = total ts := by rw [total_of_nums, total_of_nums, h]
theorem rows_le {ts us : List Sl} (h : nums us = nums ts) {b : Nat} (hb : ∀ t ∈ ts, t.xs.length ≤ b) : ∀ u ∈ us, u.xs.length ≤ b := by
  intro u hu
  have h1 : u.xs ∈ nums us := List.mem_map.2 ⟨u, hu, rfl⟩
  rw [h] at h1
  obtain ⟨t, ht, e⟩ := List.mem_map.1 h1
  rw [← e]; exact hb t ht
end Go.Proofs.Ytbpofkggoolmpaa

/-
  Words that the laws' walks share: a box that a region made, contracts of the helpers in one form.
-/
namespace Go.Proofs.Ytbpofkggoolmpaa
open Go.RowKit

theorem Own.asI {w : World} {lo n c : Nat} {e : TypeId} {A : Option Addr} {xs : List Int} (h : Own w lo e 1 A n c (ints xs)) : SI w A n xs := h.rd
theorem Own.as3 {w : World} {lo n c : Nat} {e : TypeId} {A : Option Addr} {xs : List R3} (h : Own w lo e 3 A n c (cells3 xs)) : S3 w A n xs := h.rd
/-- A block from lo on that is known whole. -/
def Bx (lo : Nat) (t : TypeId) (cs : Array Value) (g : Nat) (w : World) : Prop := lo ≤ g ∧ Blk w g t cs
theorem Bx.new {lo : Nat} (w : World) (t : TypeId) (cs : Array Value) (h : lo ≤ w.heap.size) : Bx lo t cs w.heap.size (w.alloc (.cells cs t)) := ⟨h, Blk.new w t cs⟩
theorem Bx.below' {lo g : Nat} {t : TypeId} {cs : Array Value} {w w' : World} (h : Bx lo t cs g w) (z : Below w.heap.size w w') : Bx lo t cs g w' := ⟨h.1, h.2.below' z⟩
theorem Bx.drewN {lo g : Nat} {t : TypeId} {cs : Array Value} {w : World} (h : Bx lo t cs g w) (n : Nat) : Bx lo t cs g (w.drewN n) := ⟨h.1, h.2.drewN n⟩
theorem below_of_alloc {w w' : World} {o : Obj} (h : Below (w.alloc o).heap.size (w.alloc o) w') : Below w.heap.size w w' :=
  ((Below.refl _ _).alloc (Nat.le_refl _) o).trans (h.mono (by simp))
theorem eqI_b (A B : Option Addr) (n m c d : Nat) (xs ys : List Int) (w : World) (hx : SI w A n xs) (hy : SI w B m ys) (hn : n ≤ 9223372036854775807) :
    Calls Try.prog 95 #[.slice A n c, .slice B m d] w fun e w' => e = .returned (.bool (sameI xs ys)) ∧ Below w.heap.size w w' :=
  (eqI A B n m c d xs ys w hx hy hn).mono fun _ _ ⟨he, q, hq⟩ => ⟨he, hq ▸ below_drewN (Below.refl _ _) q⟩
theorem heldI_b (A : Option Addr) (n c : Nat) (xs : List Int) (m : Int) (w : World) (hx : SI w A n xs) (h0 : 0 ≤ m) (h1 : m + n ≤ 9223372036854775807) : Calls Try.prog 101 #[.slice A n c, .int .i64 m] w fun e w' => e = .returned (.int .i64 (heldF m xs)) ∧ Below w.heap.size w w' := (heldI A n c xs m w hx h0 h1).mono fun _ _ ⟨he, hq⟩ => ⟨he, hq ▸ Below.refl _ _⟩
theorem sameII_self (xs : List (List Int)) : sameII xs xs = true := by simp [sameII]
theorem eqII_b (A B : Option Addr) (n m c d : Nat) (ts us : List Sl) (w : World) (hx : SII w A n ts) (hy : SII w B m us) (hn : n ≤ 9223372036854775807) (hns : ∀ t ∈ ts, t.xs.length ≤ 9223372036854775807) : Calls Try.prog 94 #[.slice A n c, .slice B m d] w fun e w' => e = .returned (.bool (sameII (nums ts) (nums us))) ∧ Below w.heap.size w w' := (eqII A B n m c d ts us w hx hy hn hns).mono fun _ _ ⟨he, q, hq⟩ => ⟨he, hq ▸ below_drewN (Below.refl _ _) q⟩
end Go.Proofs.Ytbpofkggoolmpaa

/-
  Marks that are read again, for [][]int64; owned rows behind other marks.
-/
namespace Go.Proofs.Ytbpofkggoolmpaa
open Go.RowKit

theorem OII.blk_ge {w : World} {lo : Nat} {e2 e1 : TypeId} {A : Option Addr} {n c : Nat} {ts : List Sl} (h : OII w lo e2 e1 A n c ts) : ∀ b, blk A = some b → lo ≤ b := h.1.blk_ge
theorem OII.mono {w : World} {lo lo' : Nat} {e2 e1 : TypeId} {A : Option Addr} {n c : Nat} {ts : List Sl} (h : OII w lo e2 e1 A n c ts) (hl : lo' ≤ lo) : OII w lo' e2 e1 A n c ts := ⟨h.1.mono hl, fun t ht => (h.2.1 t ht).mono hl, h.2.2⟩
theorem OII.alloc {w : World} {lo : Nat} {e2 e1 : TypeId} {A : Option Addr} {n c : Nat} {ts : List Sl} (h : OII w lo e2 e1 A n c ts) (o : Obj) : OII (w.alloc o) lo e2 e1 A n c ts := ⟨h.1.alloc o, fun t ht => (h.2.1 t ht).alloc o, h.2.2⟩
theorem OII.mkf_far {T : List TypeId} {w w' : World} {l hh lo : Nat} {e2 e1 : TypeId} {A : Option Addr} {n c : Nat} {ts : List Sl} (h : OII w lo e2 e1 A n c ts) (hf : MkF T l hh w w') (hd : ∀ b, lo ≤ b → b < l ∨ hh ≤ b) : OII w' lo e2 e1 A n c ts :=
  ⟨h.1.mkf_far hf (fun b hb => hd b (h.1.blk_ge b hb)), fun t ht => (h.2.1 t ht).mkf_far hf (fun b hb => hd b ((h.2.1 t ht).blk_ge b hb)), h.2.2⟩
theorem OII.mkf_below {T : List TypeId} {w0 w w' : World} {l hh lo : Nat} {e2 e1 : TypeId} {A : Option Addr} {n c : Nat} {ts : List Sl} (h0 : OII w0 lo e2 e1 A n c ts) (hl : w0.heap.size ≤ l) (h : OII w lo e2 e1 A n c ts) (hf : MkF T l hh w w') : OII w' lo e2 e1 A n c ts :=
  ⟨h.1.mkf_far hf (fun b hb => .inl (by have := h0.1.blk_lt b hb; omega)), fun t ht => (h.2.1 t ht).mkf_far hf (fun b hb => .inl (by have := (h0.2.1 t ht).blk_lt b hb; omega)), h.2.2⟩
theorem OII.touch_below {w0 w w' : World} {l hh lo : Nat} {e2 e1 : TypeId} {A : Option Addr} {n c : Nat} {ts : List Sl} (h0 : OII w0 lo e2 e1 A n c ts) (hl : w0.heap.size ≤ l) (h : OII w lo e2 e1 A n c ts) (ht : Tch l hh w w') : OII w' lo e2 e1 A n c ts :=
  ⟨h.1.touch ht (fun b hb => .inl (by have := h0.1.blk_lt b hb; omega)), fun t htm => (h.2.1 t htm).touch ht (fun b hb => .inl (by have := (h0.2.1 t htm).blk_lt b hb; omega)), h.2.2⟩

def offs (us : List Sl) (k : Nat) : Nat := total (us.take k)
theorem offs_zero (us : List Sl) : offs us 0 = 0 := by simp [offs, total]
theorem offs_next {us : List Sl} {t : Sl} {k : Nat} (hT : us[k]? = some t) : offs us (k + 1) = offs us k + t.xs.length := total_take hT
theorem offs_le (us : List Sl) (k : Nat) : offs us k ≤ total us := total_take_le us k
theorem offs_end {us : List Sl} {k : Nat} (h : us.length ≤ k) : offs us k = total us := by unfold offs; rw [List.take_of_length_le h]
/-- The rows hold marks that run on from row to row. -/
def MarkedII (w : World) (A : Option Addr) (n : Nat) (us : List Sl) (p : Int) : Prop := Rd w 1 A n (us.map Sl.val) ∧ ∀ k t, us[k]? = some t → SI w t.A t.xs.length (marks (p + offs us k) t.xs.length)
theorem MarkedII.below {w w' : World} {A : Option Addr} {n : Nat} {us : List Sl} {p : Int} (h : MarkedII w A n us p) (z : Below w.heap.size w w') : MarkedII w' A n us p := ⟨h.1.below z, fun k t ht => (h.2 k t ht).below z⟩
def MarkII (w : World) (lo hi : Nat) (A : Option Addr) (n : Nat) (us : List Sl) (p : Int) (e : Ending) (w' : World) : Prop := e = .returned (.int .i64 (p + total us)) ∧ MarkedII w' A n us p ∧ Tch lo hi w w'
/-- What holds behind the first k rows. -/
def MarkTo (w : World) (lo hi : Nat) (A : Option Addr) (n c : Nat) (us : List Sl) (p : Int) (k : Nat) (wr : World) : Prop :=
  Own wr lo 26 1 A n c (us.map Sl.val) ∧ (∀ j t, us[j]? = some t → j < k → SI wr t.A t.xs.length (marks (p + offs us j) t.xs.length)) ∧ (∀ j t, us[j]? = some t → k ≤ j → Own wr lo 2 1 t.A t.xs.length t.c (ints t.xs)) ∧ Tch lo hi w wr
theorem apt_of {us : List Sl} (h : us.Pairwise Apt) {i j : Nat} {t u : Sl} (hi : us[i]? = some t) (hj : us[j]? = some u) (hne : i ≠ j) : ∀ b, blk t.A = some b → blk u.A ≠ some b := by
  obtain ⟨hi1, rfl⟩ := List.getElem?_eq_some_iff.1 hi
  obtain ⟨hj1, rfl⟩ := List.getElem?_eq_some_iff.1 hj
  rw [List.pairwise_iff_getElem] at h
  rcases Nat.lt_or_gt_of_ne hne with hlt | hlt
  · exact h i j hi1 hj1 hlt
  · intro b h1 h2
    exact h j i hj1 hi1 hlt b h2 h1
theorem MarkTo.step {w wr w' : World} {lo hi : Nat} {A : Option Addr} {n c : Nat} {us : List Sl} {p : Int} {k : Nat} {t : Sl} (h : MarkTo w lo hi A n c us p k wr) (hap : us.Pairwise Apt) (hT : us[k]? = some t) (hne : 2 ≠ 26) (ho : OwnE w' lo 2 t.A t.xs.length t.c (marks (p + offs us k) t.xs.length)) (ht : Tch lo hi wr w') (hs : ∀ b, blk t.A ≠ some b → w'.heap[b]? = wr.heap[b]?) : MarkTo w lo hi A n c us p (k + 1) w' := by
  obtain ⟨h1, h2, h3, h4⟩ := h
  have hrow := h3 k t hT (Nat.le_refl _)
  refine ⟨h1.kept fun b hb _ _ => hs b (fun e => hrow.blk_ne h1 hne b e hb), ?_, ?_, h4.trans ht⟩
  · intro j u hu hj
    by_cases e : j = k
    · subst e
      rw [hT] at hu
      cases hu
      exact ho.si
    · refine Rd.keep (h2 j u hu (by omega)) fun q hq hbq => ?_
      exact World.cell?_of_block (hs q.block (fun e2 => apt_of hap hT hu (Ne.symm e) q.block e2 hbq.symm))
  · intro j u hu hj
    exact (h3 j u hu (by omega)).kept fun b hb _ _ => hs b (fun e2 => apt_of hap hT hu (by omega) b e2 hb)

set_option maxHeartbeats 1000000 in
theorem markII_c (A : Option Addr) (n c : Nat) (us : List Sl) (p : Int) (w : World) (lo hi : Nat) (o : OII w lo 26 2 A n c us) (hh : ∀ t ∈ us, ∀ b, blk t.A = some b → b < hi) (hne : 2 ≠ 26) (hn : n ≤ 1048576) (ht : total us ≤ 1048576) (g0 : 0 ≤ p) (g1 : p ≤ 1000000000) :
    Calls Try.prog 98 #[.slice A n c, .int .i64 p] w (MarkII w lo hi A n us p) := by
  have hl : us.length = n := by have := o.1.1; simp at this; omega
  have HL := Lib.hid hl
  have HO := Lib.hid o
  have HNE := Lib.hid hne
  have HH := Lib.hid hh
  clear hl hne hh
  have hst : MarkTo w lo hi A n c us p 0 w := ⟨o.1, fun j t _ hj => absurd hj (Nat.not_lt_zero j), fun j t hT _ => o.2.1 t (List.mem_of_getElem? hT), Tch.refl _ _ _⟩
  clear o
  go_enter Try.func98, Try.ntmps98
  go_wp2
  go_loopw [1, 5] (fun q i wr => ∃ k : Nat, k ≤ n ∧ i = .int .i64 k ∧ q = .int .i64 (p + offs us k) ∧ MarkTo w lo hi A n c us p k wr) (fun _ i _ => n - (intOf i).toNat)
  case atStart => exact ⟨0, by omega, rfl, by simp [offs_zero], hst⟩
  case round =>
    obtain ⟨k, hk, rfl, rfl, hM⟩ := hrel
    have hof := offs_le us k
    by_cases hlt : k < n
    · have hkl : k < us.length := by have := HL.out; omega
      obtain ⟨t, hT⟩ : ∃ t, us[k]? = some t := ⟨us[k], List.getElem?_eq_getElem hkl⟩
      have hof1 := offs_le us (k + 1)
      have HOF := Lib.hid (offs_next hT)
      have hle : offs us k + t.xs.length ≤ total us := by have := HOF.out; omega
      obtain ⟨b, off, rfl, _, _, hc, _⟩ := hM.1.at_ (k := k) (by simpa using hkl)
      have hcv : wr.cell? ⟨b, off + k, none⟩ = some (.slice t.A t.xs.length t.c) := by rw [hc]; obtain ⟨h, rfl⟩ := List.getElem?_eq_some_iff.1 hT; simp [Sl.val]
      have HT := Lib.hid hT
      have hrow := hM.2.2.1 k t hT (Nat.le_refl _)
      have HBL : Hid (∀ b, blk t.A = some b → b < hi) := fun b hb => HH.out t (List.mem_of_getElem? HT.out) b hb
      clear hc hT hof1
      go_wp2_with fail
      refine (markI _ _ _ t.xs _ _ lo hi (.inr hrow) HBL.out (by omega) (by omega)).mono ?_
      rintro e w3 ⟨rfl, oo, t3, s3⟩
      have hM2 := MarkTo.step hM HO.out.2.2 HT.out HNE.out oo t3 s3
      go_wp2_with fail
      go_roundw
      case rel => exact ⟨k + 1, by omega, by go_num, by rw [HOF.out]; go_num, hM2⟩
      case measure => simp [intOf]; omega
    · have hkn : k = us.length := by have := HL.out; omega
      go_wp2
      go_ret
      refine ⟨ret_int ?_, ⟨hM.1.rd, fun j t hT => hM.2.1 j t hT ?_⟩, hM.2.2.2⟩
      · rw [offs_end (by omega)]
      · have := (List.getElem?_eq_some_iff.1 hT).1; omega

set_option maxHeartbeats 1000000 in
theorem heldII_c (A : Option Addr) (n c : Nat) (us : List Sl) (p : Int) (w : World) (h : MarkedII w A n us p) (hn : n ≤ 1048576) (ht : total us ≤ 1048576) (g0 : 0 ≤ p) (g1 : p ≤ 1000000000) :
    Calls Try.prog 100 #[.slice A n c, .int .i64 p] w fun e w' => e = .returned (.int .i64 (p + total us)) ∧ Below w.heap.size w w' := by
  have hl : us.length = n := by have := h.1.1; simp at this; omega
  have HL := Lib.hid hl
  clear hl
  go_enter Try.func100, Try.ntmps100
  go_wp2
  go_loop [1, 5] (fun q i => ∃ k : Nat, k ≤ n ∧ i = .int .i64 k ∧ q = .int .i64 (p + offs us k)) (fun _ i => n - (intOf i).toNat)
  case atStart => exact ⟨0, by omega, rfl, by simp [offs_zero]⟩
  case round =>
    obtain ⟨k, hk, rfl, rfl⟩ := hrel
    have hof := offs_le us k
    by_cases hlt : k < n
    · have hkl : k < us.length := by have := HL.out; omega
      obtain ⟨t, hT⟩ : ∃ t, us[k]? = some t := ⟨us[k], List.getElem?_eq_getElem hkl⟩
      have hof1 := offs_le us (k + 1)
      have HOF := Lib.hid (offs_next hT)
      have hle : offs us k + t.xs.length ≤ total us := by have := HOF.out; omega
      obtain ⟨b, off, rfl, _, hc⟩ := h.1.at_ (k := k) (by simpa using hkl)
      have hcv : w.cell? ⟨b, off + k, none⟩ = some (.slice t.A t.xs.length t.c) := by rw [hc]; obtain ⟨h, rfl⟩ := List.getElem?_eq_some_iff.1 hT; simp [Sl.val]
      have hrow := h.2 k t hT
      have gneg : ¬ (p + (offs us k : Int) + (t.xs.length : Int) < 0) := by omega
      clear hc hT hof1
      go_wp2_with fail
      refine (heldI _ _ _ (marks (p + offs us k) t.xs.length) _ _ hrow (by omega) (by omega)).mono ?_
      rintro e w3 ⟨rfl, rfl⟩
      rw [heldF_marks]
      go_wp2_with fail
      go_round
      case rel => exact ⟨k + 1, by omega, by go_num, by rw [HOF.out]; go_num⟩
      case measure => simp [intOf]; omega
    · have hkn : k = us.length := by have := HL.out; omega
      go_wp2
      go_ret
      exact ⟨ret_int (by rw [offs_end (by omega)]), Below.refl _ _⟩
theorem total_of {us : List Sl} {M : List (List Int)} {b : Nat} (h : nums us = M) (hl : (M.map List.length).sum ≤ b) : total us ≤ b := by rw [total_of_nums, h]; exact hl
end Go.Proofs.Ytbpofkggoolmpaa
