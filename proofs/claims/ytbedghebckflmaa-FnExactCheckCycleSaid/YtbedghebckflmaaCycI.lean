/-
  Contracts of impl's sameConfig, spanOk, CheckCycle.
-/
import Derived.Test.YtbedghebckflmaaProofS
import Derived.Test.YtbedghebckflmaaConfL
import Derived.Lib.QuietBelow
namespace Go.Proofs.Ytbedghebckflmaa
open Go.RowKit Go.Sort

set_option maxHeartbeats 400000 in
theorem equalI_b (A B : Option Addr) (n m c d : Nat) (xs ys : List Int) (w : World) (hx : SI w A n xs) (hy : SI w B m ys) (hn : n ≤ 9223372036854775807) :
    Calls Try.prog 149 #[.slice A n c, .slice B m d] w fun e w' => e = .returned (.bool (sameI xs ys)) ∧ Below w.heap.size w w' := by
  by_cases hnm : n = m
  · subst hnm
    go_enter Try.func149, Try.ntmps149
    go_wp2
    go_loopw [5, 13] (fun _ i wr => ∃ k q : Nat, k ≤ n ∧ i = .int .i64 k ∧ Hid (xs.take k = ys.take k) ∧ wr = w.drewN q) (fun _ i _ => n - (intOf i).toNat)
    case atStart => exact ⟨0, 0, by omega, rfl, rfl, rfl⟩
    case round =>
      obtain ⟨k, q, hk, rfl, he, rfl⟩ := hrel
      by_cases hlt : k < n
      · obtain ⟨b, off, rfl, _, hc⟩ := hx.at_ hlt
        obtain ⟨b', off', rfl, _, hc'⟩ := hy.at_ hlt
        go_wp2
        go_quiet (fail)
        go_wp2
        · go_ret
          exact ⟨ret_bool (sameI_ne hlt hx.len hy.len (by assumption)), below_drewN (below_drewN (Below.refl _ _) _) _⟩
        · exact ⟨⟨k + 1, _, by omega, by go_num, take_next hlt hx.len hy.len he.out (by assumption), rfl⟩, by simp [intOf]; omega⟩
      · go_wp2
        go_ret
        exact ⟨ret_bool (sameI_eq (by omega) hx.len hy.len he.out), below_drewN (Below.refl _ _) _⟩
  · have hne : ((n : Int) != (m : Int)) = true := by simp; omega
    go_enter Try.func149, Try.ntmps149
    go_wp2
    go_ret
    exact ⟨ret_bool (sameI_len hnm hx.len hy.len), Below.refl _ _⟩

def sameConfB (c d : Conf) : Bool := decide (c.q = d.q) && sameI c.xs d.xs && sameI c.ys d.ys

set_option maxHeartbeats 1000000 in
theorem sameConfig_any (q : Int) (B : Option Addr) (m c : Nat) (xs : List Int) (C : Option Addr) (l d : Nat) (ys : List Int) (q' : Int) (B' : Option Addr) (m' c' : Nat) (xs' : List Int) (C' : Option Addr) (l' d' : Nat) (ys' : List Int) (w : World) (hx : SI w B m xs) (hy : SI w C l ys) (hx' : SI w B' m' xs') (hy' : SI w C' l' ys') (hm : m ≤ 1048576) (hl : l ≤ 1048576) :
    Calls Try.prog 109 #[.agg #[.int .i64 q, .slice B m c, .slice C l d], .agg #[.int .i64 q', .slice B' m' c', .slice C' l' d']] w fun e w' => e = .returned (.bool (sameConfB ⟨q, xs, ys⟩ ⟨q', xs', ys'⟩)) ∧ Below w.heap.size w w' := by
  obtain ⟨W, hW_⟩ : ∃ W, W = (w.alloc (.cells #[.int .i64 q, .slice B m c, .slice C l d] 38)).alloc (.cells #[.int .i64 q', .slice B' m' c', .slice C' l' d'] 38) := ⟨_, rfl⟩
  have s_1 : (w.alloc (.cells #[.int .i64 q, .slice B m c, .slice C l d] 38)).heap.size = w.heap.size + 1 := by simp
  have b0 : Blk W w.heap.size 38 #[.int .i64 q, .slice B m c, .slice C l d] := by rw [hW_]; exact (Blk.new w _ _).alloc _
  have b1 : Blk W (w.heap.size + 1) 38 #[.int .i64 q', .slice B' m' c', .slice C' l' d'] := by rw [hW_, ← s_1]; exact Blk.new _ _ _
  have y0 : Below w.heap.size w W := by rw [hW_]; exact ((Below.refl _ _).alloc (Nat.le_refl _) _).alloc (by simp) _
  have HW := Lib.hid hW_
  clear hW_ s_1
  have u0 : W.cell? ⟨w.heap.size, 0, none⟩ = some (.int .i64 q) := b0.cell 0
  have u1 : W.cell? ⟨w.heap.size, 1, none⟩ = some (.slice B m c) := b0.cell 1
  have u2 : W.cell? ⟨w.heap.size, 2, none⟩ = some (.slice C l d) := b0.cell 2
  have v0 : W.cell? ⟨(w.heap.size + 1), 0, none⟩ = some (.int .i64 q') := b1.cell 0
  have v1 : W.cell? ⟨(w.heap.size + 1), 1, none⟩ = some (.slice B' m' c') := b1.cell 1
  have v2 : W.cell? ⟨(w.heap.size + 1), 2, none⟩ = some (.slice C' l' d') := b1.cell 2
  cases g1 : (q == q')
  · have H1 := Lib.hid (show ¬ q = q' by simpa using g1)
    go_enter Try.func109, Try.ntmps109
    go_wp2_with fail
    rw [← HW.out]
    go_ret
    exact ⟨ret_bool (by unfold sameConfB; simp [H1.out]), y0⟩
  · have H1 := Lib.hid (show q = q' by simpa using g1)
    go_enter Try.func109, Try.ntmps109
    go_wp2_with fail
    rw [← HW.out]
    clear g1
    refine (equalI_b _ _ _ _ _ _ xs xs' _ (hx.below y0) (hx'.below y0) (by omega)).mono ?_
    rintro e W1 ⟨rfl, z1⟩
    have y1 := y0.trans (z1.mono y0.size)
    clear u0 u1 u2 v0 v1 v2
    have c0 := b0.below' z1
    have c1 := b1.below' z1
    have u0 : W1.cell? ⟨w.heap.size, 0, none⟩ = some (.int .i64 q) := c0.cell 0
    have u1 : W1.cell? ⟨w.heap.size, 1, none⟩ = some (.slice B m c) := c0.cell 1
    have u2 : W1.cell? ⟨w.heap.size, 2, none⟩ = some (.slice C l d) := c0.cell 2
    have v0 : W1.cell? ⟨(w.heap.size + 1), 0, none⟩ = some (.int .i64 q') := c1.cell 0
    have v1 : W1.cell? ⟨(w.heap.size + 1), 1, none⟩ = some (.slice B' m' c') := c1.cell 1
    have v2 : W1.cell? ⟨(w.heap.size + 1), 2, none⟩ = some (.slice C' l' d') := c1.cell 2
    cases g2 : sameI xs xs'
    · have H2 := Lib.hid g2
      clear g2
      go_wp2_with fail
      go_ret
      exact ⟨ret_bool (by unfold sameConfB; simp [H2.out]), y1⟩
    · have H2 := Lib.hid g2
      clear g2
      go_wp2_with fail
      refine (equalI_b _ _ _ _ _ _ ys ys' _ (hy.below y1) (hy'.below y1) (by omega)).mono ?_
      rintro e W2 ⟨rfl, z2⟩
      go_wp2_with fail
      go_ret
      exact ⟨ret_bool (by unfold sameConfB; simp [H1.out, H2.out]), y1.trans (z2.mono y1.size)⟩

def spanB (a b : Int) : Bool := inB a 0 20000 && inB b 1 (20000 - a)

theorem spanB_iff (a b : Int) : spanB a b = true ↔ 0 ≤ a ∧ a ≤ 20000 ∧ 1 ≤ b ∧ b ≤ 20000 - a := by
  unfold spanB inB; simp; omega

set_option maxHeartbeats 1000000 in
theorem spanOk_any (a b : Int) (w : World) : Calls Try.prog 108 #[.int .i64 a, .int .i64 b] w fun e w' => e = .returned (.bool (spanB a b)) ∧ w = w' := by
  by_cases h1 : 0 ≤ a
  · by_cases h2 : 1 ≤ b
    · by_cases h3 : a ≤ 20000
      · have d1 : decide (0 ≤ a) = true := by simpa using h1
        have d2 : decide (1 ≤ b) = true := by simpa using h2
        have d3 : decide (a ≤ 20000) = true := by simpa using h3
        go_enter Try.func108, Try.ntmps108
        go_wp2
        go_ret
        exact ⟨ret_bool (by unfold spanB inB; simp [h1, h2, h3]), rfl⟩
      · have d1 : decide (0 ≤ a) = true := by simpa using h1
        have d2 : decide (1 ≤ b) = true := by simpa using h2
        have d3 : decide (a ≤ 20000) = false := by simpa using h3
        go_enter Try.func108, Try.ntmps108
        go_wp2
        go_ret
        exact ⟨ret_bool (by symm; rw [Bool.eq_false_iff]; intro h; have h9 := (spanB_iff a b).1 h; omega), rfl⟩
    · have d1 : decide (0 ≤ a) = true := by simpa using h1
      have d2 : decide (1 ≤ b) = false := by simpa using h2
      go_enter Try.func108, Try.ntmps108
      go_wp2
      go_ret
      exact ⟨ret_bool (by symm; rw [Bool.eq_false_iff]; intro h; have h9 := (spanB_iff a b).1 h; omega), rfl⟩
  · have d1 : decide (0 ≤ a) = false := by simpa using h1
    go_enter Try.func108, Try.ntmps108
    go_wp2
    go_ret
    exact ⟨ret_bool (by symm; rw [Bool.eq_false_iff]; intro h; have h9 := (spanB_iff a b).1 h; omega), rfl⟩
theorem spanOk_is {a b : Int} {v : Bool} (h : spanB a b = v) (w : World) : Calls Try.prog 108 #[.int .i64 a, .int .i64 b] w fun e w' => e = .returned (.bool v) ∧ w = w' := h ▸ spanOk_any a b w

theorem afterSteps_int (sy st : Int) (A : Option Addr) (n k : Nat) (rs : List R3) (x : Int) (w : World) (hr : S3 w A n rs) (hn : n ≤ 1048576) (hg : goodC sy st rs blankC) (h0 : 0 ≤ x) (h1 : x ≤ 1000000) :
    Calls Try.prog 97 #[.agg #[.int .i64 sy, .int .i64 st, .slice A n k], .int .i64 x] w (AfterP w sy st A n k rs x.toNat) := by
  obtain ⟨N, rfl⟩ : ∃ N : Nat, x = (N : Int) := ⟨x.toNat, by omega⟩
  rw [Int.toNat_natCast]
  exact afterSteps_any sy st A n k rs N w hr hn hg (by omega)

/-- What CheckCycle returns. -/
def checkCycleF (sy st : Int) (rs : List R3) (q : Int) (xs : List Int) (xss : List (List Int)) : Bool :=
  proofOfB sy st rs q xs xss 2 2 && spanB (xs.getD 0 0) (xs.getD 1 0) && aliveB sy rs blankC (xs.getD 0 0).toNat && aliveB sy rs blankC (xs.getD 0 0 + xs.getD 1 0).toNat &&
    sameConfB (itC sy rs blankC (xs.getD 0 0).toNat) (itC sy rs blankC (xs.getD 0 0 + xs.getD 1 0).toNat)
theorem SI.two {w : World} {A : Option Addr} {xs : List Int} (h : SI w A 2 xs) : ∃ b off, A = some ⟨b, off, none⟩ ∧ b < w.heap.size ∧ w.cell? ⟨b, off, none⟩ = some (.int .i64 (xs.getD 0 0)) ∧ w.cell? ⟨b, off + 1, none⟩ = some (.int .i64 (xs.getD 1 0)) := by
  obtain ⟨b, off, rfl, hb, h0⟩ := h.at_ (k := 0) (by omega)
  obtain ⟨b', off', e, _, h1⟩ := h.at_ (k := 1) (by omega)
  cases e
  have hl := h.len
  refine ⟨b, off, rfl, hb, ?_, ?_⟩
  · rw [show off = off + 0 from rfl, h0]; congr 2; simp [List.getD_eq_getElem?_getD, List.getElem?_eq_getElem (show 0 < xs.length by omega)]
  · rw [h1]; congr 2; simp [List.getD_eq_getElem?_getD, List.getElem?_eq_getElem (show 1 < xs.length by omega)]
set_option maxRecDepth 100000 in
set_option maxHeartbeats 4000000 in
theorem checkCycleI_any (sy st : Int) (C : Option Addr) (l k : Nat) (rs : List R3) (q : Int) (A : Option Addr) (n c : Nat) (xs : List Int) (B : Option Addr) (m d : Nat) (ts : List Sl) (w : World) (hr : S3 w C l rs) (hx : SI w A n xs) (hy : SII w B m ts) (hl : l ≤ 1048576) (hn : n ≤ 1048576) (hm : m ≤ 1048576) (hns : ∀ t ∈ ts, t.xs.length ≤ 1048576) :
    Calls Try.prog 52 #[.agg #[.int .i64 sy, .int .i64 st, .slice C l k], .agg #[.int .i64 q, .slice A n c, .slice B m d]] w fun e w' => e = .returned (.bool (checkCycleF sy st rs q xs (nums ts))) ∧ Below w.heap.size w w' := by
  obtain ⟨W, hW_⟩ : ∃ W, W = (w.alloc (.cells #[.int .i64 sy, .int .i64 st, .slice C l k] 30)).alloc (.cells #[.int .i64 q, .slice A n c, .slice B m d] 58) := ⟨_, rfl⟩
  have s_1 : (w.alloc (.cells #[.int .i64 sy, .int .i64 st, .slice C l k] 30)).heap.size = w.heap.size + 1 := by simp
  have b0 : Blk W w.heap.size 30 #[.int .i64 sy, .int .i64 st, .slice C l k] := by rw [hW_]; exact (Blk.new w _ _).alloc _
  have b1 : Blk W (w.heap.size + 1) 58 #[.int .i64 q, .slice A n c, .slice B m d] := by rw [hW_, ← s_1]; exact Blk.new _ _ _
  have y0 : Below w.heap.size w W := by rw [hW_]; exact ((Below.refl _ _).alloc (Nat.le_refl _) _).alloc (by simp) _
  have HW := Lib.hid hW_
  clear hW_ s_1
  have HNS := Lib.hid hns
  clear hns
  have u0 : W.cell? ⟨w.heap.size, 0, none⟩ = some (.int .i64 sy) := b0.cell 0
  have u1 : W.cell? ⟨w.heap.size, 1, none⟩ = some (.int .i64 st) := b0.cell 1
  have u2 : W.cell? ⟨w.heap.size, 2, none⟩ = some (.slice C l k) := b0.cell 2
  have v0 : W.cell? ⟨(w.heap.size + 1), 0, none⟩ = some (.int .i64 q) := b1.cell 0
  have v1 : W.cell? ⟨(w.heap.size + 1), 1, none⟩ = some (.slice A n c) := b1.cell 1
  have v2 : W.cell? ⟨(w.heap.size + 1), 2, none⟩ = some (.slice B m d) := b1.cell 2
  have HC : Hid (∀ d' os, Calls Try.prog 95 #[.agg #[.int .i64 sy, .int .i64 st, .slice C l k], .agg #[.int .i64 q, .slice A n c, .slice B m d], .int .i64 2, .int .i64 2] (grow (redrawn W d') os) fun e w' => e = .returned (.bool (proofOfB sy st rs q xs (nums ts) 2 2)) ∧ ∃ p : Regrown, w' = grow (redrawn W p.d) p.os) :=
    fun d' os => Calls.regrown_of (proofOf_any _ _ _ _ _ rs _ _ _ _ xs _ _ _ ts 2 2 _ ((hr.below y0).below (below_regrown W d' os)) ((hx.below y0).below (below_regrown W d' os)) ((hy.below y0).below (below_regrown W d' os)) hl hn hm HNS.out)
  cases a1 : proofOfB sy st rs q xs (nums ts) 2 2
  · have A1 := Lib.hid a1
    rw [a1] at HC
    clear a1
    go_enter Try.func52, Try.ntmps52
    go_wp2_with fail
    rw [← HW.out]
    have k0 := cell_regrown u0
    have k1 := cell_regrown u1
    have k2 := cell_regrown u2
    have m0 := cell_regrown v0
    have m1 := cell_regrown v1
    have m2 := cell_regrown v2
    refine wp_region_quiet_below (by kernel_rfl) (by kernel_rfl) ?_
    repeat (go_big_quiet_step ((go_at_call 95; exact HC.out _ _)))
    refine wpQuiet_nil ?_
    intro _ hw'
    obtain ⟨⟨dq, osq⟩, hw''⟩ := hw'
    subst hw''
    have z1 := below_regrown W dq osq
    clear k0 k1 k2 m0 m1 m2
    generalize grow (redrawn W dq) osq = W1 at *
    go_wp2_with fail
    go_ret
    exact ⟨ret_bool (by unfold checkCycleF; rw [A1.out]; rfl), y0.trans (z1.mono y0.size)⟩
  obtain ⟨hg, hxl⟩ := proofOf_parts a1
  have A1 := Lib.hid a1
  rw [a1] at HC
  clear a1
  obtain rfl : n = 2 := by have := hx.len; omega
  obtain ⟨b, off, rfl, hbl, hc0, hc1⟩ := (hx.below y0).two
  obtain ⟨x0, hx0⟩ : ∃ x, x = xs.getD 0 0 := ⟨_, rfl⟩
  obtain ⟨x1, hx1⟩ : ∃ x, x = xs.getD 1 0 := ⟨_, rfl⟩
  rw [← hx0] at hc0
  rw [← hx1] at hc1
  have HF : Hid (checkCycleF sy st rs q xs (nums ts) = (spanB x0 x1 && aliveB sy rs blankC x0.toNat && aliveB sy rs blankC (x0 + x1).toNat && sameConfB (itC sy rs blankC x0.toNat) (itC sy rs blankC (x0 + x1).toNat))) := Lib.hid (by unfold checkCycleF; rw [← hx0, ← hx1, A1.out]; simp)
  clear hx0 hx1 hxl
  have KEEP : Hid (∀ cur, Below W.heap.size W cur → cur.cell? ⟨w.heap.size, 0, none⟩ = some (.int .i64 sy) ∧ cur.cell? ⟨w.heap.size, 1, none⟩ = some (.int .i64 st) ∧ cur.cell? ⟨w.heap.size, 2, none⟩ = some (.slice C l k) ∧ cur.cell? ⟨w.heap.size + 1, 0, none⟩ = some (.int .i64 q) ∧ cur.cell? ⟨w.heap.size + 1, 1, none⟩ = some (.slice (some ⟨b, off, none⟩) 2 c) ∧ cur.cell? ⟨w.heap.size + 1, 2, none⟩ = some (.slice B m d) ∧
      cur.cell? ⟨b, off, none⟩ = some (.int .i64 x0) ∧ cur.cell? ⟨b, off + 1, none⟩ = some (.int .i64 x1)) := fun cur h =>
    ⟨(b0.below' h).cell 0, (b0.below' h).cell 1, (b0.below' h).cell 2, (b1.below' h).cell 0, (b1.below' h).cell 1, (b1.below' h).cell 2, (h.cell (p := ⟨b, off, none⟩) hbl).trans hc0, (h.cell (p := ⟨b, off + 1, none⟩) hbl).trans hc1⟩
  have hsp : ∃ v, spanB x0 x1 = v := ⟨_, rfl⟩
  obtain ⟨v, hv⟩ := hsp
  have HV := Lib.hid hv
  cases v
  all_goals
    go_enter Try.func52, Try.ntmps52
    go_wp2_with fail
    rw [← HW.out]
    clear hv
    have k0 := cell_regrown u0
    have k1 := cell_regrown u1
    have k2 := cell_regrown u2
    have m0 := cell_regrown v0
    have m1 := cell_regrown v1
    have m2 := cell_regrown v2
    have n0 := cell_regrown hc0
    have n1 := cell_regrown hc1
    refine wp_region_quiet_below (by kernel_rfl) (by kernel_rfl) ?_
    repeat (go_big_quiet_step ((first
      | (go_at_call 95; exact HC.out _ _)
      | (go_at_call 108; exact Calls.regrown_of ((spanOk_is HV.out _).mono fun _ _ ⟨he, hw⟩ => ⟨he, hw ▸ Below.refl _ _⟩)))))
    refine wpQuiet_nil ?_
    intro _ hw'
    obtain ⟨⟨dq, osq⟩, hw''⟩ := hw'
    subst hw''
    have z1 := below_regrown W dq osq
    clear k0 k1 k2 m0 m1 m2 n0 n1
    generalize grow (redrawn W dq) osq = W1 at *
  · go_wp2_with fail
    go_ret
    exact ⟨ret_bool (by rw [HF.out, HV.out]; rfl), y0.trans (z1.mono y0.size)⟩
  have hspan := (spanB_iff x0 x1).1 HV.out
  have y1 := y0.trans (z1.mono y0.size)
  clear u0 u1 u2 v0 v1 v2 hc0 hc1 HC
  obtain ⟨u0, u1, u2, v0, v1, v2, hc0, hc1⟩ := KEEP.out _ z1
  go_wp2_with fail
  go_region_held3 (fun w' => w'.cell? ⟨w.heap.size, 0, none⟩ = some (.int .i64 sy) ∧ w'.cell? ⟨w.heap.size, 1, none⟩ = some (.int .i64 st) ∧ w'.cell? ⟨w.heap.size, 2, none⟩ = some (.slice C l k) ∧ w'.cell? ⟨w.heap.size + 1, 0, none⟩ = some (.int .i64 q) ∧ w'.cell? ⟨w.heap.size + 1, 1, none⟩ = some (.slice (some ⟨b, off, none⟩) 2 c) ∧ w'.cell? ⟨w.heap.size + 1, 2, none⟩ = some (.slice B m d) ∧
      w'.cell? ⟨b, off, none⟩ = some (.int .i64 x0) ∧ w'.cell? ⟨b, off + 1, none⟩ = some (.int .i64 x1))
    (first
      | (go_keep; done)
      | (exact KEEP.out _ zz2))
    (first
      | (go_at_call 97; refine (afterSteps_int _ _ _ _ _ rs x0 _ ((hr.below y1).drewN 1) hl hg (by omega) (by omega)).mono ?_; rintro e W2 ⟨g, v, rfl, hgl, hv1, hv2, z2'⟩; have z2 : Below W1.heap.size W1 W2 := below_undrew z2'; have zz2 : Below W.heap.size W W2 := z1.trans (z2.mono z1.size)))
  have y2 := y1.trans (z2.mono y1.size)
  have HV1 := Lib.hid hv1
  have HV2 := Lib.hid hv2
  clear u0 u1 u2 v0 v1 v2 hc0 hc1 hv1 hv2
  obtain ⟨u0, u1, u2, v0, v1, v2, hc0, hc1⟩ := KEEP.out _ zz2
  have wr1 : IntKind.i64.wrap (x0 + x1) = x0 + x1 := IntWalk.i64_in _ (by omega)
  go_wp2_with fail
  go_region_held3 (fun w' => w'.cell? ⟨w.heap.size, 0, none⟩ = some (.int .i64 sy) ∧ w'.cell? ⟨w.heap.size, 1, none⟩ = some (.int .i64 st) ∧ w'.cell? ⟨w.heap.size, 2, none⟩ = some (.slice C l k) ∧ w'.cell? ⟨w.heap.size + 1, 0, none⟩ = some (.int .i64 q) ∧ w'.cell? ⟨w.heap.size + 1, 1, none⟩ = some (.slice (some ⟨b, off, none⟩) 2 c) ∧ w'.cell? ⟨w.heap.size + 1, 2, none⟩ = some (.slice B m d) ∧
      w'.cell? ⟨b, off, none⟩ = some (.int .i64 x0) ∧ w'.cell? ⟨b, off + 1, none⟩ = some (.int .i64 x1))
    (first
      | (go_keep; done)
      | (exact KEEP.out _ zz3))
    (first
      | (go_at_call 97; refine (afterSteps_int _ _ _ _ _ rs (x0 + x1) _ ((hr.below y2).drewN 1) hl hg (by omega) (by omega)).mono ?_; rintro e W3 ⟨g', v', rfl, hgl', hv1', hv2', z3'⟩; have z3 : Below W2.heap.size W2 W3 := below_undrew z3'; have zz3 : Below W.heap.size W W3 := zz2.trans (z3.mono zz2.size)))
  have y3 := y2.trans (z3.mono y2.size)
  have HV1' := Lib.hid hv1'
  have HV2' := Lib.hid hv2'
  clear u0 u1 u2 v0 v1 v2 hc0 hc1 hv1' hv2' wr1
  cases v with
  | false =>
    have HB := Lib.hid (aliveB_false (HV2.out rfl))
    go_wp2_with fail
    go_ret
    exact ⟨ret_bool (by rw [HF.out, HV.out, HB.out]; rfl), y3⟩
  | true =>
    obtain ⟨ha, hrc⟩ := HV1.out rfl
    have HB := Lib.hid (aliveB_true ha)
    cases v' with
    | false =>
      have HB' := Lib.hid (aliveB_false (HV2'.out rfl))
      clear ha hrc
      go_wp2_with fail
      go_ret
      exact ⟨ret_bool (by rw [HF.out, HV.out, HB.out, HB'.out]; rfl), y3⟩
    | true =>
      obtain ⟨ha', hrc'⟩ := HV1'.out rfl
      have HB' := Lib.hid (aliveB_true ha')
      have hl1 := conf_len (ha.good hg)
      have hl2 := conf_len (ha'.good hg)
      clear ha ha'
      generalize itC sy rs blankC x0.toNat = cf at *
      generalize itC sy rs blankC (x0 + x1).toNat = cg at *
      go_wp2_with fail
      refine (config_any _ _ _ _ _ _ _ _ _ _ _ (hrc.below z3).sides (by rw [List.length_reverse]; omega) (by rw [List.length_reverse]; omega)).mono ?_
      rintro e W4 ⟨L4, c4, R4, d4, rfl, oL4, oR4, _, z4⟩
      rw [List.reverse_reverse] at oL4 oR4
      rw [List.reverse_reverse, List.reverse_reverse]
      go_wp2_with fail
      refine (config_any _ _ _ _ _ _ _ _ _ _ _ (hrc'.below z4).sides (by rw [List.length_reverse]; omega) (by rw [List.length_reverse]; omega)).mono ?_
      rintro e W5 ⟨L5, c5, R5, d5, rfl, oL5, oR5, _, z5⟩
      rw [List.reverse_reverse] at oL5 oR5
      rw [List.reverse_reverse, List.reverse_reverse]
      go_wp2_with fail
      refine (sameConfig_any _ _ _ _ cf.xs _ _ _ cf.ys _ _ _ _ cg.xs _ _ _ cg.ys _ (oL4.below z5).asI (oR4.below z5).asI oL5.asI oR5.asI (by omega) (by omega)).mono ?_
      rintro e W6 ⟨rfl, z6⟩
      have y4 := y3.trans (z4.mono y3.size)
      have y5 := y4.trans (z5.mono y4.size)
      go_wp2_with fail
      go_ret
      exact ⟨ret_bool (by rw [HF.out, HV.out, HB.out, HB'.out]; rfl), y5.trans (z6.mono y5.size)⟩
end Go.Proofs.Ytbedghebckflmaa
