/-
  Contracts of the reference's l00Same, l25SameConfig, l25Spans, CheckCycle.
-/
import Derived.Test.YtbedghebckflmaaCycI
namespace Go.Proofs.Ytbedghebckflmaa
open Go.RowKit

set_option maxHeartbeats 400000 in
theorem l00Same_any (A B : Option Addr) (n m c d : Nat) (xs ys : List Int) (w : World) (hx : SI w A n xs) (hy : SI w B m ys) (hn : n ≤ 9223372036854775807) :
    Calls Try.prog 148 #[.slice A n c, .slice B m d] w fun e w' => e = .returned (.bool (sameI xs ys)) ∧ ∃ q, w' = w.drewN q := by
  by_cases hnm : n = m
  · subst hnm
    go_enter Try.func148, Try.ntmps148
    go_wp2
    go_loopw [5] (fun i wr => ∃ k q : Nat, k ≤ n ∧ i = .int .i64 k ∧ Hid (xs.take k = ys.take k) ∧ wr = w.drewN q) (fun i _ => n - (intOf i).toNat)
    case atStart => exact ⟨0, 0, by omega, rfl, rfl, rfl⟩
    case round =>
      obtain ⟨k, q, hk, rfl, he, rfl⟩ := hrel
      by_cases hlt : k < n
      · obtain ⟨b, off, rfl, _, hc⟩ := hx.at_ hlt
        obtain ⟨b', off', rfl, _, hc'⟩ := hy.at_ hlt
        go_wp2
        go_quiet (fail)
        go_wp2
        · go_ret
          exact ⟨ret_bool (sameI_ne hlt hx.len hy.len (by assumption)), _, World.drewN_drewN _ _ _⟩
        · exact ⟨⟨k + 1, _, by omega, by go_num, take_next hlt hx.len hy.len he.out (by assumption), rfl⟩, by simp [intOf]; omega⟩
      · go_wp2
        go_ret
        exact ⟨ret_bool (sameI_eq (by omega) hx.len hy.len he.out), _, rfl⟩
  · have hne : ((n : Int) != (m : Int)) = true := by simp; omega
    go_enter Try.func148, Try.ntmps148
    go_wp2
    go_ret
    exact ⟨ret_bool (sameI_len hnm hx.len hy.len), 0, rfl⟩
theorem l00Same_is {xs ys : List Int} {v : Bool} (h : sameI xs ys = v) (A B : Option Addr) (n m c d : Nat) (w : World) (hx : SI w A n xs) (hy : SI w B m ys) (hn : n ≤ 9223372036854775807) :
    Calls Try.prog 148 #[.slice A n c, .slice B m d] w fun e w' => e = .returned (.bool v) ∧ ∃ q, w' = w.drewN q := h ▸ l00Same_any A B n m c d xs ys w hx hy hn

set_option maxHeartbeats 2000000 in
theorem l25SameConfig_any (f : Nat) (q : Int) (B : Option Addr) (m c : Nat) (xs : List Int) (C : Option Addr) (l d : Nat) (ys : List Int) (f' : Nat) (q' : Int) (B' : Option Addr) (m' c' : Nat) (xs' : List Int) (C' : Option Addr) (l' d' : Nat) (ys' : List Int) (w : World) (hc : ConfAt w f q B m c C l d) (hx : SI w B m xs) (hy : SI w C l ys) (hc' : ConfAt w f' q' B' m' c' C' l' d') (hx' : SI w B' m' xs') (hy' : SI w C' l' ys') (hm : m ≤ 1048576) (hl : l ≤ 1048576) :
    Calls Try.prog 107 #[.pointer (some ⟨f, 0, none⟩), .pointer (some ⟨f', 0, none⟩)] w fun e w' => e = .returned (.bool (sameConfB ⟨q, xs, ys⟩ ⟨q', xs', ys'⟩)) ∧ ∃ nq, w' = w.drewN nq := by
  obtain ⟨u0, u1, u2⟩ := id hc
  obtain ⟨v0, v1, v2⟩ := id hc'
  have hm9 : m ≤ 9223372036854775807 := by omega
  have hl9 : l ≤ 9223372036854775807 := by omega
  cases g1 : (q == q')
  · have H1 := Lib.hid (show ¬ q = q' by simpa using g1)
    go_enter Try.func107, Try.ntmps107
    go_wp2_with fail
    go_quiet (fail)
    go_wp2_with fail
    go_ret
    exact ⟨ret_bool (by unfold sameConfB; simp [H1.out]), _, rfl⟩
  have H1 := Lib.hid (show q = q' by simpa using g1)
  cases g2 : sameI xs xs'
  · have H2 := Lib.hid g2
    go_enter Try.func107, Try.ntmps107
    go_wp2_with fail
    go_quiet ((go_at_call 148; exact quiet_1 (l00Same_is H2.out _ _ _ _ _ _ _ (hx.drewN _) (hx'.drewN _) hm9)))
    go_wp2_with fail
    go_ret
    exact ⟨ret_bool (by unfold sameConfB; simp [H2.out]), _, rfl⟩
  have H2 := Lib.hid g2
  go_enter Try.func107, Try.ntmps107
  go_wp2_with fail
  go_quiet ((first
    | (go_at_call_of 148 (Value.slice B m c); exact quiet_1 (l00Same_is H2.out _ _ _ _ _ _ _ (hx.drewN _) (hx'.drewN _) hm9))
    | (go_at_call_of 148 (Value.slice C l d); exact quiet_1 (l00Same_any _ _ _ _ _ _ ys ys' _ (hy.drewN _) (hy'.drewN _) hl9))))
  go_wp2_with fail
  go_ret
  exact ⟨ret_bool (by unfold sameConfB; simp [H1.out, H2.out]), _, rfl⟩

set_option maxHeartbeats 2000000 in
theorem l25Spans_any (g : Nat) (q : Int) (b off c : Nat) (B : Option Addr) (m d : Nat) (x0 x1 : Int) (w : World) (hp : PrfAt w g q (some ⟨b, off, none⟩) 2 c B m d) (hc0 : w.cell? ⟨b, off, none⟩ = some (.int .i64 x0)) (hc1 : w.cell? ⟨b, off + 1, none⟩ = some (.int .i64 x1)) :
    Calls Try.prog 106 #[.pointer (some ⟨g, 0, none⟩)] w fun e w' => e = .returned (.bool (spanB x0 x1)) ∧ ∃ nq, w' = w.drewN nq := by
  obtain ⟨u0, u1, u2⟩ := hp
  cases a1 : inB x0 0 20000
  · have A1 := Lib.hid a1
    clear a1
    go_enter Try.func106, Try.ntmps106
    go_wp2_with fail
    go_quiet ((go_at_call 92; exact quiet_left (l00In_is A1.out _)))
    go_wp2_with fail
    go_ret
    exact ⟨ret_bool (by unfold spanB; rw [A1.out]; rfl), _, rfl⟩
  have A1 := Lib.hid a1
  have hb := (inB_iff _ _ _).1 a1
  clear a1
  have hwr : IntKind.i64.wrap (20000 - x0) = 20000 - x0 := IntWalk.i64_in _ (by omega)
  go_enter Try.func106, Try.ntmps106
  go_wp2_with fail
  go_quiet ((first
    | (go_at_call_of 92 (Value.int .i64 x0); exact quiet_left (l00In_is A1.out _))
    | (go_at_call_of 92 (Value.int .i64 x1); exact quiet_left (l00In_any _ _ _ _))))
  go_wp2_with fail
  go_ret
  exact ⟨ret_bool (by unfold spanB; rw [A1.out]; rfl), _, rfl⟩
theorem l25Spans_b (g : Nat) (q : Int) (b off c : Nat) (B : Option Addr) (m d : Nat) (x0 x1 : Int) (w : World) (hp : PrfAt w g q (some ⟨b, off, none⟩) 2 c B m d) (hc0 : w.cell? ⟨b, off, none⟩ = some (.int .i64 x0)) (hc1 : w.cell? ⟨b, off + 1, none⟩ = some (.int .i64 x1)) :
    Calls Try.prog 106 #[.pointer (some ⟨g, 0, none⟩)] w fun e w' => e = .returned (.bool (spanB x0 x1)) ∧ Below w.heap.size w w' :=
  (l25Spans_any g q b off c B m d x0 x1 w hp hc0 hc1).mono fun _ _ ⟨he, q, hq⟩ => ⟨he, hq ▸ below_drewN (Below.refl _ _) q⟩

theorem itC_add (sy : Int) (rs : List R3) (c : Conf) (a b : Nat) : itC sy rs (itC sy rs c a) b = itC sy rs c (a + b) := by
  induction b with
  | zero => rfl
  | succ b ih => show nextC sy rs (itC sy rs (itC sy rs c a) b) = nextC sy rs (itC sy rs c (a + b)); rw [ih]
theorem alive_add {sy : Int} {rs : List R3} {c : Conf} {a b : Nat} (h : Alive sy rs c a) : Alive sy rs (itC sy rs c a) b ↔ Alive sy rs c (a + b) := by
  constructor
  · intro hb j hj
    by_cases hja : j < a
    · exact h j hja
    · have h1 := hb (j - a) (by omega)
      rw [itC_add, itC_add, show a + (j - a) = j by omega, show a + (j - a + 1) = j + 1 by omega] at h1
      exact h1
  · intro hb j hj
    rw [itC_add, itC_add]
    exact hb (a + j) (by omega)

/-- What l25After returned, in a box. -/
def AfterBoxC (W : World) (sy : Int) (rs : List R3) (c0 : Conf) (N : Nat) (s5 s6 s7 : Value) (wx : World) : Prop :=
  ∃ g v x cf, s5 = .pointer (some ⟨g, 0, none⟩) ∧ s6 = .int .i64 x ∧ s7 = .bool v ∧ ConfC wx W.heap.size g cf ∧ (v = true → Alive sy rs c0 N ∧ cf = itC sy rs c0 N) ∧ (v = false → ¬ Alive sy rs c0 N) ∧ Below W.heap.size W wx
theorem l25After_int (g : Nat) (sy st : Int) (A : Option Addr) (n k : Nat) (rs : List R3) (c : Conf) (L : Option Addr) (a : Nat) (R : Option Addr) (d : Nat) (x : Int) (w : World) (hm : MachAt w g sy st A n k) (hrs : S3 w A n rs) (hx : SI w L c.xs.length c.xs) (hy : SI w R c.ys.length c.ys) (hgc : goodC sy st rs c) (hn : n ≤ 1048576) (h0 : 0 ≤ x) (h1 : x ≤ 1000000) :
    Calls Try.prog 93 #[.pointer (some ⟨g, 0, none⟩), .agg #[.int .i64 c.q, .slice L c.xs.length a, .slice R c.ys.length d], .int .i64 x] w (AfterS w sy rs c x.toNat) := by
  obtain ⟨N, rfl⟩ : ∃ N : Nat, x = (N : Int) := ⟨x.toNat, by omega⟩
  rw [Int.toNat_natCast]
  exact l25After_any g sy st A n k rs c L a R d N w hm hrs hx hy hgc hn (by omega)
theorem l25After_blanki (g : Nat) (sy st : Int) (A : Option Addr) (n k : Nat) (rs : List R3) (L : Option Addr) (a : Nat) (R : Option Addr) (d : Nat) (x : Int) (w : World) (hm : MachAt w g sy st A n k) (hrs : S3 w A n rs) (hgc : goodC sy st rs blankC) (hn : n ≤ 1048576) (h0 : 0 ≤ x) (h1 : x ≤ 1000000) :
    Calls Try.prog 93 #[.pointer (some ⟨g, 0, none⟩), .agg #[.int .i64 0, .slice L 0 a, .slice R 0 d], .int .i64 x] w (AfterS w sy rs blankC x.toNat) :=
  l25After_int g sy st A n k rs blankC L a R d x w hm hrs SI.nil SI.nil hgc hn h0 h1

set_option maxRecDepth 100000 in
set_option maxHeartbeats 8000000 in
theorem specCheckCycle_any (sy st : Int) (C : Option Addr) (l k : Nat) (rs : List R3) (q : Int) (A : Option Addr) (n c : Nat) (xs : List Int) (B : Option Addr) (m d : Nat) (ts : List Sl) (w : World) (hr : S3 w C l rs) (hx : SI w A n xs) (hy : SII w B m ts) (hl : l ≤ 1048576) (hn : n ≤ 1048576) (hm : m ≤ 1048576) (hns : ∀ t ∈ ts, t.xs.length ≤ 1048576) :
    Calls Try.prog 51 #[.agg #[.int .i64 sy, .int .i64 st, .slice C l k], .agg #[.int .i64 q, .slice A n c, .slice B m d]] w fun e w' => e = .returned (.bool (checkCycleF sy st rs q xs (nums ts))) ∧ Below w.heap.size w w' := by
  obtain ⟨W, hW_⟩ : ∃ W, W = (w.alloc (.cells #[.int .i64 sy, .int .i64 st, .slice C l k] 30)).alloc (.cells #[.int .i64 q, .slice A n c, .slice B m d] 58) := ⟨_, rfl⟩
  have s_1 : (w.alloc (.cells #[.int .i64 sy, .int .i64 st, .slice C l k] 30)).heap.size = w.heap.size + 1 := by simp
  have b0 : Blk W w.heap.size 30 #[.int .i64 sy, .int .i64 st, .slice C l k] := by rw [hW_]; exact (Blk.new w _ _).alloc _
  have b1 : Blk W (w.heap.size + 1) 58 #[.int .i64 q, .slice A n c, .slice B m d] := by rw [hW_, ← s_1]; exact Blk.new _ _ _
  have y0 : Below w.heap.size w W := by rw [hW_]; exact ((Below.refl _ _).alloc (Nat.le_refl _) _).alloc (by simp) _
  have HW := Lib.hid hW_
  clear hW_ s_1
  have HNS := Lib.hid hns
  clear hns
  have hM := b0.machAt
  go_enter Try.func51, Try.ntmps51
  go_wp2_with fail
  rw [← HW.out]
  refine (l05Is_any _ _ _ _ _ _ rs _ hM (hr.below y0) hl).mono ?_
  rintro e W1 ⟨rfl, z1⟩
  have y1 := y0.trans (z1.mono y0.size)
  have c1 := b1.below' z1
  have hM1 := hM.below z1
  cases a0 : machB sy st rs
  · have A0 := Lib.hid a0
    clear a0
    go_wp2_with fail
    go_ret
    exact ⟨ret_bool (by unfold checkCycleF; rw [formB_eq, A0.out]; rfl), y1⟩
  have A0 := Lib.hid a0
  clear a0
  go_wp2_with fail
  refine (l25Form_any _ _ _ _ _ xs _ _ _ ts 2 2 _ c1.prfAt (hx.below y1) (hy.below y1) hn hm HNS.out).mono ?_
  rintro e w' ⟨rfl, rfl⟩
  cases a1 : formB q xs (nums ts) 2 2
  · have A1 := Lib.hid a1
    clear a1
    go_wp2_with fail
    go_ret
    exact ⟨ret_bool (by unfold checkCycleF; rw [formB_eq, A0.out, A1.out]; rfl), y1⟩
  have a2 : proofOfB sy st rs q xs (nums ts) 2 2 = true := by rw [formB_eq, A0.out, a1]; rfl
  obtain ⟨hg, hxl⟩ := proofOf_parts a2
  have A1 := Lib.hid a2
  clear a1 a2
  obtain rfl : n = 2 := by have := hx.len; omega
  obtain ⟨b, off, rfl, hbl, hc0, hc1⟩ := (hx.below y1).two
  obtain ⟨x0, hx0⟩ : ∃ x, x = xs.getD 0 0 := ⟨_, rfl⟩
  obtain ⟨x1, hx1⟩ : ∃ x, x = xs.getD 1 0 := ⟨_, rfl⟩
  rw [← hx0] at hc0
  rw [← hx1] at hc1
  have HF : Hid (checkCycleF sy st rs q xs (nums ts) = (spanB x0 x1 && aliveB sy rs blankC x0.toNat && aliveB sy rs blankC (x0 + x1).toNat && sameConfB (itC sy rs blankC x0.toNat) (itC sy rs blankC (x0 + x1).toNat))) := Lib.hid (by unfold checkCycleF; rw [← hx0, ← hx1, A1.out]; simp)
  clear hx0 hx1 hxl
  go_wp2_with fail
  refine (l25Spans_b _ _ _ _ _ _ _ _ x0 x1 _ c1.prfAt hc0 hc1).mono ?_
  rintro e W2 ⟨rfl, z2⟩
  have y2 := y1.trans (z2.mono y1.size)
  cases a2 : spanB x0 x1
  · have A2 := Lib.hid a2
    clear a2
    go_wp2_with fail
    go_ret
    exact ⟨ret_bool (by rw [HF.out, A2.out]; rfl), y2⟩
  have A2 := Lib.hid a2
  have hspan := (spanB_iff x0 x1).1 a2
  clear a2
  have c2 := c1.below' z2
  have hM2 := hM1.below z2
  have KEEP : Hid (∀ cur, Below W2.heap.size W2 cur → cur.cell? ⟨w.heap.size + 1, 1, none⟩ = some (.slice (some ⟨b, off, none⟩) 2 c) ∧ cur.cell? ⟨b, off, none⟩ = some (.int .i64 x0) ∧ cur.cell? ⟨b, off + 1, none⟩ = some (.int .i64 x1)) := fun cur h =>
    have h2 := z1.trans (z2.mono z1.size)
    ⟨(c2.below' h).cell 1, (h.cell (p := ⟨b, off, none⟩) (by have := z2.size; show b < _; omega)).trans ((z2.cell (p := ⟨b, off, none⟩) hbl).trans hc0), (h.cell (p := ⟨b, off + 1, none⟩) (by have := z2.size; show b < _; omega)).trans ((z2.cell (p := ⟨b, off + 1, none⟩) hbl).trans hc1)⟩
  clear hc0 hc1
  obtain ⟨v1, hc0, hc1⟩ := KEEP.out _ (Below.refl _ _)
  go_wp2_with fail
  go_cut [5, 6, 7] (fun s5 s6 s7 wx => AfterBoxC W2 sy rs blankC x0.toNat s5 s6 s7 wx)
  case first =>
    go_region_held3 (fun w' => w'.cell? ⟨w.heap.size + 1, 1, none⟩ = some (.slice (some ⟨b, off, none⟩) 2 c) ∧ w'.cell? ⟨b, off, none⟩ = some (.int .i64 x0) ∧ w'.cell? ⟨b, off + 1, none⟩ = some (.int .i64 x1))
      (first
        | (go_keep; done)
        | (exact KEEP.out _ (by first
            | exact zz4
            | exact zz4.alloc zz4.size _
            | exact zz3
            | exact zz3.alloc zz3.size _
            | exact conf_below (zz4.alloc zz4.size _) zz4.size _ _ _
            | exact conf_below zz4 BX.out.1 _ _ _)))
      (first
        | (go_at_call 94; refine (l25Blank_any _).mono ?_; rintro e W3 ⟨L2, a2, R2, d2, rfl, oL2, oR2, hap2, z3⟩; have hq : Below W2.heap.size W2 W3 := below_undrew z3; have zz3 := hq; clear hq)
        | (go_at_call 94; refine (l25Blank_any _).mono ?_; rintro e W3 ⟨L2, a2, R2, d2, rfl, oL2, oR2, hap2, z3⟩; have hq : Below W2.heap.size W2 W3 := below_of_alloc (below_undrew z3); have zz3 := hq; clear hq; have BX := Lib.hid (((Bx.new W2 38 #[.int .i64 0, .slice none 0 0, .slice none 0 0] (Nat.le_refl _)).drewN 1).below' z3))
        | (go_at_call 93; have hq := BX; (with_reducible refine (l25After_blanki _ sy st C l k rs _ _ _ _ x0 _ (hM2.below zz3) ((hr.below y2).below zz3) hg hl (by omega) (by omega)).mono ?_); rintro e W4 ⟨v, x3, cf, L3, a3, R3', d3, rfl, hv1, hv2, oL3, oR3, hap3, z4⟩; have zz4 : Below W2.heap.size W2 W4 := zz3.trans (z4.mono zz3.size); have BX2 := Lib.hid (BX.out.below' z4); clear hq BX; have BX := BX2; clear BX2; have oL3 := oL3.mono zz3.size; have oR3 := oR3.mono zz3.size; have x0_ : _ = some (Value.int .i64 0) := BX.out.2.cell 0; have f0 := BX.out.2.frozen 0; have x1_ : _ = some (Value.slice none 0 0) := BX.out.2.cell 1; have f1 := BX.out.2.frozen 1; have x2_ : _ = some (Value.slice none 0 0) := BX.out.2.cell 2; have f2 := BX.out.2.frozen 2)
        | (go_at_call 93; (with_reducible refine (l25After_blanki _ sy st C l k rs _ _ _ _ x0 _ (hM2.below zz3) ((hr.below y2).below zz3) hg hl (by omega) (by omega)).mono ?_); rintro e W4 ⟨v, x3, cf, L3, a3, R3', d3, rfl, hv1, hv2, oL3, oR3, hap3, z4⟩; have zz4 : Below W2.heap.size W2 W4 := zz3.trans (z4.mono zz3.size); have oL3 := oL3.mono zz3.size; have oR3 := oR3.mono zz3.size)
        | (go_at_call 93; (with_reducible refine (l25After_blanki _ sy st C l k rs _ _ _ _ x0 _ ((hM2.below zz3).alloc _) (((hr.below y2).below zz3).alloc _) hg hl (by omega) (by omega)).mono ?_); rintro e W4 ⟨v, x3, cf, L3, a3, R3', d3, rfl, hv1, hv2, oL3, oR3, hap3, z4⟩; have zz4 : Below W2.heap.size W2 W4 := zz3.trans ((below_of_alloc z4).mono zz3.size); have BX := Lib.hid ((Bx.new W3 38 #[.int .i64 0, .slice none 0 0, .slice none 0 0] zz3.size).below' z4); have oL3 := oL3.mono (show W2.heap.size ≤ _ from Nat.le_trans zz3.size (by simp)); have oR3 := oR3.mono (show W2.heap.size ≤ _ from Nat.le_trans zz3.size (by simp)); have x0_ : _ = some (Value.int .i64 0) := BX.out.2.cell 0; have f0 := BX.out.2.frozen 0; have x1_ : _ = some (Value.slice none 0 0) := BX.out.2.cell 1; have f1 := BX.out.2.frozen 1; have x2_ : _ = some (Value.slice none 0 0) := BX.out.2.cell 2; have f2 := BX.out.2.frozen 2))
    all_goals
      go_wp2_with fail
      go_meet
      first
        | exact ⟨W4.heap.size, v, x3, cf, rfl, rfl, rfl, ConfC.new oL3 oR3 hap3, hv1, hv2, zz4.alloc zz4.size _⟩
        | exact ⟨_, v, x3, cf, rfl, rfl, rfl, ⟨L3, a3, R3', d3, conf_set BX.out.2 _ _ _, conf_far2 BX.out.2 oL3 _ _ _, conf_far2 BX.out.2 oR3 _ _ _, hap3⟩, hv1, hv2, conf_below zz4 BX.out.1 _ _ _⟩
  case rest =>
    obtain ⟨g5, v, x5, cf, rfl, rfl, rfl, hcc, hv1, hv2, z5⟩ := hcut
    have y5 := y2.trans (z5.mono y2.size)
    clear v1 hc0 hc1
    cases v with
    | false =>
      have HV := Lib.hid (aliveB_false (hv2 rfl))
      clear hv1 hv2
      go_wp2_with fail
      go_ret
      exact ⟨ret_bool (by rw [HF.out, A2.out, HV.out]; rfl), y5⟩
    | true =>
      obtain ⟨ha, hcf⟩ := hv1 rfl
      have HV := Lib.hid (aliveB_true ha)
      have hgc : goodC sy st rs cf := by rw [hcf]; exact ha.good hg
      have HSUM : Hid ((x0 + x1).toNat = x0.toNat + x1.toNat) := Lib.hid (by omega)
      have HADD : Hid (∀ v', (v' = true → Alive sy rs cf x1.toNat) → (v' = false → ¬ Alive sy rs cf x1.toNat) → aliveB sy rs blankC (x0 + x1).toNat = v') := fun v' h1 h2 => by
        rw [HSUM.out]
        cases v' with
        | true => exact aliveB_true ((alive_add ha).1 (by rw [← hcf]; exact h1 rfl))
        | false => exact aliveB_false (fun h => h2 rfl (by rw [hcf]; exact (alive_add ha).2 h))
      have HIT : Hid (itC sy rs cf x1.toNat = itC sy rs blankC (x0 + x1).toNat) := Lib.hid (by rw [HSUM.out, hcf, itC_add])
      have HCF := Lib.hid hcf
      have hll := conf_len hgc
      clear hv1 hv2 ha hcf
      obtain ⟨L5, a5, R5, d5, bc5, oL5, oR5, hap5⟩ := hcc
      have HAP5 := Lib.hid hap5
      clear hap5
      have KEEP2 : Hid (∀ cur, Below wc.heap.size wc cur → cur.cell? ⟨g5, 0, none⟩ = some (.int .i64 cf.q) ∧ cur.cell? ⟨g5, 1, none⟩ = some (.slice L5 cf.xs.length a5) ∧ cur.cell? ⟨g5, 2, none⟩ = some (.slice R5 cf.ys.length d5) ∧ cur.cell? ⟨w.heap.size + 1, 1, none⟩ = some (.slice (some ⟨b, off, none⟩) 2 c) ∧ cur.cell? ⟨b, off + 1, none⟩ = some (.int .i64 x1)) := fun cur h =>
        have h2 := KEEP.out _ (z5.trans (h.mono z5.size))
        ⟨(bc5.below' h).cell 0, (bc5.below' h).cell 1, (bc5.below' h).cell 2, h2.1, h2.2.2⟩
      obtain ⟨u0, u1, u2, v1, hc1⟩ := KEEP2.out _ (Below.refl _ _)
      clear KEEP
      go_wp2_with fail
      go_cut [8, 9, 10] (fun s5 s6 s7 wx => AfterBoxC wc sy rs cf x1.toNat s5 s6 s7 wx)
      case first =>
        go_region_held3 (fun w' => w'.cell? ⟨g5, 0, none⟩ = some (.int .i64 cf.q) ∧ w'.cell? ⟨g5, 1, none⟩ = some (.slice L5 cf.xs.length a5) ∧ w'.cell? ⟨g5, 2, none⟩ = some (.slice R5 cf.ys.length d5) ∧ w'.cell? ⟨w.heap.size + 1, 1, none⟩ = some (.slice (some ⟨b, off, none⟩) 2 c) ∧ w'.cell? ⟨b, off + 1, none⟩ = some (.int .i64 x1))
          (first
            | (go_keep; done)
            | (exact KEEP2.out _ (by first
                | exact zz6
                | exact zz6.alloc zz6.size _
                | exact below_drewN ((Below.refl _ _).alloc (Nat.le_refl _) _) _
                | exact (Below.refl _ _).alloc (Nat.le_refl _) _
                | exact conf_below (zz6.alloc zz6.size _) zz6.size _ _ _
                | exact conf_below zz6 BX.out.1 _ _ _)))
          (first
            | (go_at_call 93; refine (l25After_int _ sy st C l k rs cf _ _ _ _ x1 _ ((hM2.below z5).drewN 1) ((hr.below y5).drewN 1) (oL5.asI.drewN 1) (oR5.asI.drewN 1) hgc hl (by omega) (by omega)).mono ?_; rintro e W6 ⟨v, x3, cg, L3, a3, R3', d3, rfl, hv1, hv2, oL3, oR3, hap3, z6⟩; have hq : Below wc.heap.size wc W6 := below_undrew z6; have zz6 := hq; clear hq)
            | (go_at_call 93; refine (l25After_int _ sy st C l k rs cf _ _ _ _ x1 _ (((hM2.below z5).alloc _).drewN 1) (((hr.below y5).alloc _).drewN 1) ((oL5.asI.alloc _).drewN 1) ((oR5.asI.alloc _).drewN 1) hgc hl (by omega) (by omega)).mono ?_; rintro e W6 ⟨v, x3, cg, L3, a3, R3', d3, rfl, hv1, hv2, oL3, oR3, hap3, z6⟩; have hq : Below wc.heap.size wc W6 := below_of_alloc (below_undrew z6); have zz6 := hq; clear hq; have BX := Lib.hid (((Bx.new wc 38 #[.int .i64 0, .slice none 0 0, .slice none 0 0] (Nat.le_refl _)).drewN 1).below' z6); have oL3 := oL3.mono (show wc.heap.size ≤ _ by simp); have oR3 := oR3.mono (show wc.heap.size ≤ _ by simp); have x0_ : _ = some (Value.int .i64 0) := BX.out.2.cell 0; have f0 := BX.out.2.frozen 0; have x1_ : _ = some (Value.slice none 0 0) := BX.out.2.cell 1; have f1 := BX.out.2.frozen 1; have x2_ : _ = some (Value.slice none 0 0) := BX.out.2.cell 2; have f2 := BX.out.2.frozen 2))
        all_goals
          go_wp2_with fail
          go_meet
          first
            | exact ⟨W6.heap.size, v, x3, cg, rfl, rfl, rfl, ConfC.new oL3 oR3 hap3, hv1, hv2, zz6.alloc zz6.size _⟩
            | exact ⟨_, v, x3, cg, rfl, rfl, rfl, ⟨L3, a3, R3', d3, conf_set BX.out.2 _ _ _, conf_far2 BX.out.2 oL3 _ _ _, conf_far2 BX.out.2 oR3 _ _ _, hap3⟩, hv1, hv2, conf_below zz6 BX.out.1 _ _ _⟩
      case rest =>
        obtain ⟨g6, v, x6, cg, rfl, rfl, rfl, hcc6, hv1, hv2, z6⟩ := hcut
        have y6 := y5.trans (z6.mono y5.size)
        have HA := Lib.hid (HADD.out v (fun h => (hv1 h).1) hv2)
        have HV1 := Lib.hid hv1
        clear hv1 hv2 u0 u1 u2 v1 hc1 KEEP2
        cases v with
        | false =>
          go_wp2_with fail
          go_ret
          exact ⟨ret_bool (by rw [HF.out, A2.out, HV.out, HA.out]; rfl), y6⟩
        | true =>
          have HCG := Lib.hid (HV1.out rfl).2
          obtain ⟨L6, a6, R6, d6, bc6, oL6, oR6, _⟩ := hcc6
          go_wp2_with fail
          refine (l25SameConfig_any _ _ _ _ _ cf.xs _ _ _ cf.ys _ _ _ _ _ cg.xs _ _ _ cg.ys _ (bc5.below' z6).confAt (oL5.below z6).asI (oR5.below z6).asI bc6.confAt oL6.asI oR6.asI (by omega) (by omega)).mono ?_
          rintro e w' ⟨rfl, nq, rfl⟩
          go_wp2_with fail
          go_ret
          exact ⟨ret_bool (by rw [HF.out, A2.out, HV.out, HA.out, ← HIT.out, ← HCG.out, ← HCF.out]; rfl), below_drewN y6 nq⟩
end Go.Proofs.Ytbedghebckflmaa
