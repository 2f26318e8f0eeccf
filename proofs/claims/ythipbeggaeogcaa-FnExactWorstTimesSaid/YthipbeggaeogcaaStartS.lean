/-
  Contract of spec.StartConfig: it returns what startF says.
-/
import Derived.Test.YthipbeggaeogcaaStartI
namespace Go.Proofs.Ythipbeggaeogcaa
open Go.RowKit

theorem Blk.own0 {w : World} {g lo s : Nat} {t : TypeId} (h : Blk w g t #[]) (hl : lo ≤ g) : Own w lo t s (some ⟨g, 0, none⟩) 0 0 [] :=
  ⟨by simp, .inr ⟨g, 0, #[], rfl, hl, h, Nat.le_refl _, by simp [maxLen], by simp, fun k hk => by simp at hk⟩⟩

def overB (xs : List Int) (L : Int) : Bool := xs.all (fun x => decide (x < L))
theorem over_word {xs : List Int} {L : Int} (h : isWordB xs = true) : overB xs L = allIn xs 0 (L - 1) := by
  unfold isWordB allIn at h
  simp only [Bool.and_eq_true, List.all_eq_true] at h
  unfold overB allIn
  rw [Bool.eq_iff_iff, List.all_eq_true, List.all_eq_true]
  constructor
  · intro h1 x hx
    have h2 := h1 x hx
    have h3 := (inB_iff _ _ _).1 (h.2 x hx)
    rw [inB_iff]
    simp only [decide_eq_true_eq] at h2
    omega
  · intro h1 x hx
    have h2 := (inB_iff _ _ _).1 (h1 x hx)
    simp only [decide_eq_true_eq]
    omega
theorem overB_out {xs : List Int} {L : Int} {k n : Nat} (hk : k < n) (hl : xs.length = n) (h : L ≤ xs[k]'(by omega)) : false = overB xs L := by
  symm
  unfold overB
  rw [List.all_eq_false]
  exact ⟨xs[k]'(by omega), List.getElem_mem _, by simp; omega⟩
theorem overB_next {xs : List Int} {L : Int} {k n : Nat} (hk : k < n) (hl : xs.length = n) (h : xs[k]'(by omega) < L) (he : overB (xs.take k) L = true) : overB (xs.take (k + 1)) L = true := by
  unfold overB at he ⊢
  rw [List.take_succ_eq_append_getElem (by omega), List.all_append, he]
  simpa using h
theorem overB_end {xs : List Int} {L : Int} {k n : Nat} (hk : n ≤ k) (hl : xs.length = n) (he : overB (xs.take k) L = true) : true = overB xs L := by
  rw [List.take_of_length_le (by omega)] at he; exact he.symm

set_option maxHeartbeats 400000 in
theorem l03Over_any (A : Option Addr) (n c : Nat) (xs : List Int) (L : Int) (w : World) (hx : SI w A n xs) (hn : n ≤ 9223372036854775807) :
    Calls Try.prog 197 #[.slice A n c, .int .i64 L] w fun e w' => e = .returned (.bool (overB xs L)) ∧ w = w' := by
  go_enter Try.func197, Try.ntmps197
  go_wp2
  go_loop [5] (fun i => ∃ k : Nat, k ≤ n ∧ i = .int .i64 k ∧ Hid (overB (xs.take k) L = true)) (fun i => n - (intOf i).toNat)
  case atStart => exact ⟨0, by omega, rfl, rfl⟩
  case round =>
    obtain ⟨k, hk, rfl, he⟩ := hrel
    by_cases hlt : k < n
    · obtain ⟨b, off, rfl, _, hc⟩ := hx.at_ hlt
      have hle : k < xs.length := by have := hx.len; omega
      by_cases hge : L ≤ xs[k]
      · have HG := Lib.hid (overB_out hlt hx.len hge)
        have i1 : decide (L ≤ xs[k]) = true := by simpa using hge
        clear hge
        go_wp2
        go_ret
        exact ⟨ret_bool HG.out, rfl⟩
      · have HG := Lib.hid (overB_next hlt hx.len (by omega) he.out)
        have i1 : decide (L ≤ xs[k]) = false := by simpa using hge
        clear hge
        go_wp2
        exact ⟨⟨k + 1, by omega, by go_num, HG.out⟩, by simp [intOf]; omega⟩
    · go_wp2
      go_ret
      exact ⟨ret_bool (overB_end (by omega) hx.len he.out), rfl⟩
theorem l03Over_is {xs : List Int} {L : Int} {v : Bool} (h : overB xs L = v) (A : Option Addr) (n c : Nat) (w : World) (hx : SI w A n xs) (hn : n ≤ 9223372036854775807) :
    Calls Try.prog 197 #[.slice A n c, .int .i64 L] w fun e w' => e = .returned (.bool v) ∧ w = w' := h ▸ l03Over_any A n c xs L w hx hn
theorem l03Is_is {xs : List Int} {v : Bool} (h : isWordB xs = v) (A : Option Addr) (n c : Nat) (w : World) (hx : SI w A n xs) (hn : n ≤ 9223372036854775807) :
    Calls Try.prog 196 #[.slice A n c] w fun e w' => e = .returned (.bool v) ∧ w = w' := h ▸ l03Is_any A n c xs w hx hn

set_option maxHeartbeats 1000000 in
theorem l05Start_any (B : Option Addr) (m c : Nat) (xs : List Int) (w : World) (hx : SI w B m xs) (hm : m ≤ 1048576) (hcap : m ≤ c) :
    Calls Try.prog 198 #[.slice B m c] w (NewConf w 0 [] (trimI xs)) := by
  obtain ⟨W, hW_⟩ : ∃ W, W = (w.alloc (.cells #[.int .i64 0, .slice none 0 0, .slice none 0 0] 172)).alloc (.cells #[] 2) := ⟨_, rfl⟩
  have s_1 : (w.alloc (.cells #[.int .i64 0, .slice none 0 0, .slice none 0 0] 172)).heap.size = w.heap.size + 1 := by simp
  have b0 : Blk W w.heap.size 172 #[.int .i64 0, .slice none 0 0, .slice none 0 0] := by rw [hW_]; exact (Blk.new w _ _).alloc _
  have b1 : Blk W (w.heap.size + 1) 2 #[] := by rw [hW_, ← s_1]; exact Blk.new _ _ _
  have y0 : Below w.heap.size w W := by rw [hW_]; exact ((Below.refl _ _).alloc (Nat.le_refl _) _).alloc (by simp) _
  have HW := Lib.hid hW_
  clear hW_ s_1
  go_enter Try.func198, Try.ntmps198
  go_wp2_with fail
  rw [← HW.out]
  refine (l05Trim_any _ _ _ xs _ (hx.below y0) hm hcap).mono ?_
  rintro e W1 ⟨B1, c1, rfl, o1, z1⟩
  have y1 := y0.trans (z1.mono y0.size)
  have c0 := b0.below' z1
  have oE := (b1.below' z1).own0 (lo := w.heap.size) (s := 1) (by omega)
  have hlt : w.heap.size < W.heap.size := b0.lt
  have hlt1 : w.heap.size + 1 < W.heap.size := b1.lt
  generalize trimI xs = t at *
  have u0 : W1.cell? ⟨w.heap.size, 0, none⟩ = some (.int .i64 0) := c0.cell 0
  have u1 : W1.cell? ⟨w.heap.size, 1, none⟩ = some (.slice none 0 0) := c0.cell 1
  have u2 : W1.cell? ⟨w.heap.size, 2, none⟩ = some (.slice none 0 0) := c0.cell 2
  have f0 := c0.frozen 0
  have f1 := c0.frozen 1
  have f2 := c0.frozen 2
  go_wp2_with fail
  have d1 := conf_set c0 (.int .i64 0) (.slice (some ⟨w.heap.size + 1, 0, none⟩) 0 0) (.slice B1 t.length c1)
  have oE2 := ((oE.far (p := ⟨w.heap.size, 0, none⟩) (by simp [blk]) (.int .i64 0)).far (p := ⟨w.heap.size, 1, none⟩) (by simp [blk]) (.slice (some ⟨w.heap.size + 1, 0, none⟩) 0 0)).far (p := ⟨w.heap.size, 2, none⟩) (by simp [blk]) (.slice B1 t.length c1)
  exact bodyPost_ret (v := .agg #[.int .i64 0, .slice (some ⟨w.heap.size + 1, 0, none⟩) 0 0, .slice B1 t.length c1]) (by simp [results, Try.results198, go_sem, d1.cell 0, d1.cell 1, d1.cell 2]) rfl
    ⟨some ⟨w.heap.size + 1, 0, none⟩, 0, B1, c1, rfl, oE2, (conf_far o1 (by omega) _ _ _).mono (by omega), fun b h1 h2 => by have := o1.blk_ge b h2; simp [blk] at h1; omega, conf_below y1 (by omega) _ _ _⟩

set_option maxHeartbeats 4000000 in
theorem specStartConfig_any (sy st : Int) (A : Option Addr) (n k : Nat) (rs : List R3) (B : Option Addr) (m c : Nat) (xs : List Int) (w : World) (hr : S3 w A n rs) (hx : SI w B m xs) (hn : n ≤ 1048576) (hm : m ≤ 1048576) (hcap : m ≤ c) :
    Calls Try.prog 160 #[.agg #[.int .i64 sy, .int .i64 st, .slice A n k], .slice B m c] w (NewConf2 w (startF sy st rs xs)) := by
  obtain ⟨W, hW_⟩ : ∃ W, W = (w.alloc (.cells #[.int .i64 sy, .int .i64 st, .slice A n k] 82)).alloc (.cells #[.int .i64 0, .slice none 0 0, .slice none 0 0] 172) := ⟨_, rfl⟩
  have s_1 : (w.alloc (.cells #[.int .i64 sy, .int .i64 st, .slice A n k] 82)).heap.size = w.heap.size + 1 := by simp
  have b0 : Blk W w.heap.size 82 #[.int .i64 sy, .int .i64 st, .slice A n k] := by rw [hW_]; exact (Blk.new w _ _).alloc _
  have b1 : Blk W (w.heap.size + 1) 172 #[.int .i64 0, .slice none 0 0, .slice none 0 0] := by rw [hW_, ← s_1]; exact Blk.new _ _ _
  have y0 : Below w.heap.size w W := by rw [hW_]; exact ((Below.refl _ _).alloc (Nat.le_refl _) _).alloc (by simp) _
  have HW := Lib.hid hW_
  clear hW_ s_1
  have hM := b0.machAt
  go_enter Try.func160, Try.ntmps160
  go_wp2_with fail
  rw [← HW.out]
  refine (l05Is_any _ _ _ _ _ _ rs _ hM (hr.below y0) hn).mono ?_
  rintro e W1 ⟨rfl, z1⟩
  have y1 := y0.trans (z1.mono y0.size)
  have c0 := b0.below' z1
  have c1 := b1.below' z1
  have q0 : W1.cell? ⟨w.heap.size, 0, none⟩ = some (.int .i64 sy) := c0.cell 0
  have q1 : W1.cell? ⟨w.heap.size, 1, none⟩ = some (.int .i64 st) := c0.cell 1
  have q2 : W1.cell? ⟨w.heap.size, 2, none⟩ = some (.slice A n k) := c0.cell 2
  have u0 : W1.cell? ⟨(w.heap.size + 1), 0, none⟩ = some (.int .i64 0) := c1.cell 0
  have u1 : W1.cell? ⟨(w.heap.size + 1), 1, none⟩ = some (.slice none 0 0) := c1.cell 1
  have u2 : W1.cell? ⟨(w.heap.size + 1), 2, none⟩ = some (.slice none 0 0) := c1.cell 2
  have f0 := c1.frozen 0
  have f1 := c1.frozen 1
  have f2 := c1.frozen 2
  cases a0 : machB sy st rs
  · have HF := Lib.hid (startF_bad (sy := sy) (st := st) (rs := rs) (xs := xs) (by rw [a0]; rfl))
    clear a0
    go_wp2_with fail
    have d1 := conf_set c1 (.int .i64 0) (.slice none 0 0) (.slice none 0 0)
    exact bodyPost_ret (v := .tuple #[.agg #[.int .i64 0, .slice none 0 0, .slice none 0 0], .int .i64 1]) (by simp [results, Try.results160, go_sem, d1.cell 0, d1.cell 1, d1.cell 2]) rfl (newConf2_zero HF.out (conf_below y1 (by omega) _ _ _))
  have A0 := Lib.hid a0
  clear a0
  cases a1 : isWordB xs
  · have HF := Lib.hid (startF_bad (sy := sy) (st := st) (rs := rs) (xs := xs) (by rw [a1]; simp))
    have A1 := Lib.hid a1
    clear a1
    go_wp2_with (go_at_call 196; refine (l03Is_is A1.out _ _ _ _ (hx.below y1) (by omega)).mono ?_; rintro e w' ⟨rfl, rfl⟩)
    have d1 := conf_set c1 (.int .i64 0) (.slice none 0 0) (.slice none 0 0)
    exact bodyPost_ret (v := .tuple #[.agg #[.int .i64 0, .slice none 0 0, .slice none 0 0], .int .i64 1]) (by simp [results, Try.results160, go_sem, d1.cell 0, d1.cell 1, d1.cell 2]) rfl (newConf2_zero HF.out (conf_below y1 (by omega) _ _ _))
  have A1 := Lib.hid a1
  have HOV := Lib.hid (over_word (L := sy) a1)
  clear a1
  cases a2 : allIn xs 0 (sy - 1)
  · have HF := Lib.hid (startF_out A0.out A1.out a2)
    have A2 : Hid (overB xs sy = false) := Lib.hid (by rw [HOV.out]; exact a2)
    clear a2
    go_wp2_with (first
      | (go_at_call 196; refine (l03Is_is A1.out _ _ _ _ (hx.below y1) (by omega)).mono ?_; rintro e w' ⟨rfl, rfl⟩)
      | (go_at_call 197; refine (l03Over_is A2.out _ _ _ _ (hx.below y1) (by omega)).mono ?_; rintro e w' ⟨rfl, rfl⟩))
    have d1 := conf_set c1 (.int .i64 0) (.slice none 0 0) (.slice none 0 0)
    exact bodyPost_ret (v := .tuple #[.agg #[.int .i64 0, .slice none 0 0, .slice none 0 0], .int .i64 2]) (by simp [results, Try.results160, go_sem, d1.cell 0, d1.cell 1, d1.cell 2]) rfl (newConf2_zero HF.out (conf_below y1 (by omega) _ _ _))
  have A2 := Lib.hid a2
  have A3 : Hid (overB xs sy = true) := Lib.hid (by rw [HOV.out]; exact a2)
  clear a2
  go_wp2_with (first
    | (go_at_call 196; refine (l03Is_is A1.out _ _ _ _ (hx.below y1) (by omega)).mono ?_; rintro e w' ⟨rfl, rfl⟩)
    | (go_at_call 197; refine (l03Over_is A3.out _ _ _ _ (hx.below y1) (by omega)).mono ?_; rintro e w' ⟨rfl, rfl⟩))
  refine (l05Start_any _ _ _ xs _ (hx.below y1) hm hcap).mono ?_
  rintro e W2 ⟨L2, a2, B2, c2, rfl, oL2, o3, hap2, z2⟩
  have HAP2 := Lib.hid hap2
  have y2 := y1.trans (z2.mono y1.size)
  have hlt : w.heap.size + 1 < W1.heap.size := c1.lt
  have HF1 := Lib.hid (startF_full (sy := sy) (st := st) (rs := rs) A0.out A1.out A2.out)
  have HF2 := Lib.hid (startF_ok (sy := sy) (st := st) (rs := rs) A0.out A1.out A2.out)
  have htl : (trimI xs).length ≤ 1048576 := by
    obtain ⟨j, hj, e⟩ := trim_take xs
    have := hx.len
    rw [e, List.length_take]; omega
  clear q0 q1 q2 u0 u1 u2 f0 f1 f2 hap2
  generalize trimI xs = t at *
  obtain ⟨W3, hW_⟩ : ∃ W_, W_ = W2.alloc (.cells #[.int .i64 0, .slice L2 0 a2, .slice B2 t.length c2] 172) := ⟨_, rfl⟩
  have b3 : Blk W3 W2.heap.size 172 #[.int .i64 0, .slice L2 0 a2, .slice B2 t.length c2] := by rw [hW_]; exact Blk.new W2 _ _
  have z3 : Below W2.heap.size W2 W3 := by rw [hW_]; exact (Below.refl _ _).alloc (Nat.le_refl _) _
  have HW3 := Lib.hid hW_
  clear hW_
  have y3 := y2.trans (z3.mono y2.size)
  have c3 := (c1.below' z2).below' z3
  have hz2 : W1.heap.size ≤ W2.heap.size := z2.size
  have q0 : W3.cell? ⟨W2.heap.size, 0, none⟩ = some (.int .i64 0) := b3.cell 0
  have q1 : W3.cell? ⟨W2.heap.size, 1, none⟩ = some (.slice L2 0 a2) := b3.cell 1
  have q2 : W3.cell? ⟨W2.heap.size, 2, none⟩ = some (.slice B2 t.length c2) := b3.cell 2
  have u0 : W3.cell? ⟨(w.heap.size + 1), 0, none⟩ = some (.int .i64 0) := c3.cell 0
  have u1 : W3.cell? ⟨(w.heap.size + 1), 1, none⟩ = some (.slice none 0 0) := c3.cell 1
  have u2 : W3.cell? ⟨(w.heap.size + 1), 2, none⟩ = some (.slice none 0 0) := c3.cell 2
  have f0 := c3.frozen 0
  have f1 := c3.frozen 1
  have f2 := c3.frozen 2
  go_upto_region 6 with fail
  rw [← HW3.out]
  by_cases h3 : t.length ≤ 200
  · have HF := Lib.hid (HF2.out h3)
    have i1 : decide ((200 : Int) < (t.length : Int)) = false := by simp; omega
    clear HF1 HF2
    go_wp2_with fail
    have d1 := conf_set c3 (.int .i64 0) (.slice L2 0 a2) (.slice B2 t.length c2)
    refine bodyPost_ret (v := .tuple #[.agg #[.int .i64 0, .slice L2 0 a2, .slice B2 t.length c2], .int .i64 0]) (by simp [results, Try.results160, go_sem, d1.cell 0, d1.cell 1, d1.cell 2]) rfl ?_
    rw [HF.out]
    exact ⟨L2, a2, B2, c2, rfl, (conf_far (oL2.below z3) (by omega) _ _ _).mono (by omega), (conf_far (o3.below z3) (by omega) _ _ _).mono (by omega), HAP2.out, conf_below y3 (by omega) _ _ _⟩
  · have HF := Lib.hid (HF1.out h3)
    have i1 : decide ((200 : Int) < (t.length : Int)) = true := by simp; omega
    clear HF1 HF2
    go_wp2_with fail
    have d1 := conf_set c3 (.int .i64 0) (.slice none 0 0) (.slice none 0 0)
    exact bodyPost_ret (v := .tuple #[.agg #[.int .i64 0, .slice none 0 0, .slice none 0 0], .int .i64 5]) (by simp [results, Try.results160, go_sem, d1.cell 0, d1.cell 1, d1.cell 2]) rfl (newConf2_zero HF.out (conf_below y3 (by omega) _ _ _))
end Go.Proofs.Ythipbeggaeogcaa
