/-
  Contracts of impl's budgetOk, runCode, budgeted, blankRun, freeRules.
-/
import Derived.Test.YthipbeggaeogcaaMachZ
namespace Go.Proofs.Ythipbeggaeogcaa
open Go.RowKit

theorem budgetOk_any (b : Int) (w : World) : Calls Try.prog 77 #[.int .i64 b] w fun e w' => e = .returned (.bool (inB b 1 20000)) ∧ w = w' := by
  go_enter Try.func77, Try.ntmps77
  go_wp2_with (go_at_call 85; refine (within_any _ _ _ _).mono ?_; rintro e w' ⟨rfl, rfl⟩)
  go_ret
  exact ⟨rfl, rfl⟩
theorem budgetOk_is {b : Int} {v : Bool} (h : inB b 1 20000 = v) (w : World) : Calls Try.prog 77 #[.int .i64 b] w fun e w' => e = .returned (.bool v) ∧ w = w' := h ▸ budgetOk_any b w

/-- The code for a machine, a configuration and a budget. -/
def codeF (sy st : Int) (rs : List R3) (c : Conf) (b : Int) : Int := if validConfB sy st rs c.q c.xs c.ys then (if inB b 1 20000 then 0 else 2) else 1

set_option maxHeartbeats 1000000 in
theorem runCode_any (sy st : Int) (A : Option Addr) (n k : Nat) (rs : List R3) (c : Conf) (B : Option Addr) (m c' : Nat) (C : Option Addr) (l d : Nat) (b : Int) (w : World) (hr : S3 w A n rs) (hx : SI w B m c.xs) (hy : SI w C l c.ys) (hn : n ≤ 1048576) (hm : m ≤ 1048576) (hl : l ≤ 1048576) :
    Calls Try.prog 178 #[.agg #[.int .i64 sy, .int .i64 st, .slice A n k], .agg #[.int .i64 c.q, .slice B m c', .slice C l d], .int .i64 b] w fun e w' => e = .returned (.int .i64 (codeF sy st rs c b)) ∧ Below w.heap.size w w' := by
  obtain ⟨W, hW⟩ : ∃ W, W = (w.alloc (.cells #[.int .i64 sy, .int .i64 st, .slice A n k] 82)).alloc (.cells #[.int .i64 c.q, .slice B m c', .slice C l d] 172) := ⟨_, rfl⟩
  have y0 : Below w.heap.size w W := by rw [hW]; exact ((Below.refl _ _).alloc (Nat.le_refl _) _).alloc (by simp) _
  have HW := Lib.hid hW
  clear hW
  go_enter Try.func178, Try.ntmps178
  go_wp2_with fail
  rw [← HW.out]
  refine (validConfig_any _ _ _ _ _ rs _ _ _ _ c.xs _ _ _ c.ys _ (hr.below y0) (hx.below y0) (hy.below y0) hn hm hl).mono ?_
  rintro e w2 ⟨rfl, z2⟩
  have y2 : Below w.heap.size w w2 := y0.trans (z2.mono y0.size)
  cases hv : validConfB sy st rs c.q c.xs c.ys with
  | false =>
    have HV := Lib.hid hv
    clear hv
    go_wp2_with fail
    go_ret
    exact ⟨ret_int (by unfold codeF; rw [HV.out]; rfl), y2⟩
  | true =>
    have HV := Lib.hid hv
    clear hv
    cases hb : inB b 1 20000 with
    | false =>
      have HB := Lib.hid hb
      clear hb
      go_wp2_with (go_at_call 77; refine (budgetOk_is HB.out _).mono ?_; rintro e w' ⟨rfl, rfl⟩)
      go_ret
      exact ⟨ret_int (by unfold codeF; rw [HV.out, HB.out]; rfl), y2⟩
    | true =>
      have HB := Lib.hid hb
      clear hb
      go_wp2_with (go_at_call 77; refine (budgetOk_is HB.out _).mono ?_; rintro e w' ⟨rfl, rfl⟩)
      go_ret
      exact ⟨ret_int (by unfold codeF; rw [HV.out, HB.out]; rfl), y2⟩

/-- The blank configuration. -/
def blankC : Conf := ⟨0, [], []⟩

set_option maxHeartbeats 1000000 in
theorem budgeted_any (sy st : Int) (A : Option Addr) (n k : Nat) (rs : List R3) (b : Int) (w : World) (hr : S3 w A n rs) (hn : n ≤ 1048576) :
    Calls Try.prog 132 #[.agg #[.int .i64 sy, .int .i64 st, .slice A n k], .int .i64 b] w fun e w' => e = .returned (.int .i64 (codeF sy st rs blankC b)) ∧ Below w.heap.size w w' := by
  obtain ⟨W, hW⟩ : ∃ W, W = w.alloc (.cells #[.int .i64 sy, .int .i64 st, .slice A n k] 82) := ⟨_, rfl⟩
  have y0 : Below w.heap.size w W := by rw [hW]; exact (Below.refl _ _).alloc (Nat.le_refl _) _
  have HW := Lib.hid hW
  clear hW
  go_enter Try.func132, Try.ntmps132
  go_wp2_with fail
  rw [← HW.out]
  refine (runCode_any _ _ _ _ _ rs blankC _ _ _ _ _ _ _ _ (hr.below y0) SI.nil SI.nil hn (by omega) (by omega)).mono ?_
  rintro e w2 ⟨rfl, z2⟩
  go_wp2_with fail
  go_ret
  exact ⟨rfl, y0.trans (z2.mono y0.size)⟩

set_option maxHeartbeats 1000000 in
theorem blankRun_any (sy st : Int) (A : Option Addr) (n k : Nat) (w : World) :
    Calls Try.prog 179 #[.agg #[.int .i64 sy, .int .i64 st, .slice A n k]] w (NewRunner w sy st A n k 0 [] []) := by
  obtain ⟨W, hW⟩ : ∃ W, W = w.alloc (.cells #[.int .i64 sy, .int .i64 st, .slice A n k] 82) := ⟨_, rfl⟩
  have y0 : Below w.heap.size w W := by rw [hW]; exact (Below.refl _ _).alloc (Nat.le_refl _) _
  have HW := Lib.hid hW
  clear hW
  go_enter Try.func179, Try.ntmps179
  go_wp2_with fail
  rw [← HW.out]
  refine (runnerOf_any _ _ _ _ _ _ _ _ _ [] _ _ _ [] _ SI.nil SI.nil (by omega) (by omega)).mono ?_
  rintro e w2 ⟨g, L, c, R, d, rfl, hg, hrun, ol, or_, hap, z⟩
  have HAP := Lib.hid hap
  clear hap
  go_wp2_with fail
  go_ret
  exact ⟨g, L, c, R, d, rfl, by have := y0.size; omega, hrun, ol.mono y0.size, or_.mono y0.size, HAP.out, y0.trans (z.mono y0.size)⟩
theorem NewRunner.runC {w w' : World} {sy st : Int} {A : Option Addr} {n k : Nat} {q : Int} {xs ys : List Int} {g c d : Nat} {L R : Option Addr} (hrun : RunAt w' g sy st A n k q L xs.length c R ys.length d) (ol : Own w' w.heap.size 2 1 L xs.length c (ints xs.reverse)) (or_ : Own w' w.heap.size 2 1 R ys.length d (ints ys.reverse)) (hap : ∀ b, blk L = some b → blk R ≠ some b) : RunC (fun _ => False) w' w.heap.size g sy st A n k ⟨q, xs, ys⟩ :=
  ⟨L, c, R, d, by simpa using hrun, by simpa using ol, by simpa using or_, hap, fun _ _ h => h, fun _ _ h => h⟩

/-- The indices at which there is no rule, below k. -/
def freeTo (rs : List R3) (k : Nat) : List Int := ((List.range k).filter (fun i => !isRuleB (rs.getD i ⟨0, 0, -1⟩))).map (fun i : Nat => (i : Int))
def freeF (rs : List R3) : List Int := freeTo rs rs.length
theorem freeTo_len (rs : List R3) (k : Nat) : (freeTo rs k).length ≤ k := by
  unfold freeTo
  rw [List.length_map]
  have := List.length_filter_le (fun i => !isRuleB (rs.getD i ⟨0, 0, -1⟩)) (List.range k)
  simpa using this
theorem freeTo_yes {rs : List R3} {k : Nat} {r : R3} (h : rs[k]? = some r) (hr : isRuleB r = false) : freeTo rs (k + 1) = freeTo rs k ++ [(k : Int)] := by
  unfold freeTo
  rw [List.range_succ, List.filter_append, List.map_append]
  congr 1
  simp [h, hr]
theorem freeTo_no {rs : List R3} {k : Nat} {r : R3} (h : rs[k]? = some r) (hr : isRuleB r = true) : freeTo rs (k + 1) = freeTo rs k := by
  unfold freeTo
  rw [List.range_succ, List.filter_append, List.map_append]
  simp [h, hr]

set_option maxHeartbeats 2000000 in
theorem freeRules_any (sy st : Int) (A : Option Addr) (n k : Nat) (rs : List R3) (w : World) (hr : S3 w A n rs) (hn : n ≤ 1048576) :
    Calls Try.prog 180 #[.agg #[.int .i64 sy, .int .i64 st, .slice A n k]] w (NewI w (freeF rs)) := by
  have hrl : rs.length = n := hr.len
  have HRL := Lib.hid hrl
  clear hrl
  obtain ⟨W, hW⟩ : ∃ W, W = (w.alloc (.cells #[.int .i64 sy, .int .i64 st, .slice A n k] 82)).alloc (.cells #[] 2) := ⟨_, rfl⟩
  have s1 : (w.alloc (.cells #[.int .i64 sy, .int .i64 st, .slice A n k] 82)).heap.size = w.heap.size + 1 := by simp
  have y0 : Below w.heap.size w W := by rw [hW]; exact ((Below.refl _ _).alloc (Nat.le_refl _) _).alloc (by simp) _
  have b0 : Blk W w.heap.size 82 #[.int .i64 sy, .int .i64 st, .slice A n k] := by rw [hW]; exact (Blk.new w _ _).alloc _
  have o0 : Own W w.heap.size 2 1 (some ⟨w.heap.size + 1, 0, none⟩) 0 0 (ints (freeTo rs 0)) := by rw [hW, ← s1]; exact (Own.lit0 _ _ 1).mono (by simp)
  have HW := Lib.hid hW
  clear hW s1
  have c2 : W.cell? ⟨w.heap.size, 2, none⟩ = some (.slice A n k) := b0.cell 2
  go_enter Try.func180, Try.ntmps180
  go_wp2_with fail
  rw [← HW.out]
  clear HW c2
  go_loopw [3, 10] (fun v i wr => ∃ (j : Nat) (B : Option Addr) (c : Nat), j ≤ n ∧ i = .int .i64 (j : Int) ∧ v = .slice B (freeTo rs j).length c ∧ Own wr w.heap.size 2 1 B (freeTo rs j).length c (ints (freeTo rs j)) ∧ Below w.heap.size w wr) (fun _ i _ => n - (intOf i).toNat)
  case atStart => exact ⟨0, _, 0, Nat.zero_le _, rfl, rfl, o0, y0⟩
  case round =>
    obtain ⟨j, B, c, hj, rfl, rfl, ho, hy⟩ := hrel
    clear b0 o0 y0
    have hfl := freeTo_len rs j
    by_cases hlt : j < n
    · obtain ⟨r, b, off, HT, hrm, rfl, hb, e0, e1, e2⟩ := (hr.below hy).pick hlt
      have HR := Lib.hid hr
      clear hr hrm
      go_wp2_with fail
      refine (isRule_any _ _ _ _).mono ?_
      rintro e W2 ⟨rfl, z2⟩
      have z2' : Below wr.heap.size wr W2 := below_box z2
      have hy2 : Below w.heap.size w W2 := hy.trans (z2'.mono hy.size)
      have ho2 := ho.below z2'
      have hw2 : w.heap.size ≤ W2.heap.size := hy2.size
      clear e0 e1 e2
      cases hru : isRuleB ⟨r.a, r.b, r.c⟩ with
      | true =>
        have HF := Lib.hid (freeTo_no HT.out (by exact hru))
        clear hru
        go_wp2_with fail
        go_roundw
        case rel => exact ⟨j + 1, B, c, by omega, by go_num, by rw [HF.out], by rw [HF.out]; exact ho2, hy2⟩
        case measure => simp [intOf]; omega
      | false =>
        have HF := Lib.hid (freeTo_yes HT.out (by exact hru))
        clear hru
        go_wp2_with (at_builtin; refine wpList_append_Own rfl (.tmp 18) (.tmp 20) rfl elI (lo := w.heap.size) rfl (ho2.alloc _) rfl (Rd.new1 W2 (.int .i64 (j : Int)) _) (by simp [Value.oneCell']) (by omega) (by simp only [maxLen]; omega) (by simp; omega) ?_; intro A2 c2 w2 ho3 hg3 hw3)
        have hy3 : Below w.heap.size w w2 := (ho2.alloc _).below_of (hy2.alloc hw2 _) hg3 (by simp; omega)
        rw [ints_snoc, ← HF.out] at ho3
        have hlen : (freeTo rs j).length + 1 = (freeTo rs (j + 1)).length := by rw [HF.out]; simp
        have HLEN := Lib.hid hlen
        clear hlen
        go_wp2_with fail
        go_roundw
        case rel => exact ⟨j + 1, A2, c2, by omega, by go_num, by rw [← HLEN.out], by rw [← HLEN.out]; exact ho3, hy3⟩
        case measure => simp [intOf]; omega
    · go_wp2_with fail
      go_ret
      have hjn : j = rs.length := by rw [HRL.out]; omega
      rw [hjn] at ho ⊢
      exact ⟨B, c, rfl, ho, hy⟩
end Go.Proofs.Ythipbeggaeogcaa
