/-
  Contracts of impl's budgetOk, runCode, budgeted, blankRun, freeRules.
-/
import Derived.Test.YtokglpdlhacnaaaDoorPbBackAll1
import Derived.Test.YtokglpdlhacnaaaDoorPbBackAll3
import Derived.Lib.AppendZeros
import Derived.Lib.MinMax
namespace Go.Proofs.YtokglpdlhacnaaaDoor
open Go.RowKit

theorem budgetOk_any (b : Int) (w : World) : Calls Tryd.prog 49 #[.int .i64 b] w fun e w' => e = .returned (.bool (inB b 1 20000)) ∧ w = w' := by
  go_enter Tryd.func49, Tryd.ntmps49
  go_wp2_with (go_at_call 59; refine (within_any _ _ _ _).mono ?_; rintro e w' ⟨rfl, rfl⟩)
  go_ret
  exact ⟨rfl, rfl⟩
theorem budgetOk_is {b : Int} {v : Bool} (h : inB b 1 20000 = v) (w : World) : Calls Tryd.prog 49 #[.int .i64 b] w fun e w' => e = .returned (.bool v) ∧ w = w' := h ▸ budgetOk_any b w

/-- The code for a machine, a configuration and a budget. -/
def codeF (sy st : Int) (rs : List R3) (c : Conf) (b : Int) : Int := if validConfB sy st rs c.q c.xs c.ys then (if inB b 1 20000 then 0 else 2) else 1

set_option maxHeartbeats 1000000 in
theorem runCode_any (sy st : Int) (A : Option Addr) (n k : Nat) (rs : List R3) (c : Conf) (B : Option Addr) (m c' : Nat) (C : Option Addr) (l d : Nat) (b : Int) (w : World) (hr : S3 w A n rs) (hx : SI w B m c.xs) (hy : SI w C l c.ys) (hn : n ≤ 1048576) (hm : m ≤ 1048576) (hl : l ≤ 1048576) :
    Calls Tryd.prog 91 #[.agg #[.int .i64 sy, .int .i64 st, .slice A n k], .agg #[.int .i64 c.q, .slice B m c', .slice C l d], .int .i64 b] w fun e w' => e = .returned (.int .i64 (codeF sy st rs c b)) ∧ Below w.heap.size w w' := by
  obtain ⟨W, hW⟩ : ∃ W, W = (w.alloc (.cells #[.int .i64 sy, .int .i64 st, .slice A n k] 43)).alloc (.cells #[.int .i64 c.q, .slice B m c', .slice C l d] 68) := ⟨_, rfl⟩
  have y0 : Below w.heap.size w W := by rw [hW]; exact ((Below.refl _ _).alloc (Nat.le_refl _) _).alloc (by simp) _
  have HW := Lib.hid hW
  clear hW
  go_enter Tryd.func91, Tryd.ntmps91
  go_wp2_with fail
  rw [← HW.out]
  refine (validConfig_any _ _ _ _ _ rs _ _ _ _ c.xs _ _ _ c.ys _ (hr.below y0) (hx.below y0) (hy.below y0) hn hm hl).mono ?_
  rintro e w2 ⟨rfl, z2⟩
  have y2 : Below w.heap.size w w2 := y0.trans (z2.mono y0.size)
  cases hv : validConfB sy st rs c.q c.xs c.ys with
  | false =>
    have HV := Lib.hid hv
    clear hv
    go_wp2_with fail
    go_ret
    exact ⟨ret_int (by unfold codeF; rw [HV.out]; rfl), y2⟩
  | true =>
    have HV := Lib.hid hv
    clear hv
    cases hb : inB b 1 20000 with
    | false =>
      have HB := Lib.hid hb
      clear hb
      go_wp2_with (go_at_call 49; refine (budgetOk_is HB.out _).mono ?_; rintro e w' ⟨rfl, rfl⟩)
      go_ret
      exact ⟨ret_int (by unfold codeF; rw [HV.out, HB.out]; rfl), y2⟩
    | true =>
      have HB := Lib.hid hb
      clear hb
      go_wp2_with (go_at_call 49; refine (budgetOk_is HB.out _).mono ?_; rintro e w' ⟨rfl, rfl⟩)
      go_ret
      exact ⟨ret_int (by unfold codeF; rw [HV.out, HB.out]; rfl), y2⟩

/-- The blank configuration. -/
def blankC : Conf := ⟨0, [], []⟩

set_option maxHeartbeats 1000000 in
theorem budgeted_any (sy st : Int) (A : Option Addr) (n k : Nat) (rs : List R3) (b : Int) (w : World) (hr : S3 w A n rs) (hn : n ≤ 1048576) :
    Calls Tryd.prog 58 #[.agg #[.int .i64 sy, .int .i64 st, .slice A n k], .int .i64 b] w fun e w' => e = .returned (.int .i64 (codeF sy st rs blankC b)) ∧ Below w.heap.size w w' := by
  obtain ⟨W, hW⟩ : ∃ W, W = w.alloc (.cells #[.int .i64 sy, .int .i64 st, .slice A n k] 43) := ⟨_, rfl⟩
  have y0 : Below w.heap.size w W := by rw [hW]; exact (Below.refl _ _).alloc (Nat.le_refl _) _
  have HW := Lib.hid hW
  clear hW
  go_enter Tryd.func58, Tryd.ntmps58
  go_wp2_with fail
  rw [← HW.out]
  refine (runCode_any _ _ _ _ _ rs blankC _ _ _ _ _ _ _ _ (hr.below y0) SI.nil SI.nil hn (by omega) (by omega)).mono ?_
  rintro e w2 ⟨rfl, z2⟩
  go_wp2_with fail
  go_ret
  exact ⟨rfl, y0.trans (z2.mono y0.size)⟩

/-- The indices at which there is no rule, below k. -/
def freeTo (rs : List R3) (k : Nat) : List Int := ((List.range k).filter (fun i => !isRuleB (rs.getD i ⟨0, 0, -1⟩))).map (fun i : Nat => (i : Int))
def freeF (rs : List R3) : List Int := freeTo rs rs.length
theorem freeTo_len (rs : List R3) (k : Nat) : (freeTo rs k).length ≤ k := by
  unfold freeTo
  rw [List.length_map]
  have := List.length_filter_le (fun i => !isRuleB (rs.getD i ⟨0, 0, -1⟩)) (List.range k)
  simpa using this
theorem freeTo_yes {rs : List R3} {k : Nat} {r : R3} (h : rs[k]? = some r) (hr : isRuleB r = false) : freeTo rs (k + 1) = freeTo rs k ++ [(k : Int)] := by
  unfold freeTo
  rw [List.range_succ, List.filter_append, List.map_append]
  congr 1
  simp [h, hr]
theorem freeTo_no {rs : List R3} {k : Nat} {r : R3} (h : rs[k]? = some r) (hr : isRuleB r = true) : freeTo rs (k + 1) = freeTo rs k := by
  unfold freeTo
  rw [List.range_succ, List.filter_append, List.map_append]
  simp [h, hr]

set_option maxHeartbeats 2000000 in
theorem freeRules_any (sy st : Int) (A : Option Addr) (n k : Nat) (rs : List R3) (w : World) (hr : S3 w A n rs) (hn : n ≤ 1048576) :
    Calls Tryd.prog 110 #[.agg #[.int .i64 sy, .int .i64 st, .slice A n k]] w (NewI w (freeF rs)) := by
  have hrl : rs.length = n := hr.len
  have HRL := Lib.hid hrl
  clear hrl
  obtain ⟨W, hW⟩ : ∃ W, W = (w.alloc (.cells #[.int .i64 sy, .int .i64 st, .slice A n k] 43)).alloc (.cells #[] 2) := ⟨_, rfl⟩
  have s1 : (w.alloc (.cells #[.int .i64 sy, .int .i64 st, .slice A n k] 43)).heap.size = w.heap.size + 1 := by simp
  have y0 : Below w.heap.size w W := by rw [hW]; exact ((Below.refl _ _).alloc (Nat.le_refl _) _).alloc (by simp) _
  have b0 : Blk W w.heap.size 43 #[.int .i64 sy, .int .i64 st, .slice A n k] := by rw [hW]; exact (Blk.new w _ _).alloc _
  have o0 : Own W w.heap.size 2 1 (some ⟨w.heap.size + 1, 0, none⟩) 0 0 (ints (freeTo rs 0)) := by rw [hW, ← s1]; exact (Own.lit0 _ _ 1).mono (by simp)
  have HW := Lib.hid hW
  clear hW s1
  have c2 : W.cell? ⟨w.heap.size, 2, none⟩ = some (.slice A n k) := b0.cell 2
  go_enter Tryd.func110, Tryd.ntmps110
  go_wp2_with fail
  rw [← HW.out]
  clear HW c2
  go_loopw [3, 10] (fun v i wr => ∃ (j : Nat) (B : Option Addr) (c : Nat), j ≤ n ∧ i = .int .i64 (j : Int) ∧ v = .slice B (freeTo rs j).length c ∧ Own wr w.heap.size 2 1 B (freeTo rs j).length c (ints (freeTo rs j)) ∧ Below w.heap.size w wr) (fun _ i _ => n - (intOf i).toNat)
  case atStart => exact ⟨0, _, 0, Nat.zero_le _, rfl, rfl, o0, y0⟩
  case round =>
    obtain ⟨j, B, c, hj, rfl, rfl, ho, hy⟩ := hrel
    clear b0 o0 y0
    have hfl := freeTo_len rs j
    by_cases hlt : j < n
    · obtain ⟨r, b, off, HT, hrm, rfl, hb, e0, e1, e2⟩ := (hr.below hy).pick hlt
      have HR := Lib.hid hr
      clear hr hrm
      go_wp2_with fail
      refine (isRule_any _ _ _ _).mono ?_
      rintro e W2 ⟨rfl, z2⟩
      have z2' : Below wr.heap.size wr W2 := below_box z2
      have hy2 : Below w.heap.size w W2 := hy.trans (z2'.mono hy.size)
      have ho2 := ho.below z2'
      have hw2 : w.heap.size ≤ W2.heap.size := hy2.size
      clear e0 e1 e2
      cases hru : isRuleB ⟨r.a, r.b, r.c⟩ with
      | true =>
        have HF := Lib.hid (freeTo_no HT.out (by exact hru))
        clear hru
        go_wp2_with fail
        go_roundw
        case rel => exact ⟨j + 1, B, c, by omega, by go_num, by rw [HF.out], by rw [HF.out]; exact ho2, hy2⟩
        case measure => simp [intOf]; omega
      | false =>
        have HF := Lib.hid (freeTo_yes HT.out (by exact hru))
        clear hru
        go_wp2_with (at_builtin; refine wpList_append_Own rfl (.tmp 18) (.tmp 20) rfl elI (lo := w.heap.size) rfl (ho2.alloc _) rfl (Rd.new1 W2 (.int .i64 (j : Int)) _) (by simp [Value.oneCell']) (by omega) (by simp only [maxLen]; omega) (by simp; omega) ?_; intro A2 c2 w2 ho3 hg3 hw3)
        have hy3 : Below w.heap.size w w2 := (ho2.alloc _).below_of (hy2.alloc hw2 _) hg3 (by simp; omega)
        rw [ints_snoc, ← HF.out] at ho3
        have hlen : (freeTo rs j).length + 1 = (freeTo rs (j + 1)).length := by rw [HF.out]; simp
        have HLEN := Lib.hid hlen
        clear hlen
        go_wp2_with fail
        go_roundw
        case rel => exact ⟨j + 1, A2, c2, by omega, by go_num, by rw [← HLEN.out], by rw [← HLEN.out]; exact ho3, hy3⟩
        case measure => simp [intOf]; omega
    · go_wp2_with fail
      go_ret
      have hjn : j = rs.length := by rw [HRL.out]; omega
      rw [hjn] at ho ⊢
      exact ⟨B, c, rfl, ho, hy⟩
end Go.Proofs.YtokglpdlhacnaaaDoor

/-
  Partial configurations and their levels, as lists. No program is in sight.
-/
namespace Go.Proofs.YtokglpdlhacnaaaDoor
open Go.RowKit

/-- A state with a segment of the tape. -/
structure Pa where
  q : Int
  at_ : Int
  cs : List Int
  deriving DecidableEq
def paB (sy st : Int) (x : Pa) : Bool := inB x.q 0 (st - 1) && inB (x.cs.length : Int) 1 60 && inB x.at_ 0 ((x.cs.length : Int) - 1) && allIn x.cs 0 (sy - 1)
/-- Valid but for the length. -/
structure PaOk (sy st : Int) (x : Pa) : Prop where
  q0 : 0 ≤ x.q
  q1 : x.q < st
  a0 : 0 ≤ x.at_
  a1 : x.at_ < (x.cs.length : Int)
  cs : ∀ y ∈ x.cs, 0 ≤ y ∧ y < sy
theorem PaOk.len {sy st : Int} {x : Pa} (h : PaOk sy st x) : 1 ≤ x.cs.length := by have := h.a0; have := h.a1; omega
/-- The predecessor by the rule r at state p and symbol a. -/
def predF (x : Pa) (p a : Int) (r : R3) : Option Pa :=
  if r.c ≠ x.q then none
  else if x.at_ - r.b < 0 then some ⟨p, 0, a :: x.cs⟩
  else if x.at_ - r.b = (x.cs.length : Int) then some ⟨p, x.at_ - r.b, x.cs ++ [a]⟩
  else if x.cs.getD (x.at_ - r.b).toNat 0 ≠ r.a then none
  else some ⟨p, x.at_ - r.b, x.cs.set (x.at_ - r.b).toNat a⟩
/-- What the rule with number k gives. -/
def predK (sy : Int) (rs : List R3) (x : Pa) (k : Nat) : Option Pa :=
  if isRuleB (rs.getD k ⟨0, 0, -1⟩) then predF x ((k : Int) / sy) ((k : Int) % sy) (rs.getD k ⟨0, 0, -1⟩) else none
/-- The predecessors by the first rules, and none if one is too long. -/
def predsTo (sy : Int) (rs : List R3) (x : Pa) : Nat → Option (List Pa)
  | 0 => some []
  | k + 1 => (predsTo sy rs x k).bind fun l => match predK sy rs x k with
    | none => some l
    | some y => if 60 < y.cs.length then none else some (l ++ [y])
def predsF (sy : Int) (rs : List R3) (x : Pa) : Option (List Pa) := predsTo sy rs x rs.length
def addNew (l : List Pa) (y : Pa) : List Pa := if y ∈ l then l else l ++ [y]
/-- The next level, from the first elements. -/
def nextTo (sy : Int) (rs : List R3) (lv : List Pa) : Nat → Option (List Pa)
  | 0 => some []
  | k + 1 => (nextTo sy rs lv k).bind fun out => (predsF sy rs (lv.getD k ⟨0, 0, []⟩)).bind fun l => if 300 < (l.foldl addNew out).length then none else some (l.foldl addNew out)
def nextF (sy : Int) (rs : List R3) (lv : List Pa) : Option (List Pa) := nextTo sy rs lv lv.length
section
variable {sy st : Int} {rs : List R3}
theorem predsTo_none {x : Pa} {k : Nat} (h : predsTo sy rs x k = none) : ∀ n, k ≤ n → predsTo sy rs x n = none := by
  intro n hn
  induction n with
  | zero => obtain rfl : k = 0 := by omega
            exact h
  | succ n ih =>
    rcases Nat.lt_or_ge n k with h1 | h1
    · obtain rfl : k = n + 1 := by omega
      exact h
    · simp [predsTo, ih h1]
theorem nextTo_none {lv : List Pa} {k : Nat} (h : nextTo sy rs lv k = none) : ∀ n, k ≤ n → nextTo sy rs lv n = none := by
  intro n hn
  induction n with
  | zero => obtain rfl : k = 0 := by omega
            exact h
  | succ n ih =>
    rcases Nat.lt_or_ge n k with h1 | h1
    · obtain rfl : k = n + 1 := by omega
      exact h
    · simp [nextTo, ih h1]
theorem predF_ok {x y : Pa} {p a : Int} {r : R3} (hx : PaOk sy st x) (hp : 0 ≤ p ∧ p < st) (ha : 0 ≤ a ∧ a < sy) (hb : r.b = -1 ∨ r.b = 1) (h : predF x p a r = some y) : PaOk sy st y := by
  have h0 := hx.a0
  have h1 := hx.a1
  unfold predF at h
  split at h
  · cases h
  split at h
  · cases h
    exact ⟨hp.1, hp.2, Int.le_refl 0, by simp <;> omega, fun y hy => (List.mem_cons.1 hy).elim (fun h => h ▸ ha) (hx.cs y)⟩
  rename_i h2
  split at h
  · rename_i h3
    cases h
    exact ⟨hp.1, hp.2, by simp <;> omega, by simp <;> omega, fun y hy => (List.mem_append.1 hy).elim (hx.cs y) (fun h => by rw [List.mem_singleton.1 h]; exact ha)⟩
  rename_i h3
  split at h
  · cases h
  · cases h
    exact ⟨hp.1, hp.2, by simp <;> omega, by simp <;> omega, fun y hy => (List.mem_or_eq_of_mem_set hy).elim (hx.cs y) (fun h => by rw [h]; exact ha)⟩
theorem predF_len {x y : Pa} {p a : Int} {r : R3} (h : predF x p a r = some y) : y.cs.length ≤ x.cs.length + 1 := by
  unfold predF at h
  split at h
  · cases h
  split at h
  · cases h; simp
  split at h
  · cases h; simp
  split at h
  · cases h
  · cases h; simp
theorem predsTo_ok {x : Pa} (hm : machB sy st rs = true) (hx : PaOk sy st x) : ∀ {k : Nat} {l : List Pa}, k ≤ rs.length → predsTo sy rs x k = some l → (∀ y ∈ l, PaOk sy st y ∧ y.cs.length ≤ 60) ∧ l.length ≤ k := by
  unfold machB at hm
  simp only [Bool.and_eq_true, decide_eq_true_eq, inB_iff, List.all_eq_true] at hm
  obtain ⟨⟨⟨h1, h2⟩, h3⟩, h4⟩ := hm
  intro k
  induction k with
  | zero => intro l _ h; cases h; simp
  | succ k ih =>
    intro l hk h
    simp only [predsTo, Option.bind_eq_some_iff] at h
    obtain ⟨l0, e0, h⟩ := h
    obtain ⟨i1, i2⟩ := ih (by omega) e0
    have hr : rs[k]? = some (rs.getD k ⟨0, 0, -1⟩) := by rw [List.getD_eq_getElem?_getD, List.getElem?_eq_getElem (by omega)]; rfl
    cases e : predK sy rs x k with
    | none => rw [e] at h; cases h; exact ⟨i1, by omega⟩
    | some y =>
      rw [e] at h
      dsimp only at h
      split at h
      · cases h
      · cases h
        refine ⟨fun z hz => ?_, by simp; omega⟩
        rcases List.mem_append.1 hz with hz | hz
        · exact i1 z hz
        · obtain rfl := List.mem_singleton.1 hz
          refine ⟨?_, by omega⟩
          unfold predK at e
          split at e
          · rename_i hR
            have h5 := h4 _ (List.mem_of_getElem? hr)
            unfold validRuleB at h5
            rw [hR] at h5
            simp only [Bool.not_true, Bool.false_or, Bool.and_eq_true, Bool.or_eq_true, beq_iff_eq, inB_iff] at h5
            have hsy : 0 < sy := by omega
            have hkl : (k : Int) < st * sy := by omega
            refine predF_ok hx ⟨Int.ediv_nonneg (by omega) (by omega), Int.ediv_lt_of_lt_mul hsy (by omega)⟩ ⟨Int.emod_nonneg _ (by omega), Int.emod_lt_of_pos _ hsy⟩ h5.1.2 e
          · cases e
theorem predsF_ok {x : Pa} {l : List Pa} (hm : machB sy st rs = true) (hx : PaOk sy st x) (h : predsF sy rs x = some l) : (∀ y ∈ l, PaOk sy st y ∧ y.cs.length ≤ 60) ∧ l.length ≤ rs.length := predsTo_ok hm hx (Nat.le_refl _) h
theorem addNew_mem {l : List Pa} {y z : Pa} (h : z ∈ addNew l y) : z ∈ l ∨ z = y := by
  unfold addNew at h
  split at h
  · exact .inl h
  · rcases List.mem_append.1 h with h | h
    · exact .inl h
    · exact .inr (List.mem_singleton.1 h)
theorem foldl_addNew_mem {z : Pa} : ∀ (l out : List Pa), z ∈ l.foldl addNew out → z ∈ out ∨ z ∈ l := by
  intro l
  induction l with
  | nil => intro out h; exact .inl h
  | cons y l ih =>
    intro out h
    rcases ih _ h with h | h
    · rcases addNew_mem h with h | h
      · exact .inl h
      · exact .inr (by simp [h])
    · exact .inr (List.mem_cons_of_mem _ h)
theorem addNew_len (l : List Pa) (y : Pa) : l.length ≤ (addNew l y).length ∧ (addNew l y).length ≤ l.length + 1 := by
  unfold addNew; split <;> simp
theorem foldl_addNew_len : ∀ (l out : List Pa), out.length ≤ (l.foldl addNew out).length ∧ (l.foldl addNew out).length ≤ out.length + l.length := by
  intro l
  induction l with
  | nil => intro out; simp
  | cons y l ih =>
    intro out
    have h1 := ih (addNew out y)
    have h2 := addNew_len out y
    simp only [List.foldl_cons, List.length_cons]
    omega
theorem nextTo_ok {lv : List Pa} (hm : machB sy st rs = true) (hl : ∀ x ∈ lv, PaOk sy st x ∧ x.cs.length ≤ 60) : ∀ {k : Nat} {l : List Pa}, k ≤ lv.length → nextTo sy rs lv k = some l → (∀ y ∈ l, PaOk sy st y ∧ y.cs.length ≤ 60) ∧ l.length ≤ 300 := by
  intro k
  induction k with
  | zero => intro l _ h; cases h; simp
  | succ k ih =>
    intro l hk h
    simp only [nextTo, Option.bind_eq_some_iff] at h
    obtain ⟨l0, e0, l1, e1, h⟩ := h
    obtain ⟨i1, i2⟩ := ih (by omega) e0
    split at h
    · cases h
    · cases h
      have hk2 : lv.getD k ⟨0, 0, []⟩ ∈ lv := by rw [List.getD_eq_getElem?_getD, List.getElem?_eq_getElem (by omega)]; exact List.getElem_mem _
      obtain ⟨j1, _⟩ := predsF_ok hm (hl _ hk2).1 e1
      refine ⟨fun z hz => ?_, by omega⟩
      rcases foldl_addNew_mem _ _ hz with hz | hz
      · exact i1 z hz
      · exact j1 z hz
theorem nextF_ok {lv l : List Pa} (hm : machB sy st rs = true) (hl : ∀ x ∈ lv, PaOk sy st x ∧ x.cs.length ≤ 60) (h : nextF sy rs lv = some l) : (∀ y ∈ l, PaOk sy st y ∧ y.cs.length ≤ 60) ∧ l.length ≤ 300 := nextTo_ok hm hl (Nat.le_refl _) h
/-- The level that comes after d levels. -/
def ancF (sy : Int) (rs : List R3) : Nat → List Pa → Option (List Pa)
  | 0, lv => some lv
  | d + 1, lv => (nextF sy rs lv).bind (ancF sy rs d)
/-- The sizes of the levels up to a depth or the first empty one. -/
def sizesF (sy : Int) (rs : List R3) : Nat → List Pa → List Int → Option (List Int)
  | 0, _, out => some out
  | d + 1, lv, out => if lv = [] then some out else (nextF sy rs lv).bind fun l => sizesF sy rs d l (out ++ [(l.length : Int)])
/-- The number of the first empty level (d: how many more may be looked at; n: the number of this one; b: how many steps are left). -/
def depthF (sy : Int) (rs : List R3) : Nat → Int → Int → List Pa → Option Int
  | 0, n, _, lv => if lv = [] then some n else none
  | d + 1, n, b, lv => if lv = [] then some n else if b < (lv.length : Int) then none else (nextF sy rs lv).bind fun l => depthF sy rs d (n + 1) (b - lv.length) l
end
end Go.Proofs.YtokglpdlhacnaaaDoor

/-
  Slices of records whose cells hold numbers and slices: a spine and its rows. No program is in sight.
-/
namespace Go.Proofs.YtokglpdlhacnaaaDoor
open Go.RowKit

/-! ### lists of cells, element by element -/
section
variable {α : Type} {f : α → List Value} {s : Nat}
theorem flat_len (hf : ∀ a, (f a).length = s) (ts : List α) : (ts.flatMap f).length = ts.length * s := by
  induction ts with
  | nil => simp
  | cons t r ih => rw [List.flatMap_cons, List.length_append, hf, ih, List.length_cons, Nat.succ_mul]; omega
theorem flat_get (hf : ∀ a, (f a).length = s) : ∀ {ts : List α} {k : Nat} {t : α} {j : Nat}, ts[k]? = some t → j < s → (ts.flatMap f)[k * s + j]? = (f t)[j]?
  | [], k, t, j, h, _ => by simp at h
  | u :: r, 0, t, j, h, hj => by
    simp at h; subst h
    rw [List.flatMap_cons, Nat.zero_mul, Nat.zero_add, List.getElem?_append_left (by rw [hf]; exact hj)]
  | u :: r, k + 1, t, j, h, hj => by
    have ih := flat_get hf (ts := r) (k := k) (t := t) (j := j) (by simpa using h) hj
    rw [List.flatMap_cons, List.getElem?_append_right (by rw [hf, Nat.succ_mul]; omega), hf, show (k + 1) * s + j - s = k * s + j from by rw [Nat.succ_mul]; omega]
    exact ih
theorem flat_snoc (ts : List α) (t : α) : (ts ++ [t]).flatMap f = ts.flatMap f ++ f t := by simp
theorem flat_set (hf : ∀ a, (f a).length = s) : ∀ {ts : List α} {k j : Nat} {t u : α} {v : Value}, ts[k]? = some t → j < s → (f t).set j v = f u → (ts.flatMap f).set (k * s + j) v = (ts.set k u).flatMap f
  | [], k, j, t, u, v, h, _, _ => by simp at h
  | x :: r, 0, j, t, u, v, h, hj, he => by
    simp at h; subst h
    rw [List.flatMap_cons, Nat.zero_mul, Nat.zero_add, List.set_append_left _ _ (by rw [hf]; exact hj), he]; rfl
  | x :: r, k + 1, j, t, u, v, h, hj, he => by
    have ih := flat_set hf (ts := r) (k := k) (j := j) (t := t) (u := u) (v := v) (by simpa using h) hj he
    rw [List.flatMap_cons, List.set_append_right _ _ (by rw [hf, Nat.succ_mul]; omega), hf, show (k + 1) * s + j - s = k * s + j from by rw [Nat.succ_mul]; omega, ih]
    rfl
end

/-! ### rows of any kind -/
structure Rw where
  A : Option Addr
  n : Nat
  c : Nat
  e : TypeId
  s : Nat
  cs : List Value
def Rw.val (r : Rw) : Value := .slice r.A r.n r.c
def Rw.own (r : Rw) (w : World) (lo : Nat) : Prop := Own w lo r.e r.s r.A r.n r.c r.cs
def AptR (t u : Rw) : Prop := ∀ b, blk t.A = some b → blk u.A ≠ some b
/-- A row of numbers. -/
def Rw.i (e : TypeId) (A : Option Addr) (c : Nat) (xs : List Int) : Rw := ⟨A, xs.length, c, e, 1, ints xs⟩

/-- An owned spine, cells of s to an element, and its rows, all apart. -/
structure Recs (w : World) (lo : Nat) (e : TypeId) (s : Nat) (A : Option Addr) (n c : Nat) (cs : List Value) (rows : List Rw) : Prop where
  spine : Own w lo e s A n c cs
  each : ∀ r ∈ rows, r.own w lo
  apt : rows.Pairwise AptR
  types : ∀ r ∈ rows, r.e ≠ e
section
variable {w w' w2 : World} {lo lo' n c s : Nat} {e : TypeId} {A : Option Addr} {cs : List Value} {rows : List Rw}
theorem Rw.own.below {r : Rw} (h : r.own w lo) (z : Below w.heap.size w w') : r.own w' lo := Own.below h z
theorem Rw.own.mono {r : Rw} (h : r.own w lo) (hl : lo' ≤ lo) : r.own w lo' := Own.mono h hl
theorem Recs.nil (h : Own w lo e s A 0 c []) : Recs w lo e s A 0 c [] [] := ⟨h, by simp, List.Pairwise.nil, by simp⟩
theorem Recs.below (h : Recs w lo e s A n c cs rows) (z : Below w.heap.size w w') : Recs w' lo e s A n c cs rows := ⟨h.spine.below z, fun r hr => (h.each r hr).below z, h.apt, h.types⟩
theorem Recs.mono (h : Recs w lo e s A n c cs rows) (hl : lo' ≤ lo) : Recs w lo' e s A n c cs rows := ⟨h.spine.mono hl, fun r hr => (h.each r hr).mono hl, h.apt, h.types⟩
theorem Recs.drewN (h : Recs w lo e s A n c cs rows) (k : Nat) : Recs (w.drewN k) lo e s A n c cs rows := ⟨h.spine.drewN k, fun r hr => Own.drewN (h.each r hr) k, h.apt, h.types⟩
theorem Recs.alloc (h : Recs w lo e s A n c cs rows) (o : Obj) : Recs (w.alloc o) lo e s A n c cs rows := ⟨h.spine.alloc o, fun r hr => (Own.alloc (h.each r hr) o), h.apt, h.types⟩
/-- A row's block is not the spine's. -/
theorem Recs.row_ne (h : Recs w lo e s A n c cs rows) : ∀ r ∈ rows, ∀ b, blk A = some b → blk r.A ≠ some b := fun r hr b hb hb' => Own.blk_ne h.spine (h.each r hr) (fun he => h.types r hr he.symm) b hb hb'
theorem Recs.kept (h : Recs w lo e s A n c cs rows) (hA : ∀ b, blk A = some b → w'.heap[b]? = w.heap[b]?) (hR : ∀ r ∈ rows, ∀ b, blk r.A = some b → w'.heap[b]? = w.heap[b]?) : Recs w' lo e s A n c cs rows :=
  ⟨h.spine.kept (fun b hb _ _ => hA b hb), fun r hr => Own.kept (h.each r hr) (fun b hb _ _ => hR r hr b hb), h.apt, h.types⟩
theorem Recs.set_far (h : Recs w lo e s A n c cs rows) {g i : Nat} (hg : g < lo) (u : Value) : Recs (w.setCell ⟨g, i, none⟩ u) lo e s A n c cs rows :=
  ⟨h.spine.far (p := ⟨g, i, none⟩) (fun e => by have h1 : lo ≤ g := h.spine.blk_ge _ e; omega) u, fun r hr => Own.far (h.each r hr) (p := ⟨g, i, none⟩) (fun e => by have h1 : lo ≤ g := Own.blk_ge (h.each r hr) _ e; omega) u, h.apt, h.types⟩
/-- One record more: the spine has grown, the new rows are apart from the old ones. -/
theorem Recs.append {A2 : Option Addr} {n2 c2 : Nat} {news : List Value} {more : List Rw} (h : Recs w lo e s A n c cs rows) (hs : Own w2 lo e s A2 n2 c2 (cs ++ news)) (hg : w.grownBy w2 (blk A)) (hm : ∀ r ∈ more, r.own w lo) (ha : more.Pairwise AptR) (ht : ∀ r ∈ more, r.e ≠ e)
    (hx : ∀ r ∈ rows, ∀ m ∈ more, AptR r m) : Recs w2 lo e s A2 n2 c2 (cs ++ news) (rows ++ more) := by
  have far : ∀ r : Rw, r.own w lo → r.e ≠ e → r.own w2 lo := fun r hr hne =>
    Own.grown hr hg (fun g hgA hb => Own.blk_ne h.spine hr (fun he => hne he.symm) g hgA hb)
  refine ⟨hs, fun r hr => ?_, ?_, fun r hr => ?_⟩
  · rcases List.mem_append.1 hr with h1 | h1
    · exact far r (h.each r h1) (h.types r h1)
    · exact far r (hm r h1) (ht r h1)
  · rw [List.pairwise_append]; exact ⟨h.apt, ha, hx⟩
  · rcases List.mem_append.1 hr with h1 | h1
    · exact h.types r h1
    · exact ht r h1
/-- New rows that lie from k on, old ones below it. -/
theorem Recs.apart {more : List Rw} {k : Nat} (h : Recs w lo e s A n c cs rows) (hk : w.heap.size ≤ k) (hm : ∀ r ∈ more, ∀ b, blk r.A = some b → k ≤ b) : ∀ r ∈ rows, ∀ m ∈ more, AptR r m := fun r hr m hm' b hb hb' => by
  have h1 := Own.blk_lt (h.each r hr) b hb
  have h2 := hm m hm' b hb'
  omega
theorem Recs.fr {X : Nat → Prop} (h : Recs w lo e s A n c cs rows) (hf : ∀ b, X b → w'.heap[b]? = w.heap[b]?) (hA : ∀ b, blk A = some b → X b) (hR : ∀ r ∈ rows, ∀ b, blk r.A = some b → X b) : Recs w' lo e s A n c cs rows :=
  h.kept (fun b hb => hf b (hA b hb)) (fun r hr b hb => hf b (hR r hr b hb))
theorem Blk.apt {w : World} {g : Nat} {t e : TypeId} {cur : Array Value} {lo n c s : Nat} {A : Option Addr} {cs : List Value} (h : Blk w g t cur) (h' : Own w lo e s A n c cs) (hne : t ≠ e) : blk A ≠ some g := by
  intro hb
  rcases h'.2 with ⟨rfl, _⟩ | ⟨b, off, cur2, rfl, _, hg, _⟩
  · simp [blk] at hb
  · simp [blk] at hb; subst hb
    unfold Blk at h
    rw [hg] at h
    simp at h
    exact hne h.2.symm
theorem Blk.grown {w w2 : World} {g : Nat} {t e : TypeId} {cur : Array Value} {lo n c s : Nat} {A : Option Addr} {cs : List Value} (h : Blk w g t cur) (h' : Own w lo e s A n c cs) (hg : w.grownBy w2 (blk A)) (hne : t ≠ e) : Blk w2 g t cur :=
  (hg.block g (Array.getElem?_eq_some_iff.1 h).1 (fun e => h.apt h' hne e.symm)).trans h
theorem Own.grown_apt {w w2 : World} {lo lo' n n' c c' s s' : Nat} {e e' : TypeId} {A A' : Option Addr} {cs cs' : List Value} (h : Own w lo' e' s' A' n' c' cs') (h0 : Own w lo e s A n c cs) (hg : w.grownBy w2 (blk A)) (hne : e' ≠ e) : Own w2 lo' e' s' A' n' c' cs' :=
  h.grown hg (fun g hg' hb => Own.blk_ne h0 h (fun he => hne he.symm) g hg' hb)
theorem Recs.set_blk {g i : Nat} {t : TypeId} {cur : Array Value} (h : Recs w lo e s A n c cs rows) (hb : Blk w g t cur) (ht : t ≠ e) (hr : ∀ r ∈ rows, t ≠ r.e) (u : Value) : Recs (w.setCell ⟨g, i, none⟩ u) lo e s A n c cs rows :=
  ⟨h.spine.far (p := ⟨g, i, none⟩) (hb.apt h.spine ht) u, fun r hr' => Own.far (h.each r hr') (p := ⟨g, i, none⟩) (hb.apt (h.each r hr') (hr r hr')) u, h.apt, h.types⟩
/-- The blocks of a slice of records. -/
def RecsB (A : Option Addr) (rows : List Rw) (b : Nat) : Prop := blk A = some b ∨ ∃ r ∈ rows, blk r.A = some b
theorem Recs.blk_ge (h : Recs w lo e s A n c cs rows) : ∀ b, RecsB A rows b → lo ≤ b ∧ b < w.heap.size := by
  rintro b (hb | ⟨r, hr, hb⟩)
  · exact ⟨h.spine.blk_ge b hb, h.spine.blk_lt b hb⟩
  · exact ⟨Own.blk_ge (h.each r hr) b hb, Own.blk_lt (h.each r hr) b hb⟩
theorem Recs.keptB (h : Recs w lo e s A n c cs rows) (hk : ∀ b, RecsB A rows b → w'.heap[b]? = w.heap[b]?) : Recs w' lo e s A n c cs rows :=
  h.kept (fun b hb => hk b (.inl hb)) (fun r hr b hb => hk b (.inr ⟨r, hr, hb⟩))
end
end Go.Proofs.YtokglpdlhacnaaaDoor

/-
  Slices of partial configurations (turned by program from Tus).
-/
namespace Go.Proofs.YtokglpdlhacnaaaDoor
open Go.RowKit

theorem elPart : Elem Tryd.prog 55 58 3 40 (.agg #[.int .i64 0, .int .i64 0, .slice none 0 0]) := ⟨Tryd.underlying55, by kernel_rfl, rfl, by decide⟩
/-- A partial configuration in memory. -/
structure Pm where
  q : Int
  p : Int
  L : Option Addr
  a : Nat
  xs : List Int
def Pm.cells (t : Pm) : List Value := [.int .i64 t.q, .int .i64 t.p, .slice t.L t.xs.length t.a]
def Pm.rows (t : Pm) : List Rw := [Rw.i 2 t.L t.a t.xs]
def Pm.pa (t : Pm) : Pa := ⟨t.q, t.p, t.xs⟩
theorem Pm.cells_len (t : Pm) : t.cells.length = 3 := rfl
theorem Pm.one (ts : List Pm) : ∀ u ∈ ts.flatMap Pm.cells, u.oneCell' = true := by
  intro u hu
  simp only [List.mem_flatMap, Pm.cells, List.mem_cons, List.not_mem_nil, or_false] at hu
  obtain ⟨t, _, h | h | h⟩ := hu <;> subst h <;> rfl
/-- An owned slice of configurations, all rows apart. -/
def OPs (w : World) (lo : Nat) (A : Option Addr) (n c : Nat) (ts : List Pm) : Prop := Recs w lo 58 3 A n c (ts.flatMap Pm.cells) (ts.flatMap Pm.rows)
def pas (ts : List Pm) : List Pa := ts.map Pm.pa
section
variable {w w' w2 : World} {lo lo' n c : Nat} {A : Option Addr} {ts : List Pm}
theorem OPs.len (h : OPs w lo A n c ts) : ts.length = n := by have := h.spine.1; rw [flat_len Pm.cells_len] at this; omega
theorem OPs.below (h : OPs w lo A n c ts) (z : Below w.heap.size w w') : OPs w' lo A n c ts := Recs.below h z
theorem OPs.mono (h : OPs w lo A n c ts) (hl : lo' ≤ lo) : OPs w lo' A n c ts := Recs.mono h hl
theorem OPs.drewN (h : OPs w lo A n c ts) (k : Nat) : OPs (w.drewN k) lo A n c ts := Recs.drewN h k
theorem OPs.alloc (h : OPs w lo A n c ts) (o : Obj) : OPs (w.alloc o) lo A n c ts := Recs.alloc h o
/-- The k-th configuration. -/
theorem OPs.pick (h : OPs w lo A n c ts) {k : Nat} (hk : k < n) : ∃ t b off, Hid (ts[k]? = some t) ∧ A = some ⟨b, off, none⟩ ∧ b < w.heap.size ∧ lo ≤ b ∧ w.cell? ⟨b, off + k * 3, none⟩ = some (.int .i64 t.q) ∧ w.cell? ⟨b, off + k * 3 + 1, none⟩ = some (.int .i64 t.p) ∧ w.cell? ⟨b, off + k * 3 + 2, none⟩ = some (.slice t.L t.xs.length t.a) ∧
    Own w lo 2 1 t.L t.xs.length t.a (ints t.xs) ∧ (∀ j, w.frozen? ⟨b, j, none⟩ = false) := by
  have hl := h.len
  have hT : ts[k]? = some (ts[k]'(by omega)) := List.getElem?_eq_getElem (by omega)
  have hmem : ts[k]'(by omega) ∈ ts := List.getElem_mem _
  revert hT hmem
  generalize ts[k]'(by omega) = t
  intro hT hmem
  have hfl : (ts.flatMap Pm.cells).length = n * 3 := by rw [flat_len Pm.cells_len, hl]
  rcases h.spine.2 with ⟨_, h1, _⟩ | ⟨b, off, cur, hA, hb, hg, hnc, hcm, hfit, hc⟩
  · omega
  · have cell : ∀ j, (hj : j < 3) → w.cell? ⟨b, off + (k * 3 + j), none⟩ = some (t.cells[j]'(by rw [Pm.cells_len]; exact hj)) := by
      intro j hj
      have h1 := flat_get Pm.cells_len hT hj
      rw [List.getElem?_eq_getElem (l := t.cells) (i := j) (by rw [Pm.cells_len]; exact hj)] at h1
      obtain ⟨h2, h3⟩ := List.getElem?_eq_some_iff.1 h1
      have h4 := hc (k * 3 + j) h2
      rw [h3] at h4
      rw [← h4]; simp [World.cell?, hg]
    refine ⟨t, b, off, hT, hA, (Array.getElem?_eq_some_iff.1 hg).1, hb, cell 0 (by omega), ?_, ?_, ?_, fun j => by simp [World.frozen?, hg]⟩
    · rw [Nat.add_assoc]; exact cell 1 (by omega)
    · rw [Nat.add_assoc]; exact cell 2 (by omega)
    · exact h.each (Rw.i 2 t.L t.a t.xs) (List.mem_flatMap.2 ⟨t, hmem, by simp [Pm.rows]⟩)
theorem OPs.set_blk {g i : Nat} {t : TypeId} {cur : Array Value} (h : OPs w lo A n c ts) (hb : Blk w g t cur) (h1 : t ≠ 58) (h2 : t ≠ 2) (u : Value) : OPs (w.setCell ⟨g, i, none⟩ u) lo A n c ts :=
  Recs.set_blk h hb h1 (fun r hr => by
    obtain ⟨x, _, hx⟩ := List.mem_flatMap.1 hr
    simp only [Pm.rows, List.mem_cons, List.not_mem_nil, or_false] at hx
    subst hx; exact h2) u
theorem OPs.set_far {g i : Nat} (h : OPs w lo A n c ts) (hg : g < lo) (u : Value) : OPs (w.setCell ⟨g, i, none⟩ u) lo A n c ts := Recs.set_far h hg u
theorem OPs.nil (h : Own w lo 58 3 A 0 c []) : OPs w lo A 0 c [] := Recs.nil h
/-- The cells of a configuration's box. -/
theorem Pm.new (w : World) (t : Pm) : Rd (w.alloc (.cells #[.int .i64 t.q, .int .i64 t.p, .slice t.L t.xs.length t.a] 58)) 3 (some ⟨w.heap.size, 0, none⟩) 1 t.cells := by
  refine ⟨rfl, fun _ => ⟨_, 0, rfl, fun k hk => ?_⟩⟩
  rw [cell_of_row _ w.heap.size (0 + k) _ 58 (0, 0) (heap_alloc_new w _)]
  rw [Pm.cells_len] at hk
  match k, hk with
  | 0, _ => rfl
  | 1, _ => rfl
  | 2, _ => rfl
theorem OPs.one {t : Pm} {c1 : Nat} (hs : Own w lo 58 3 A 1 c1 ([t].flatMap Pm.cells)) (hL : Own w lo 2 1 t.L t.xs.length t.a (ints t.xs)) : OPs w lo A 1 c1 [t] := by
  have e2 : [t].flatMap Pm.rows = t.rows := by simp
  unfold OPs
  rw [e2]
  refine ⟨hs, fun r hr => ?_, List.pairwise_singleton _ _, fun r hr => ?_⟩
  · simp only [Pm.rows, List.mem_cons, List.not_mem_nil, or_false] at hr
    subst hr
    exact hL
  · simp only [Pm.rows, List.mem_cons, List.not_mem_nil, or_false] at hr
    subst hr
    show 2 ≠ 58; decide
/-- A store into a configuration's box that is no part of the slice. -/
theorem OPs.set_cfg {g i : Nat} {cur : Array Value} (h : OPs w lo A n c ts) (hb : Blk w g 58 cur) (hA : blk A ≠ some g) (u : Value) : OPs (w.setCell ⟨g, i, none⟩ u) lo A n c ts :=
  ⟨h.spine.far (p := ⟨g, i, none⟩) hA u, fun r hr => Own.far (h.each r hr) (p := ⟨g, i, none⟩) (hb.apt (h.each r hr) (fun e => h.types r hr e.symm)) u, h.apt, h.types⟩
/-- One configuration more, whose rows lie from k on, above all that was. -/
theorem OPs.snoc {A2 : Option Addr} {c2 k : Nat} {t : Pm} {wa : World} (h : OPs wa lo A n c ts) (hk : wa.heap.size ≤ k) (hw : OPs w lo A n c ts) (hs : Own w2 lo 58 3 A2 (n + 1) c2 (ts.flatMap Pm.cells ++ t.cells)) (hg : w.grownBy w2 (blk A))
    (hL : Own w k 2 1 t.L t.xs.length t.a (ints t.xs)) (hlk : lo ≤ k) : OPs w2 lo A2 (n + 1) c2 (ts ++ [t]) := by
  have e1 : (ts ++ [t]).flatMap Pm.cells = ts.flatMap Pm.cells ++ t.cells := by simp
  have e2 : (ts ++ [t]).flatMap Pm.rows = ts.flatMap Pm.rows ++ t.rows := by simp
  unfold OPs
  rw [e1, e2]
  refine Recs.append hw hs hg ?_ (List.pairwise_singleton _ _) ?_ ?_
  · intro r hr
    simp only [Pm.rows, List.mem_cons, List.not_mem_nil, or_false] at hr
    subst hr
    exact hL.mono hlk
  · intro r hr
    simp only [Pm.rows, List.mem_cons, List.not_mem_nil, or_false] at hr
    subst hr
    show 2 ≠ 58; decide
  · refine Recs.apart h hk ?_
    intro r hr b hb
    simp only [Pm.rows, List.mem_cons, List.not_mem_nil, or_false] at hr
    subst hr
    exact hL.blk_ge b hb
end
end Go.Proofs.YtokglpdlhacnaaaDoor

/-
  Contracts of the laws' helpers over [][]int64: szInt64SS, toInt64SS, eqInt64SS, markInt64SS.
-/
namespace Go.Proofs.YtokglpdlhacnaaaDoor
open Go.RowKit

theorem elII : Elem Tryd.prog 186 23 1 24 (.slice none 0 0) := ⟨Tryd.underlying186, by kernel_rfl, rfl, by decide⟩

def ToII (w : World) (n : Nat) (xss : List (List Int)) (e : Ending) (w' : World) : Prop :=
  ∃ A us, e = .returned (.slice A n n) ∧ OII w' w.heap.size 23 2 A n n us ∧ nums us = xss ∧ (∀ u ∈ us, u.c = u.xs.length) ∧ Below w.heap.size w w'

theorem total_take {ts : List Sl} {t : Sl} {k : Nat} (hT : ts[k]? = some t) : total (ts.take (k + 1)) = total (ts.take k) + t.xs.length := by
  obtain ⟨h, rfl⟩ := List.getElem?_eq_some_iff.1 hT
  unfold total; rw [List.take_succ_eq_append_getElem h, List.map_append, List.sum_append]; simp
theorem total_take_le (ts : List Sl) (k : Nat) : total (ts.take k) ≤ total ts := by
  have e : total ts = total (ts.take k) + total (ts.drop k) := by unfold total; rw [← List.sum_append, ← List.map_append, List.take_append_drop]
  omega

end Go.Proofs.YtokglpdlhacnaaaDoor

/-
  Contracts of slices.Grow (from nil), slices.Concat, impl.joined; slices.Index, Contains, Max over []int64.
-/
namespace Go.Proofs.YtokglpdlhacnaaaDoor
open Go.RowKit

/-- An empty slice with room, in new memory. -/
def Room (w : World) (e : Ending) (w' : World) : Prop := ∃ A c, e = .returned (.slice A 0 c) ∧ Own w' w.heap.size 2 1 A 0 c [] ∧ Below w.heap.size w w'

theorem zeroCells_size (z : Array Value) (n : Nat) : (Builtin.zeroCells z n).size = n * z.size := by simp [Builtin.zeroCells]

set_option maxRecDepth 100000 in
set_option maxHeartbeats 1000000 in
theorem growI_any (n : Nat) (w : World) (hn : n ≤ 1048576) : Calls Tryd.prog 143 #[.slice none 0 0, .int .i64 (n : Int)] w (Room w) := by
  rcases Nat.eq_zero_or_pos n with h | h
  · subst h
    go_enter Tryd.func143, Tryd.ntmps143
    go_wp2_with fail
    go_ret
    exact ⟨none, 0, rfl, Own.nil, Below.refl _ _⟩
  · obtain ⟨i, hi, hz, hs, hb⟩ := info_parts elI.info
    have hlaw := Lib.run_append_nil_zeros (P := Tryd.prog) w 23 3 23 2 i _ .i64 .i64 Tryd.underlying23 Tryd.underlying3 hi hz n h (by omega) (by omega) (by rw [hb]; omega)
    have hc1 := grownCap_ge w n 0 2
    have hc2 := grownCap_le_maxLen w n 0 2 (by simp only [maxLen]; omega)
    generalize grownCap w n 0 2 = c at *
    have o1 : Own (w.drew.alloc (.cells (Builtin.zeroCells (Value.int .i64 0).cells n ++ Builtin.zeroCells (Value.int .i64 0).cells (c - n)) 2)) w.heap.size 2 1 (some ⟨w.heap.size, 0, none⟩) 0 c [] := by
      refine ⟨rfl, .inr ⟨w.heap.size, 0, _, rfl, Nat.le_refl _, heap_alloc_new w.drew _, Nat.zero_le _, hc2, ?_, fun k hk => by simp at hk⟩⟩
      simp only [Array.size_append, zeroCells_size]
      have : (Value.int .i64 0).cells.size = 1 := rfl
      rw [this]; omega
    have z1 : Below w.heap.size w (w.drew.alloc (.cells (Builtin.zeroCells (Value.int .i64 0).cells n ++ Builtin.zeroCells (Value.int .i64 0).cells (c - n)) 2)) := (below_drewN (Below.refl _ _) 1).alloc (Nat.le_refl _) _
    generalize w.drew.alloc (.cells (Builtin.zeroCells (Value.int .i64 0).cells n ++ Builtin.zeroCells (Value.int .i64 0).cells (c - n)) 2) = W at *
    have HLAW := Lib.hid hlaw
    clear hlaw hi hz hs hb
    go_enter Tryd.func143, Tryd.ntmps143
    go_wp2_with (at_builtin; go_loud (refine Lib.wpList_append_run _ rfl (.tmp 20) (.tmp 21) _ _ rfl _ _ rfl rfl _ _ HLAW.out ?_))
    go_ret
    exact ⟨_, c, rfl, o1, z1⟩

/-- The first k rows, one behind the other. -/
def catTo (ts : List Sl) (k : Nat) : List Int := (ts.take k).flatMap Sl.xs
theorem catTo_zero (ts : List Sl) : catTo ts 0 = [] := by simp [catTo]
theorem catTo_next {ts : List Sl} {t : Sl} {k : Nat} (h : ts[k]? = some t) : catTo ts (k + 1) = catTo ts k ++ t.xs := by
  obtain ⟨hk, rfl⟩ := List.getElem?_eq_some_iff.1 h
  unfold catTo
  rw [List.take_succ_eq_append_getElem hk, List.flatMap_append]
  simp
theorem catTo_end {ts : List Sl} {k : Nat} (h : ts.length ≤ k) : catTo ts k = ts.flatMap Sl.xs := by unfold catTo; rw [List.take_of_length_le h]
theorem catTo_le (ts : List Sl) (k : Nat) : (catTo ts k).length ≤ (ts.flatMap Sl.xs).length := by
  have : ts.flatMap Sl.xs = catTo ts k ++ (ts.drop k).flatMap Sl.xs := by
    unfold catTo
    rw [← List.flatMap_append, List.take_append_drop]
  rw [this, List.length_append]; omega

set_option maxHeartbeats 4000000 in
theorem concatI_any (B : Option Addr) (m c : Nat) (ts : List Sl) (w : World) (hx : SII w B m ts) (hm : m ≤ 1048576) (ht : (ts.flatMap Sl.xs).length ≤ 1048576) :
    Calls Tryd.prog 139 #[.slice B m c] w (NewI w (ts.flatMap Sl.xs)) := by
  have HLE := Lib.hid (fun k => Nat.le_trans (catTo_le ts k) ht)
  have HEND : Hid (ts.flatMap Sl.xs = catTo ts m) := Lib.hid (catTo_end (by rw [hx.len]; exact Nat.le_refl _)).symm
  clear ht
  go_enter Tryd.func139, Tryd.ntmps139
  go_wp2_with fail
  go_loop [3, 11] (fun s i => ∃ k : Nat, k ≤ m ∧ i = .int .i64 (k : Int) ∧ s = .int .i64 ((catTo ts k).length : Int)) (fun _ i => m - (intOf i).toNat)
  case atStart => exact ⟨0, Nat.zero_le _, rfl, by simp [catTo_zero]⟩
  case round =>
    obtain ⟨k, hk, rfl, rfl⟩ := hrel
    by_cases hlt : k < m
    · obtain ⟨t, bb, off, HT, htm, rfl, hbl, e0, hrow⟩ := hx.pick hlt
      have HN : Hid ((catTo ts (k + 1)).length = (catTo ts k).length + t.xs.length) := Lib.hid (by rw [catTo_next HT.out]; simp)
      have hle := HLE.out (k + 1)
      rw [HN.out] at hle
      have i1 : (0 : Int) ≤ (k : Int) := by omega
      have i2 : (k : Int) < (m : Int) := by omega
      have i3 : ¬ (((catTo ts k).length : Int) + (t.xs.length : Int) < 0) := by omega
      clear hrow htm
      go_wp2_with fail
      go_round
      case rel => exact ⟨k + 1, by omega, by go_num, by rw [HN.out]; go_num⟩
      case measure => simp [intOf]; omega
    · obtain rfl : k = m := by omega
      have hle := HLE.out k
      have HEND' : Hid ((catTo ts k).length = (ts.flatMap Sl.xs).length) := Lib.hid (by rw [HEND.out])
      go_wp2_with fail
      refine (growI_any (catTo ts k).length w hle).mono ?_
      rintro e W1 ⟨A1, c1, rfl, o1, z1⟩
      go_wp2_with fail
      go_loopw [6, 27] (fun v i wr => ∃ (j : Nat) (D : Option Addr) (cd : Nat), j ≤ k ∧ i = .int .i64 (j : Int) ∧ v = .slice D (catTo ts j).length cd ∧ Own wr w.heap.size 2 1 D (catTo ts j).length cd (ints (catTo ts j)) ∧ Below w.heap.size w wr) (fun _ i _ => k - (intOf i).toNat)
      case atStart => exact ⟨0, A1, c1, Nat.zero_le _, rfl, by simp [catTo_zero], by rw [catTo_zero]; exact o1, z1⟩
      case round =>
        obtain ⟨j, D, cd, hj, rfl, rfl, ho, hz⟩ := hrel
        clear o1 z1
        by_cases hjl : j < k
        · obtain ⟨t, bb, off, HT, htm, rfl, hbl, e0, hrow⟩ := (hx.below hz).pick hjl
          have HN := Lib.hid (catTo_next HT.out)
          have hle2 : (catTo ts j).length + t.xs.length ≤ 1048576 := by have := HLE.out (j + 1); rw [HN.out, List.length_append] at this; exact this
          have i1 : (0 : Int) ≤ (j : Int) := by omega
          have i2 : (j : Int) < (k : Int) := by omega
          go_wp2_with (at_builtin; refine wpList_append_Own rfl (.tmp 31) (.tmp 32) rfl elI (lo := w.heap.size) rfl ho rfl hrow (ints_one t.xs) (by omega) (by simp only [maxLen]; omega) hz.size ?_; intro A2 c2 w2 ho2 hg2 _)
          have hz2 := ho.below_of hz hg2 hz.size
          have ho3 : Own w2 w.heap.size 2 1 A2 (catTo ts (j + 1)).length c2 (ints (catTo ts (j + 1))) := by
            rw [HN.out, List.length_append]
            have e : ints (catTo ts j ++ t.xs) = ints (catTo ts j) ++ ints t.xs := by simp [ints]
            rw [e]; exact ho2
          have HL : Hid ((catTo ts j).length + t.xs.length = (catTo ts (j + 1)).length) := Lib.hid (by rw [HN.out, List.length_append])
          clear ho2
          go_wp2_with fail
          go_roundw
          case rel => exact ⟨j + 1, A2, c2, by omega, by go_num, by rw [← HL.out], ho3, hz2⟩
          case measure => simp [intOf]; omega
        · obtain rfl : j = k := by omega
          go_wp2_with fail
          go_ret
          rw [HEND.out]
          exact ⟨D, cd, rfl, ho, hz⟩

theorem joinedI_any (B : Option Addr) (m c : Nat) (ts : List Sl) (w : World) (hx : SII w B m ts) (hm : m ≤ 1048576) (ht : (ts.flatMap Sl.xs).length ≤ 1048576) :
    Calls Tryd.prog 134 #[.slice B m c] w (NewI w (ts.flatMap Sl.xs)) := by
  have HC := Lib.hid (concatI_any B m c ts w hx hm ht)
  clear hx ht
  generalize ts.flatMap Sl.xs = ys at *
  go_enter Tryd.func134, Tryd.ntmps134
  go_wp2_with fail
  refine HC.out.mono ?_
  rintro e W1 ⟨A1, c1, rfl, o1, z1⟩
  go_wp2_with fail
  go_ret
  exact ⟨A1, c1, rfl, o1, z1⟩

/-- Where a number stands first, or -1. -/
def idxI (xs : List Int) (v : Int) : Int := if v ∈ xs then ((xs.idxOf v : Nat) : Int) else -1
theorem idxI_at {xs : List Int} {v : Int} {k : Nat} (hk : xs[k]? = some v) (h : v ∉ xs.take k) : idxI xs v = (k : Int) := by
  obtain ⟨hl, he⟩ := List.getElem?_eq_some_iff.1 hk
  have hm : v ∈ xs := List.mem_of_getElem? hk
  unfold idxI
  rw [if_pos hm]
  have e : xs = xs.take k ++ v :: xs.drop (k + 1) := by rw [← he, ← List.drop_eq_getElem_cons hl, List.take_append_drop]
  have h2 : xs.idxOf v = k := by
    rw [e, List.idxOf_append, if_neg h]
    simp
    omega
  rw [h2]
theorem idxI_no {xs : List Int} {v : Int} (h : v ∉ xs) : idxI xs v = -1 := by unfold idxI; rw [if_neg h]
theorem idxI_ge {xs : List Int} {v : Int} : decide (0 ≤ idxI xs v) = decide (v ∈ xs) := by
  unfold idxI
  by_cases h : v ∈ xs
  · rw [if_pos h]; simp [h]
  · rw [if_neg h]; simp [h]

/-- What slices.Max says. -/
def maxI : List Int → Int
  | [] => 0
  | x :: r => r.foldl max x
theorem maxI_take {xs : List Int} {x : Int} {k : Nat} (h0 : 0 < k) (h : xs[k]? = some x) : maxI (xs.take (k + 1)) = max (maxI (xs.take k)) x := by
  obtain ⟨hl, he⟩ := List.getElem?_eq_some_iff.1 h
  rw [List.take_succ_eq_append_getElem hl, he]
  cases hx : xs.take k with
  | nil =>
    have h2 : (xs.take k).length = 0 := by rw [hx]; rfl
    rw [List.length_take] at h2
    omega
  | cons y r => simp [maxI]

end Go.Proofs.YtokglpdlhacnaaaDoor
