/-
  Contracts of impl's functions on machines: noRule, isRule, validRule, ValidMachine, validSide, configOf, ValidConfig.
-/
import Derived.Test.YthipbeggaeogcaaBase
import Derived.Test.YthipbeggaeogcaaHelpR
import Derived.BigGuardPart
namespace Go.Proofs.Ythipbeggaeogcaa
open Go.RowKit

theorem noRule_any (w : World) : Calls Try.prog 219 #[] w fun e w' => e = .returned (.agg #[.int .i64 0, .int .i64 0, .int .i64 (-1)]) ∧ Below w.heap.size w w' := by
  go_enter Try.func219, Try.ntmps219
  go_wp2
  exact bodyPost_ret (v := .agg #[.int .i64 0, .int .i64 0, .int .i64 (-1)]) (by simp [results, Try.results219, go_sem]) rfl ⟨rfl, (Below.refl _ _).alloc (Nat.le_refl _) _⟩

def isRuleB (r : R3) : Bool := decide (r ≠ ⟨0, 0, -1⟩)

theorem isRuleB_eq (a b c : Int) : isRuleB ⟨a, b, c⟩ = !((a == 0) && (b == 0) && (c == -1)) := by
  unfold isRuleB
  by_cases h0 : a = 0 <;> by_cases h1 : b = 0 <;> by_cases h2 : c = -1 <;> simp [h0, h1, h2]

set_option maxHeartbeats 1000000 in
theorem isRule_any (a b c : Int) (w : World) : Calls Try.prog 201 #[.agg #[.int .i64 a, .int .i64 b, .int .i64 c]] w fun e w' => e = .returned (.bool (isRuleB ⟨a, b, c⟩)) ∧ Below w.heap.size w w' := by
  obtain ⟨W, hW⟩ : ∃ W, W = w.alloc (.cells #[.int .i64 a, .int .i64 b, .int .i64 c] 169) := ⟨_, rfl⟩
  have b0 : Blk W w.heap.size 169 #[.int .i64 a, .int .i64 b, .int .i64 c] := by rw [hW]; exact Blk.new w _ _
  have y0 : Below w.heap.size w W := by rw [hW]; exact (Below.refl _ _).alloc (Nat.le_refl _) _
  have HW := Lib.hid hW
  clear hW
  have q0 : W.cell? ⟨w.heap.size, 0, none⟩ = some (.int .i64 a) := b0.cell 0
  have q1 : W.cell? ⟨w.heap.size, 1, none⟩ = some (.int .i64 b) := b0.cell 1
  have q2 : W.cell? ⟨w.heap.size, 2, none⟩ = some (.int .i64 c) := b0.cell 2
  cases h0 : (a == 0) <;> cases h1 : (b == 0) <;> cases h2 : (c == -1)
  all_goals
    have HE := Lib.hid (isRuleB_eq a b c)
    have H0 := Lib.hid h0
    have H1 := Lib.hid h1
    have H2 := Lib.hid h2
    go_enter Try.func201, Try.ntmps201
    go_wp2_with fail
    rw [← HW.out]
    go_region_held3 (fun w' => w'.cell? ⟨w.heap.size, 0, none⟩ = some (.int .i64 a) ∧ w'.cell? ⟨w.heap.size, 1, none⟩ = some (.int .i64 b) ∧ w'.cell? ⟨w.heap.size, 2, none⟩ = some (.int .i64 c))
      (first
        | (go_keep; done)
        | (exact ⟨(b0.below' hb2).cell 0, (b0.below' hb2).cell 1, (b0.below' hb2).cell 2⟩))
      (first
        | (go_at_call 219; refine (noRule_any _).mono ?_; rintro e w2 ⟨rfl, hb2'⟩; have hb2 : Below W.heap.size W w2 := below_undrew hb2'))
    go_wp2_with fail
    go_ret
    exact ⟨ret_bool (by rw [HE.out, H0.out, H1.out, H2.out]; rfl), y0.trans (hb2.mono y0.size)⟩

theorem isRule_is {a b c : Int} {v : Bool} (h : isRuleB ⟨a, b, c⟩ = v) (w : World) : Calls Try.prog 201 #[.agg #[.int .i64 a, .int .i64 b, .int .i64 c]] w fun e w' => e = .returned (.bool v) ∧ Below w.heap.size w w' := h ▸ isRule_any a b c w

def validRuleB (sy st : Int) (r : R3) : Bool := !isRuleB r || (inB r.a 0 (sy - 1) && ((r.b == -1) || (r.b == 1)) && inB r.c 0 (st - 1))

set_option maxHeartbeats 1000000 in
theorem validRule_any (sy st : Int) (A : Option Addr) (n k : Nat) (a b c : Int) (w : World) (h1 : 1 ≤ sy) (h2 : sy ≤ 100000) (h3 : 1 ≤ st) (h4 : st ≤ 100000) :
    Calls Try.prog 167 #[.agg #[.int .i64 sy, .int .i64 st, .slice A n k], .agg #[.int .i64 a, .int .i64 b, .int .i64 c]] w fun e w' => e = .returned (.bool (validRuleB sy st ⟨a, b, c⟩)) ∧ Below w.heap.size w w' := by
  obtain ⟨W, hW⟩ : ∃ W, W = (w.alloc (.cells #[.int .i64 sy, .int .i64 st, .slice A n k] 82)).alloc (.cells #[.int .i64 a, .int .i64 b, .int .i64 c] 169) := ⟨_, rfl⟩
  have s1 : (w.alloc (.cells #[.int .i64 sy, .int .i64 st, .slice A n k] 82)).heap.size = w.heap.size + 1 := by simp
  have b0 : Blk W w.heap.size 82 #[.int .i64 sy, .int .i64 st, .slice A n k] := by rw [hW]; exact (Blk.new w _ _).alloc _
  have b1 : Blk W (w.heap.size + 1) 169 #[.int .i64 a, .int .i64 b, .int .i64 c] := by rw [hW, ← s1]; exact Blk.new _ _ _
  have y0 : Below w.heap.size w W := by rw [hW]; exact ((Below.refl _ _).alloc (Nat.le_refl _) _).alloc (by simp) _
  have HW := Lib.hid hW
  clear hW s1
  go_enter Try.func167, Try.ntmps167
  go_wp2_with fail
  rw [← HW.out]
  cases hr : isRuleB ⟨a, b, c⟩
  · have HR := Lib.hid hr
    clear hr
    refine (isRule_is HR.out _).mono ?_
    rintro e w2 ⟨rfl, z2⟩
    go_wp2_with fail
    go_ret
    exact ⟨ret_bool (by unfold validRuleB; rw [HR.out]; rfl), y0.trans (z2.mono y0.size)⟩
  · have HR := Lib.hid hr
    clear hr
    refine (isRule_is HR.out _).mono ?_
    rintro e w2 ⟨rfl, z2⟩
    have c0 := b0.below' z2
    have c1 := b1.below' z2
    have q0 : w2.cell? ⟨w.heap.size, 0, none⟩ = some (.int .i64 sy) := c0.cell 0
    have q1 : w2.cell? ⟨w.heap.size, 1, none⟩ = some (.int .i64 st) := c0.cell 1
    have q2 : w2.cell? ⟨w.heap.size + 1, 0, none⟩ = some (.int .i64 a) := c1.cell 0
    have q3 : w2.cell? ⟨w.heap.size + 1, 1, none⟩ = some (.int .i64 b) := c1.cell 1
    have q4 : w2.cell? ⟨w.heap.size + 1, 2, none⟩ = some (.int .i64 c) := c1.cell 2
    go_wp2_with (go_at_call 85; refine (within_any _ _ _ _).mono ?_; rintro e w' ⟨rfl, rfl⟩)
    all_goals go_ret
    all_goals exact ⟨ret_bool (by unfold validRuleB; rw [HR.out]; simp [*]), y0.trans (z2.mono y0.size)⟩

/-- A machine behind a pointer. -/
def MachAt (w : World) (g : Nat) (sy st : Int) (A : Option Addr) (n k : Nat) : Prop :=
  w.cell? ⟨g, 0, none⟩ = some (.int .i64 sy) ∧ w.cell? ⟨g, 1, none⟩ = some (.int .i64 st) ∧ w.cell? ⟨g, 2, none⟩ = some (.slice A n k)
theorem MachAt.lt {w : World} {g : Nat} {sy st : Int} {A : Option Addr} {n k : Nat} (h : MachAt w g sy st A n k) : g < w.heap.size := World.block_lt_of_cell? w _ h.1
theorem MachAt.below {w w' : World} {g : Nat} {sy st : Int} {A : Option Addr} {n k : Nat} (h : MachAt w g sy st A n k) (hb : Below w.heap.size w w') : MachAt w' g sy st A n k :=
  ⟨(hb.cell (p := ⟨g, 0, none⟩) h.lt).trans h.1, (hb.cell (p := ⟨g, 1, none⟩) h.lt).trans h.2.1, (hb.cell (p := ⟨g, 2, none⟩) h.lt).trans h.2.2⟩
theorem MachAt.drewN {w : World} {g : Nat} {sy st : Int} {A : Option Addr} {n k : Nat} (h : MachAt w g sy st A n k) (q : Nat) : MachAt (w.drewN q) g sy st A n k := h
theorem Blk.machAt {w : World} {g : Nat} {t : TypeId} {sy st : Int} {A : Option Addr} {n k : Nat} (h : Blk w g t #[.int .i64 sy, .int .i64 st, .slice A n k]) : MachAt w g sy st A n k := ⟨h.cell 0, h.cell 1, h.cell 2⟩

set_option maxHeartbeats 400000 in
theorem validMachine1_any (g : Nat) (sy st : Int) (A : Option Addr) (n k : Nat) (a b c : Int) (w : World) (hm : MachAt w g sy st A n k) (h1 : 1 ≤ sy) (h2 : sy ≤ 100000) (h3 : 1 ≤ st) (h4 : st ≤ 100000) :
    Calls Try.prog 166 #[.agg #[.int .i64 a, .int .i64 b, .int .i64 c], .pointer (some ⟨g, 0, none⟩)] w fun e w' => e = .returned (.bool (!validRuleB sy st ⟨a, b, c⟩)) ∧ Below w.heap.size w w' := by
  have y0 : Below w.heap.size w (w.alloc (.cells #[.int .i64 a, .int .i64 b, .int .i64 c] 169)) := (Below.refl _ _).alloc (Nat.le_refl _) _
  obtain ⟨k0, k1, k2⟩ := hm.below y0
  go_enter Try.func166, Try.ntmps166
  go_wp2_with fail
  refine (validRule_any _ _ _ _ _ _ _ _ _ h1 h2 h3 h4).mono ?_
  rintro e w2 ⟨rfl, z2⟩
  go_wp2_with fail
  go_ret
  exact ⟨rfl, y0.trans (z2.mono (by simp))⟩

def firstR (p : R3 → Bool) (rs : List R3) : Int := match rs.findIdx? p with | some k => k | none => -1
theorem firstR_at {p : R3 → Bool} {rs : List R3} {r : R3} {k : Nat} (hT : rs[k]? = some r) (h : p r = true) (he : (rs.take k).any p = false) : (k : Int) = firstR p rs := by
  unfold firstR
  obtain ⟨hk, rfl⟩ := List.getElem?_eq_some_iff.1 hT
  have : rs.findIdx? p = some k := by
    rw [List.findIdx?_eq_some_iff_getElem]
    refine ⟨hk, h, fun j hj => ?_⟩
    rw [List.any_eq_false] at he
    have := he (rs[j]'(by omega)) (by rw [List.mem_take_iff_getElem]; exact ⟨j, by omega, rfl⟩)
    simpa using this
  rw [this]
theorem firstR_none {p : R3 → Bool} {rs : List R3} {k n : Nat} (hk : n ≤ k) (hl : rs.length = n) (he : (rs.take k).any p = false) : -1 = firstR p rs := by
  unfold firstR
  rw [List.take_of_length_le (by omega)] at he
  have : rs.findIdx? p = none := by
    rw [List.findIdx?_eq_none_iff]
    intro x hx
    rw [List.any_eq_false] at he
    simpa using he x hx
  rw [this]
theorem firstR_next {p : R3 → Bool} {rs : List R3} {r : R3} {k : Nat} (hT : rs[k]? = some r) (h : p r = false) (he : (rs.take k).any p = false) : (rs.take (k + 1)).any p = false := by
  obtain ⟨hk, rfl⟩ := List.getElem?_eq_some_iff.1 hT
  rw [List.take_succ_eq_append_getElem hk, List.any_append, he]
  simpa using h
theorem firstR_ge (p : R3 → Bool) (rs : List R3) : decide (0 ≤ firstR p rs) = rs.any p := by
  unfold firstR
  cases h : rs.findIdx? p with
  | some k =>
    obtain ⟨hk, hp, _⟩ := List.findIdx?_eq_some_iff_getElem.1 h
    have : rs.any p = true := List.any_eq_true.2 ⟨_, List.getElem_mem hk, hp⟩
    rw [this]; simp
  | none =>
    have : rs.any p = false := by rw [List.any_eq_false]; intro x hx; simpa using List.findIdx?_eq_none_iff.1 h x hx
    rw [this]; simp

set_option maxHeartbeats 400000 in
theorem indexFuncR_any (A : Option Addr) (n c : Nat) (rs : List R3) (f : FuncId) (cp : Value) (p : R3 → Bool) (w : World) (hx : S3 w A n rs) (hn : n ≤ 9223372036854775807) (hcall : ∀ (args : Array Value) (w : World), (callFunc f args).run Try.prog w = .ok (.enter f args) w)
    (hf : Hid (∀ r ∈ rs, ∀ w1, Below w.heap.size w w1 → Calls Try.prog f #[.agg #[.int .i64 r.a, .int .i64 r.b, .int .i64 r.c], cp] w1 fun e w' => e = .returned (.bool (p r)) ∧ Below w1.heap.size w1 w')) :
    Calls Try.prog 200 #[.slice A n c, .func (.func f) #[] #[cp]] w fun e w' => e = .returned (.int .i64 (firstR p rs)) ∧ Below w.heap.size w w' := by
  go_enter Try.func200, Try.ntmps200
  go_wp2
  go_loopw [8] (fun i wr => ∃ k : Nat, k ≤ n ∧ i = .int .i64 k ∧ Hid ((rs.take k).any p = false) ∧ Below w.heap.size w wr) (fun i _ => n - (intOf i).toNat)
  case atStart => exact ⟨0, by omega, rfl, rfl, Below.refl _ _⟩
  case round =>
    obtain ⟨k, hk, rfl, he, hb⟩ := hrel
    by_cases hlt : k < n
    · obtain ⟨r, b, off, hR, hrm, rfl, hbl, q0, q1, q2⟩ := (hx.below hb).pick hlt
      go_wp2_with fail
      refine (hf.out r hrm _ hb).mono ?_
      rintro e w2 ⟨rfl, z2⟩
      have y2 : Below w.heap.size w w2 := hb.trans (z2.mono hb.size)
      cases hp : p r
      · have HP := Lib.hid hp
        clear hp
        go_wp2_with fail
        exact ⟨⟨k + 1, by omega, by go_num, firstR_next hR.out HP.out he.out, y2⟩, by simp [intOf]; omega⟩
      · have HP := Lib.hid hp
        clear hp
        go_wp2_with fail
        go_ret
        exact ⟨ret_int (firstR_at hR.out HP.out he.out), y2⟩
    · go_wp2
      go_ret
      exact ⟨ret_int (firstR_none (by omega) hx.len he.out), hb⟩

set_option maxHeartbeats 400000 in
theorem containsFuncR_any (A : Option Addr) (n c : Nat) (rs : List R3) (f : FuncId) (cp : Value) (p : R3 → Bool) (w : World) (hx : S3 w A n rs) (hn : n ≤ 9223372036854775807) (hcall : ∀ (args : Array Value) (w : World), (callFunc f args).run Try.prog w = .ok (.enter f args) w)
    (hf : Hid (∀ r ∈ rs, ∀ w1, Below w.heap.size w w1 → Calls Try.prog f #[.agg #[.int .i64 r.a, .int .i64 r.b, .int .i64 r.c], cp] w1 fun e w' => e = .returned (.bool (p r)) ∧ Below w1.heap.size w1 w')) :
    Calls Try.prog 165 #[.slice A n c, .func (.func f) #[] #[cp]] w fun e w' => e = .returned (.bool (rs.any p)) ∧ Below w.heap.size w w' := by
  go_enter Try.func165, Try.ntmps165
  go_wp2_with (go_at_call 200; refine (indexFuncR_any _ _ _ rs _ _ p _ hx hn hcall hf).mono ?_; rintro e w' ⟨rfl, hb⟩)
  go_ret
  exact ⟨ret_bool (firstR_ge p rs), hb⟩

theorem sizeR_any (A : Option Addr) (n c : Nat) (w : World) (_h : n ≤ 9223372036854775807) :
    Calls Try.prog 164 #[.slice A n c] w fun e w' => e = .returned (.int .i64 n) ∧ w = w' := by
  go_enter Try.func164, Try.ntmps164
  go_wp2
  go_ret
  exact ⟨rfl, rfl⟩

def machB (sy st : Int) (rs : List R3) : Bool := inB sy 2 6 && inB st 1 1000 && decide ((rs.length : Int) = st * sy) && rs.all (validRuleB sy st)

set_option maxHeartbeats 600000 in
theorem validMachine_any (sy st : Int) (A : Option Addr) (n k : Nat) (rs : List R3) (w : World) (hx : S3 w A n rs) (hn : n ≤ 1048576) :
    Calls Try.prog 122 #[.agg #[.int .i64 sy, .int .i64 st, .slice A n k]] w fun e w' => e = .returned (.bool (machB sy st rs)) ∧ Below w.heap.size w w' := by
  obtain ⟨W, hW⟩ : ∃ W, W = w.alloc (.cells #[.int .i64 sy, .int .i64 st, .slice A n k] 82) := ⟨_, rfl⟩
  have b0 : Blk W w.heap.size 82 #[.int .i64 sy, .int .i64 st, .slice A n k] := by rw [hW]; exact Blk.new w _ _
  have y0 : Below w.heap.size w W := by rw [hW]; exact (Below.refl _ _).alloc (Nat.le_refl _) _
  have HW := Lib.hid hW
  clear hW
  have HL := Lib.hid hx.len
  have q0 : W.cell? ⟨w.heap.size, 0, none⟩ = some (.int .i64 sy) := b0.cell 0
  have q1 : W.cell? ⟨w.heap.size, 1, none⟩ = some (.int .i64 st) := b0.cell 1
  have q2 : W.cell? ⟨w.heap.size, 2, none⟩ = some (.slice A n k) := b0.cell 2
  cases hs : inB sy 2 6
  · have HS := Lib.hid hs
    go_enter Try.func122, Try.ntmps122
    go_wp2_with fail
    rw [← HW.out]
    go_quiet ((go_at_call 85; exact quiet_left (within_any _ _ _ _)))
    go_wp2_with fail
    go_ret
    exact ⟨ret_bool (by unfold machB; rw [HS.out]; rfl), below_drewN y0 _⟩
  cases ht : inB st 1 1000
  · have HS := Lib.hid hs
    have HT := Lib.hid ht
    go_enter Try.func122, Try.ntmps122
    go_wp2_with fail
    rw [← HW.out]
    go_quiet ((go_at_call 85; exact quiet_left (within_any _ _ _ _)))
    go_wp2_with fail
    go_ret
    exact ⟨ret_bool (by unfold machB; rw [HS.out, HT.out]; rfl), below_drewN y0 _⟩
  have hs' := (inB_iff _ _ _).1 hs
  have ht' := (inB_iff _ _ _).1 ht
  have HS := Lib.hid hs
  have HT := Lib.hid ht
  obtain ⟨s1, s2⟩ := hs'
  obtain ⟨t1, t2⟩ := ht'
  have hmul : 0 ≤ st * sy ∧ st * sy ≤ 6000 := by
    constructor
    · exact Int.mul_nonneg (by omega) (by omega)
    · have h1 : st * sy ≤ 1000 * sy := Int.mul_le_mul_of_nonneg_right t2 (by omega)
      have h2 : (1000 : Int) * sy ≤ 1000 * 6 := Int.mul_le_mul_of_nonneg_left s2 (by omega)
      omega
  obtain ⟨m1, m2⟩ := hmul
  have hwr : IntKind.i64.wrap (st * sy) = st * sy := IntWalk.i64_in _ (by omega)
  cases hne : ((n : Int) != st * sy)
  · have HNE := Lib.hid hne
    go_enter Try.func122, Try.ntmps122
    go_wp2_with fail
    rw [← HW.out]
    go_quiet ((first | (go_at_call 85; exact quiet_left (within_any _ _ _ _)) | (go_at_call 164; exact quiet_left (sizeR_any _ _ _ _ (by omega)))))
    clear hwr hne
    go_wp2_with fail
    have hmA : MachAt (W.drewN nq) w.heap.size sy st A n k := b0.machAt
    have yq : Below w.heap.size w (W.drewN nq) := below_drewN y0 nq
    refine (containsFuncR_any _ _ _ rs _ _ (fun r => !validRuleB sy st r) _ ((hx.below y0).drewN nq) (by omega) Try.call166 (fun r _ w1 hb1 => validMachine1_any _ _ _ _ _ _ _ _ _ _ (hmA.below hb1) (by omega) (by omega) (by omega) (by omega))).mono ?_
    rintro e w2 ⟨rfl, z2⟩
    go_wp2_with fail
    go_ret
    refine ⟨ret_bool ?_, yq.trans (z2.mono yq.size)⟩
    have h := HNE.out
    unfold machB
    rw [HS.out, HT.out, HL.out]
    simp at h
    rw [List.not_any_eq_all_not]
    simp [h]
  · have HNE := Lib.hid hne
    go_enter Try.func122, Try.ntmps122
    go_wp2_with fail
    rw [← HW.out]
    go_quiet ((first | (go_at_call 85; exact quiet_left (within_any _ _ _ _)) | (go_at_call 164; exact quiet_left (sizeR_any _ _ _ _ (by omega)))))
    clear hwr
    go_wp2_with fail
    go_ret
    exact ⟨ret_bool (by have h := HNE.out; unfold machB; rw [HS.out, HT.out, HL.out]; simp at h; simp [h]), below_drewN y0 _⟩

/-- The last number, or 0. -/
def lastI (xs : List Int) : Int := xs.getLastD 0
/-- One side of a tape: its numbers are symbols, the last is not 0. -/
def sideB (xs : List Int) (sy most : Int) : Bool := decide ((xs.length : Int) ≤ most) && allIn xs 0 (sy - 1) && (decide (xs = []) || (lastI xs != 0))
theorem last_at {w : World} {A : Option Addr} {n : Nat} {xs : List Int} (h : SI w A n xs) (hn : 0 < n) : ∃ b off, A = some ⟨b, off, none⟩ ∧ b < w.heap.size ∧ w.cell? ⟨b, off + (n - 1), none⟩ = some (.int .i64 (lastI xs)) := by
  obtain ⟨b, off, e, hlt, hc⟩ := h.at_ (k := n - 1) (by omega)
  refine ⟨b, off, e, hlt, ?_⟩
  rw [hc]
  have hl := h.len
  subst hl
  unfold lastI
  rw [List.getLastD_eq_getLast?, List.getLast?_eq_getElem?, List.getElem?_eq_getElem (by omega)]
  rfl

set_option maxHeartbeats 1000000 in
theorem validSide_any (A : Option Addr) (n c : Nat) (xs : List Int) (sy most : Int) (w : World) (hx : SI w A n xs) (hn : n ≤ 1048576) (h1 : 0 ≤ sy) (h2 : sy ≤ 1000000) :
    Calls Try.prog 229 #[.slice A n c, .int .i64 sy, .int .i64 most] w fun e w' => e = .returned (.bool (sideB xs sy most)) ∧ w = w' := by
  have HL := Lib.hid hx.len
  by_cases hn0 : n = 0
  · subst hn0
    have hx0 : xs = [] := List.eq_nil_of_length_eq_zero HL.out
    subst hx0
    go_enter Try.func229, Try.ntmps229
    go_wp2_with (first
      | (go_at_call 104; refine (sizeI_any _ _ _ _ (by omega)).mono ?_; rintro e w' ⟨rfl, rfl⟩)
      | (go_at_call 103; refine (allWithin_any _ _ _ _ _ _ _ hx (by omega)).mono ?_; rintro e w' ⟨rfl, rfl⟩))
    all_goals go_ret
    all_goals exact ⟨ret_bool (by unfold sideB; simp_all [allIn]), rfl⟩
  · obtain ⟨b, off, rfl, _, hc⟩ := last_at hx (by omega)
    have hne : xs ≠ [] := by rintro rfl; have := HL.out; simp at this; omega
    have HNE := Lib.hid hne
    clear hne
    have g0 : ((n : Int) == 0) = false := by simp; omega
    have i1 : (0 : Int) ≤ (n : Int) - 1 := by omega
    have i2 : ((n : Int) - 1).toNat = n - 1 := by omega
    go_enter Try.func229, Try.ntmps229
    go_wp2_with (first
      | (go_at_call 104; refine (sizeI_any _ _ _ _ (by omega)).mono ?_; rintro e w' ⟨rfl, rfl⟩)
      | (go_at_call 103; refine (allWithin_any _ _ _ _ _ _ _ hx (by omega)).mono ?_; rintro e w' ⟨rfl, rfl⟩))
    all_goals go_ret
    all_goals refine ⟨ret_bool ?_, rfl⟩
    all_goals
      have h1 := HL.out
      have h2 := HNE.out
      unfold sideB
      rw [h1]
      simp [*] <;> (intros; omega)

end Go.Proofs.Ythipbeggaeogcaa
