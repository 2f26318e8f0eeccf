/-
  Contracts of impl's functions on machines: noRule, isRule, validRule, ValidMachine, validSide, configOf, ValidConfig.
-/
import Derived.Test.YtbpofkggoolmpaaPkMeasures1
import Derived.BigGuardPart
import Derived.Deep.RegionHeld3
import Derived.RegionTactic
import Derived.Deep.RegionLaw
import Derived.Deep.DeepCutAuto
namespace Go.Proofs.Ytbpofkggoolmpaa
open Go.RowKit

theorem noRule_any (w : World) : Calls Try.prog 291 #[] w fun e w' => e = .returned (.agg #[.int .i64 0, .int .i64 0, .int .i64 (-1)]) ∧ Below w.heap.size w w' := by
  go_enter Try.func291, Try.ntmps291
  go_wp2
  exact bodyPost_ret (v := .agg #[.int .i64 0, .int .i64 0, .int .i64 (-1)]) (by simp [results, Try.results291, go_sem]) rfl ⟨rfl, (Below.refl _ _).alloc (Nat.le_refl _) _⟩

def isRuleB (r : R3) : Bool := decide (r ≠ ⟨0, 0, -1⟩)

theorem isRuleB_eq (a b c : Int) : isRuleB ⟨a, b, c⟩ = !((a == 0) && (b == 0) && (c == -1)) := by
  unfold isRuleB
  by_cases h0 : a = 0 <;> by_cases h1 : b = 0 <;> by_cases h2 : c = -1 <;> simp [h0, h1, h2]

set_option maxHeartbeats 1000000 in
theorem isRule_any (a b c : Int) (w : World) : Calls Try.prog 259 #[.agg #[.int .i64 a, .int .i64 b, .int .i64 c]] w fun e w' => e = .returned (.bool (isRuleB ⟨a, b, c⟩)) ∧ Below w.heap.size w w' := by
  obtain ⟨W, hW⟩ : ∃ W, W = w.alloc (.cells #[.int .i64 a, .int .i64 b, .int .i64 c] 229) := ⟨_, rfl⟩
  have b0 : Blk W w.heap.size 229 #[.int .i64 a, .int .i64 b, .int .i64 c] := by rw [hW]; exact Blk.new w _ _
  have y0 : Below w.heap.size w W := by rw [hW]; exact (Below.refl _ _).alloc (Nat.le_refl _) _
  have HW := Lib.hid hW
  clear hW
  have q0 : W.cell? ⟨w.heap.size, 0, none⟩ = some (.int .i64 a) := b0.cell 0
  have q1 : W.cell? ⟨w.heap.size, 1, none⟩ = some (.int .i64 b) := b0.cell 1
  have q2 : W.cell? ⟨w.heap.size, 2, none⟩ = some (.int .i64 c) := b0.cell 2
  cases h0 : (a == 0) <;> cases h1 : (b == 0) <;> cases h2 : (c == -1)
  all_goals
    have HE := Lib.hid (isRuleB_eq a b c)
    have H0 := Lib.hid h0
    have H1 := Lib.hid h1
    have H2 := Lib.hid h2
    go_enter Try.func259, Try.ntmps259
    go_wp2_with fail
    rw [← HW.out]
    go_region_held3 (fun w' => w'.cell? ⟨w.heap.size, 0, none⟩ = some (.int .i64 a) ∧ w'.cell? ⟨w.heap.size, 1, none⟩ = some (.int .i64 b) ∧ w'.cell? ⟨w.heap.size, 2, none⟩ = some (.int .i64 c))
      (first
        | (go_keep; done)
        | (exact ⟨(b0.below' hb2).cell 0, (b0.below' hb2).cell 1, (b0.below' hb2).cell 2⟩))
      (first
        | (go_at_call 291; refine (noRule_any _).mono ?_; rintro e w2 ⟨rfl, hb2'⟩; have hb2 : Below W.heap.size W w2 := below_undrew hb2'))
    go_wp2_with fail
    go_ret
    exact ⟨ret_bool (by rw [HE.out, H0.out, H1.out, H2.out]; rfl), y0.trans (hb2.mono y0.size)⟩

theorem isRule_is {a b c : Int} {v : Bool} (h : isRuleB ⟨a, b, c⟩ = v) (w : World) : Calls Try.prog 259 #[.agg #[.int .i64 a, .int .i64 b, .int .i64 c]] w fun e w' => e = .returned (.bool v) ∧ Below w.heap.size w w' := h ▸ isRule_any a b c w

def validRuleB (sy st : Int) (r : R3) : Bool := !isRuleB r || (inB r.a 0 (sy - 1) && ((r.b == -1) || (r.b == 1)) && inB r.c 0 (st - 1))

set_option maxHeartbeats 1000000 in
theorem validRule_any (sy st : Int) (A : Option Addr) (n k : Nat) (a b c : Int) (w : World) (h1 : 1 ≤ sy) (h2 : sy ≤ 100000) (h3 : 1 ≤ st) (h4 : st ≤ 100000) :
    Calls Try.prog 257 #[.agg #[.int .i64 sy, .int .i64 st, .slice A n k], .agg #[.int .i64 a, .int .i64 b, .int .i64 c]] w fun e w' => e = .returned (.bool (validRuleB sy st ⟨a, b, c⟩)) ∧ Below w.heap.size w w' := by
  obtain ⟨W, hW⟩ : ∃ W, W = (w.alloc (.cells #[.int .i64 sy, .int .i64 st, .slice A n k] 36)).alloc (.cells #[.int .i64 a, .int .i64 b, .int .i64 c] 229) := ⟨_, rfl⟩
  have s1 : (w.alloc (.cells #[.int .i64 sy, .int .i64 st, .slice A n k] 36)).heap.size = w.heap.size + 1 := by simp
  have b0 : Blk W w.heap.size 36 #[.int .i64 sy, .int .i64 st, .slice A n k] := by rw [hW]; exact (Blk.new w _ _).alloc _
  have b1 : Blk W (w.heap.size + 1) 229 #[.int .i64 a, .int .i64 b, .int .i64 c] := by rw [hW, ← s1]; exact Blk.new _ _ _
  have y0 : Below w.heap.size w W := by rw [hW]; exact ((Below.refl _ _).alloc (Nat.le_refl _) _).alloc (by simp) _
  have HW := Lib.hid hW
  clear hW s1
  go_enter Try.func257, Try.ntmps257
  go_wp2_with fail
  rw [← HW.out]
  cases hr : isRuleB ⟨a, b, c⟩
  · have HR := Lib.hid hr
    clear hr
    refine (isRule_is HR.out _).mono ?_
    rintro e w2 ⟨rfl, z2⟩
    go_wp2_with fail
    go_ret
    exact ⟨ret_bool (by unfold validRuleB; rw [HR.out]; rfl), y0.trans (z2.mono y0.size)⟩
  · have HR := Lib.hid hr
    clear hr
    refine (isRule_is HR.out _).mono ?_
    rintro e w2 ⟨rfl, z2⟩
    have c0 := b0.below' z2
    have c1 := b1.below' z2
    have q0 : w2.cell? ⟨w.heap.size, 0, none⟩ = some (.int .i64 sy) := c0.cell 0
    have q1 : w2.cell? ⟨w.heap.size, 1, none⟩ = some (.int .i64 st) := c0.cell 1
    have q2 : w2.cell? ⟨w.heap.size + 1, 0, none⟩ = some (.int .i64 a) := c1.cell 0
    have q3 : w2.cell? ⟨w.heap.size + 1, 1, none⟩ = some (.int .i64 b) := c1.cell 1
    have q4 : w2.cell? ⟨w.heap.size + 1, 2, none⟩ = some (.int .i64 c) := c1.cell 2
    go_wp2_with (go_at_call 104; refine (within_any _ _ _ _).mono ?_; rintro e w' ⟨rfl, rfl⟩)
    all_goals go_ret
    all_goals exact ⟨ret_bool (by unfold validRuleB; rw [HR.out]; simp [*]), y0.trans (z2.mono y0.size)⟩

/-- A machine behind a pointer. -/
def MachAt (w : World) (g : Nat) (sy st : Int) (A : Option Addr) (n k : Nat) : Prop :=
  w.cell? ⟨g, 0, none⟩ = some (.int .i64 sy) ∧ w.cell? ⟨g, 1, none⟩ = some (.int .i64 st) ∧ w.cell? ⟨g, 2, none⟩ = some (.slice A n k)
theorem MachAt.lt {w : World} {g : Nat} {sy st : Int} {A : Option Addr} {n k : Nat} (h : MachAt w g sy st A n k) : g < w.heap.size := World.block_lt_of_cell? w _ h.1
theorem MachAt.below {w w' : World} {g : Nat} {sy st : Int} {A : Option Addr} {n k : Nat} (h : MachAt w g sy st A n k) (hb : Below w.heap.size w w') : MachAt w' g sy st A n k :=
  ⟨(hb.cell (p := ⟨g, 0, none⟩) h.lt).trans h.1, (hb.cell (p := ⟨g, 1, none⟩) h.lt).trans h.2.1, (hb.cell (p := ⟨g, 2, none⟩) h.lt).trans h.2.2⟩
theorem MachAt.drewN {w : World} {g : Nat} {sy st : Int} {A : Option Addr} {n k : Nat} (h : MachAt w g sy st A n k) (q : Nat) : MachAt (w.drewN q) g sy st A n k := h
theorem Blk.machAt {w : World} {g : Nat} {t : TypeId} {sy st : Int} {A : Option Addr} {n k : Nat} (h : Blk w g t #[.int .i64 sy, .int .i64 st, .slice A n k]) : MachAt w g sy st A n k := ⟨h.cell 0, h.cell 1, h.cell 2⟩

set_option maxHeartbeats 400000 in
theorem validMachine1_any (g : Nat) (sy st : Int) (A : Option Addr) (n k : Nat) (a b c : Int) (w : World) (hm : MachAt w g sy st A n k) (h1 : 1 ≤ sy) (h2 : sy ≤ 100000) (h3 : 1 ≤ st) (h4 : st ≤ 100000) :
    Calls Try.prog 256 #[.agg #[.int .i64 a, .int .i64 b, .int .i64 c], .pointer (some ⟨g, 0, none⟩)] w fun e w' => e = .returned (.bool (!validRuleB sy st ⟨a, b, c⟩)) ∧ Below w.heap.size w w' := by
  have y0 : Below w.heap.size w (w.alloc (.cells #[.int .i64 a, .int .i64 b, .int .i64 c] 229)) := (Below.refl _ _).alloc (Nat.le_refl _) _
  obtain ⟨k0, k1, k2⟩ := hm.below y0
  go_enter Try.func256, Try.ntmps256
  go_wp2_with fail
  refine (validRule_any _ _ _ _ _ _ _ _ _ h1 h2 h3 h4).mono ?_
  rintro e w2 ⟨rfl, z2⟩
  go_wp2_with fail
  go_ret
  exact ⟨rfl, y0.trans (z2.mono (by simp))⟩

def firstR (p : R3 → Bool) (rs : List R3) : Int := match rs.findIdx? p with | some k => k | none => -1
theorem firstR_at {p : R3 → Bool} {rs : List R3} {r : R3} {k : Nat} (hT : rs[k]? = some r) (h : p r = true) (he : (rs.take k).any p = false) : (k : Int) = firstR p rs := by
  unfold firstR
  obtain ⟨hk, rfl⟩ := List.getElem?_eq_some_iff.1 hT
  have : rs.findIdx? p = some k := by
    rw [List.findIdx?_eq_some_iff_getElem]
    refine ⟨hk, h, fun j hj => ?_⟩
    rw [List.any_eq_false] at he
    have := he (rs[j]'(by omega)) (by rw [List.mem_take_iff_getElem]; exact ⟨j, by omega, rfl⟩)
    simpa using this
  rw [this]
theorem firstR_none {p : R3 → Bool} {rs : List R3} {k n : Nat} (hk : n ≤ k) (hl : rs.length = n) (he : (rs.take k).any p = false) : -1 = firstR p rs := by
  unfold firstR
  rw [List.take_of_length_le (by omega)] at he
  have : rs.findIdx? p = none := by
    rw [List.findIdx?_eq_none_iff]
    intro x hx
    rw [List.any_eq_false] at he
    simpa using he x hx
  rw [this]
theorem firstR_next {p : R3 → Bool} {rs : List R3} {r : R3} {k : Nat} (hT : rs[k]? = some r) (h : p r = false) (he : (rs.take k).any p = false) : (rs.take (k + 1)).any p = false := by
  obtain ⟨hk, rfl⟩ := List.getElem?_eq_some_iff.1 hT
  rw [List.take_succ_eq_append_getElem hk, List.any_append, he]
  simpa using h
theorem firstR_ge (p : R3 → Bool) (rs : List R3) : decide (0 ≤ firstR p rs) = rs.any p := by
  unfold firstR
  cases h : rs.findIdx? p with
  | some k =>
    obtain ⟨hk, hp, _⟩ := List.findIdx?_eq_some_iff_getElem.1 h
    have : rs.any p = true := List.any_eq_true.2 ⟨_, List.getElem_mem hk, hp⟩
    rw [this]; simp
  | none =>
    have : rs.any p = false := by rw [List.any_eq_false]; intro x hx; simpa using List.findIdx?_eq_none_iff.1 h x hx
    rw [this]; simp

set_option maxHeartbeats 400000 in
theorem indexFuncR_any (A : Option Addr) (n c : Nat) (rs : List R3) (f : FuncId) (cp : Value) (p : R3 → Bool) (w : World) (hx : S3 w A n rs) (hn : n ≤ 9223372036854775807) (hcall : ∀ (args : Array Value) (w : World), (callFunc f args).run Try.prog w = .ok (.enter f args) w)
    (hf : Hid (∀ r ∈ rs, ∀ w1, Below w.heap.size w w1 → Calls Try.prog f #[.agg #[.int .i64 r.a, .int .i64 r.b, .int .i64 r.c], cp] w1 fun e w' => e = .returned (.bool (p r)) ∧ Below w1.heap.size w1 w')) :
    Calls Try.prog 290 #[.slice A n c, .func (.func f) #[] #[cp]] w fun e w' => e = .returned (.int .i64 (firstR p rs)) ∧ Below w.heap.size w w' := by
  go_enter Try.func290, Try.ntmps290
  go_wp2
  go_loopw [8] (fun i wr => ∃ k : Nat, k ≤ n ∧ i = .int .i64 k ∧ Hid ((rs.take k).any p = false) ∧ Below w.heap.size w wr) (fun i _ => n - (intOf i).toNat)
  case atStart => exact ⟨0, by omega, rfl, rfl, Below.refl _ _⟩
  case round =>
    obtain ⟨k, hk, rfl, he, hb⟩ := hrel
    by_cases hlt : k < n
    · obtain ⟨r, b, off, hR, hrm, rfl, hbl, q0, q1, q2⟩ := (hx.below hb).pick hlt
      go_wp2_with fail
      refine (hf.out r hrm _ hb).mono ?_
      rintro e w2 ⟨rfl, z2⟩
      have y2 : Below w.heap.size w w2 := hb.trans (z2.mono hb.size)
      cases hp : p r
      · have HP := Lib.hid hp
        clear hp
        go_wp2_with fail
        exact ⟨⟨k + 1, by omega, by go_num, firstR_next hR.out HP.out he.out, y2⟩, by simp [intOf]; omega⟩
      · have HP := Lib.hid hp
        clear hp
        go_wp2_with fail
        go_ret
        exact ⟨ret_int (firstR_at hR.out HP.out he.out), y2⟩
    · go_wp2
      go_ret
      exact ⟨ret_int (firstR_none (by omega) hx.len he.out), hb⟩

set_option maxHeartbeats 400000 in
theorem containsFuncR_any (A : Option Addr) (n c : Nat) (rs : List R3) (f : FuncId) (cp : Value) (p : R3 → Bool) (w : World) (hx : S3 w A n rs) (hn : n ≤ 9223372036854775807) (hcall : ∀ (args : Array Value) (w : World), (callFunc f args).run Try.prog w = .ok (.enter f args) w)
    (hf : Hid (∀ r ∈ rs, ∀ w1, Below w.heap.size w w1 → Calls Try.prog f #[.agg #[.int .i64 r.a, .int .i64 r.b, .int .i64 r.c], cp] w1 fun e w' => e = .returned (.bool (p r)) ∧ Below w1.heap.size w1 w')) :
    Calls Try.prog 255 #[.slice A n c, .func (.func f) #[] #[cp]] w fun e w' => e = .returned (.bool (rs.any p)) ∧ Below w.heap.size w w' := by
  go_enter Try.func255, Try.ntmps255
  go_wp2_with (go_at_call 290; refine (indexFuncR_any _ _ _ rs _ _ p _ hx hn hcall hf).mono ?_; rintro e w' ⟨rfl, hb⟩)
  go_ret
  exact ⟨ret_bool (firstR_ge p rs), hb⟩

theorem sizeR_any (A : Option Addr) (n c : Nat) (w : World) (_h : n ≤ 9223372036854775807) :
    Calls Try.prog 254 #[.slice A n c] w fun e w' => e = .returned (.int .i64 n) ∧ w = w' := by
  go_enter Try.func254, Try.ntmps254
  go_wp2
  go_ret
  exact ⟨rfl, rfl⟩

def machB (sy st : Int) (rs : List R3) : Bool := inB sy 2 6 && inB st 1 1000 && decide ((rs.length : Int) = st * sy) && rs.all (validRuleB sy st)

set_option maxHeartbeats 600000 in
theorem validMachine_any (sy st : Int) (A : Option Addr) (n k : Nat) (rs : List R3) (w : World) (hx : S3 w A n rs) (hn : n ≤ 1048576) :
    Calls Try.prog 183 #[.agg #[.int .i64 sy, .int .i64 st, .slice A n k]] w fun e w' => e = .returned (.bool (machB sy st rs)) ∧ Below w.heap.size w w' := by
  obtain ⟨W, hW⟩ : ∃ W, W = w.alloc (.cells #[.int .i64 sy, .int .i64 st, .slice A n k] 36) := ⟨_, rfl⟩
  have b0 : Blk W w.heap.size 36 #[.int .i64 sy, .int .i64 st, .slice A n k] := by rw [hW]; exact Blk.new w _ _
  have y0 : Below w.heap.size w W := by rw [hW]; exact (Below.refl _ _).alloc (Nat.le_refl _) _
  have HW := Lib.hid hW
  clear hW
  have HL := Lib.hid hx.len
  have q0 : W.cell? ⟨w.heap.size, 0, none⟩ = some (.int .i64 sy) := b0.cell 0
  have q1 : W.cell? ⟨w.heap.size, 1, none⟩ = some (.int .i64 st) := b0.cell 1
  have q2 : W.cell? ⟨w.heap.size, 2, none⟩ = some (.slice A n k) := b0.cell 2
  cases hs : inB sy 2 6
  · have HS := Lib.hid hs
    go_enter Try.func183, Try.ntmps183
    go_wp2_with fail
    rw [← HW.out]
    go_quiet ((go_at_call 104; exact quiet_left (within_any _ _ _ _)))
    go_wp2_with fail
    go_ret
    exact ⟨ret_bool (by unfold machB; rw [HS.out]; rfl), below_drewN y0 _⟩
  cases ht : inB st 1 1000
  · have HS := Lib.hid hs
    have HT := Lib.hid ht
    go_enter Try.func183, Try.ntmps183
    go_wp2_with fail
    rw [← HW.out]
    go_quiet ((go_at_call 104; exact quiet_left (within_any _ _ _ _)))
    go_wp2_with fail
    go_ret
    exact ⟨ret_bool (by unfold machB; rw [HS.out, HT.out]; rfl), below_drewN y0 _⟩
  have hs' := (inB_iff _ _ _).1 hs
  have ht' := (inB_iff _ _ _).1 ht
  have HS := Lib.hid hs
  have HT := Lib.hid ht
  obtain ⟨s1, s2⟩ := hs'
  obtain ⟨t1, t2⟩ := ht'
  have hmul : 0 ≤ st * sy ∧ st * sy ≤ 6000 := by
    constructor
    · exact Int.mul_nonneg (by omega) (by omega)
    · have h1 : st * sy ≤ 1000 * sy := Int.mul_le_mul_of_nonneg_right t2 (by omega)
      have h2 : (1000 : Int) * sy ≤ 1000 * 6 := Int.mul_le_mul_of_nonneg_left s2 (by omega)
      omega
  obtain ⟨m1, m2⟩ := hmul
  have hwr : IntKind.i64.wrap (st * sy) = st * sy := IntWalk.i64_in _ (by omega)
  cases hne : ((n : Int) != st * sy)
  · have HNE := Lib.hid hne
    go_enter Try.func183, Try.ntmps183
    go_wp2_with fail
    rw [← HW.out]
    go_quiet ((first | (go_at_call 104; exact quiet_left (within_any _ _ _ _)) | (go_at_call 254; exact quiet_left (sizeR_any _ _ _ _ (by omega)))))
    clear hwr hne
    go_wp2_with fail
    have hmA : MachAt (W.drewN nq) w.heap.size sy st A n k := b0.machAt
    have yq : Below w.heap.size w (W.drewN nq) := below_drewN y0 nq
    refine (containsFuncR_any _ _ _ rs _ _ (fun r => !validRuleB sy st r) _ ((hx.below y0).drewN nq) (by omega) Try.call256 (fun r _ w1 hb1 => validMachine1_any _ _ _ _ _ _ _ _ _ _ (hmA.below hb1) (by omega) (by omega) (by omega) (by omega))).mono ?_
    rintro e w2 ⟨rfl, z2⟩
    go_wp2_with fail
    go_ret
    refine ⟨ret_bool ?_, yq.trans (z2.mono yq.size)⟩
    have h := HNE.out
    unfold machB
    rw [HS.out, HT.out, HL.out]
    simp at h
    rw [List.not_any_eq_all_not]
    simp [h]
  · have HNE := Lib.hid hne
    go_enter Try.func183, Try.ntmps183
    go_wp2_with fail
    rw [← HW.out]
    go_quiet ((first | (go_at_call 104; exact quiet_left (within_any _ _ _ _)) | (go_at_call 254; exact quiet_left (sizeR_any _ _ _ _ (by omega)))))
    clear hwr
    go_wp2_with fail
    go_ret
    exact ⟨ret_bool (by have h := HNE.out; unfold machB; rw [HS.out, HT.out, HL.out]; simp at h; simp [h]), below_drewN y0 _⟩

/-- The last number, or 0. -/
def lastI (xs : List Int) : Int := xs.getLastD 0
/-- One side of a tape: its numbers are symbols, the last is not 0. -/
def sideB (xs : List Int) (sy most : Int) : Bool := decide ((xs.length : Int) ≤ most) && allIn xs 0 (sy - 1) && (decide (xs = []) || (lastI xs != 0))
theorem last_at {w : World} {A : Option Addr} {n : Nat} {xs : List Int} (h : SI w A n xs) (hn : 0 < n) : ∃ b off, A = some ⟨b, off, none⟩ ∧ b < w.heap.size ∧ w.cell? ⟨b, off + (n - 1), none⟩ = some (.int .i64 (lastI xs)) := by
  obtain ⟨b, off, e, hlt, hc⟩ := h.at_ (k := n - 1) (by omega)
  refine ⟨b, off, e, hlt, ?_⟩
  rw [hc]
  have hl := h.len
  subst hl
  unfold lastI
  rw [List.getLastD_eq_getLast?, List.getLast?_eq_getElem?, List.getElem?_eq_getElem (by omega)]
  rfl

set_option maxHeartbeats 1000000 in
theorem validSide_any (A : Option Addr) (n c : Nat) (xs : List Int) (sy most : Int) (w : World) (hx : SI w A n xs) (hn : n ≤ 1048576) (h1 : 0 ≤ sy) (h2 : sy ≤ 1000000) :
    Calls Try.prog 266 #[.slice A n c, .int .i64 sy, .int .i64 most] w fun e w' => e = .returned (.bool (sideB xs sy most)) ∧ w = w' := by
  have HL := Lib.hid hx.len
  by_cases hn0 : n = 0
  · subst hn0
    have hx0 : xs = [] := List.eq_nil_of_length_eq_zero HL.out
    subst hx0
    go_enter Try.func266, Try.ntmps266
    go_wp2_with (first
      | (go_at_call 258; refine (sizeI_any _ _ _ _ (by omega)).mono ?_; rintro e w' ⟨rfl, rfl⟩)
      | (go_at_call 239; refine (allWithin_any _ _ _ _ _ _ _ hx (by omega)).mono ?_; rintro e w' ⟨rfl, rfl⟩))
    all_goals go_ret
    all_goals exact ⟨ret_bool (by unfold sideB; simp_all [allIn]), rfl⟩
  · obtain ⟨b, off, rfl, _, hc⟩ := last_at hx (by omega)
    have hne : xs ≠ [] := by rintro rfl; have := HL.out; simp at this; omega
    have HNE := Lib.hid hne
    clear hne
    have g0 : ((n : Int) == 0) = false := by simp; omega
    have i1 : (0 : Int) ≤ (n : Int) - 1 := by omega
    have i2 : ((n : Int) - 1).toNat = n - 1 := by omega
    go_enter Try.func266, Try.ntmps266
    go_wp2_with (first
      | (go_at_call 258; refine (sizeI_any _ _ _ _ (by omega)).mono ?_; rintro e w' ⟨rfl, rfl⟩)
      | (go_at_call 239; refine (allWithin_any _ _ _ _ _ _ _ hx (by omega)).mono ?_; rintro e w' ⟨rfl, rfl⟩))
    all_goals go_ret
    all_goals refine ⟨ret_bool ?_, rfl⟩
    all_goals
      have h1 := HL.out
      have h2 := HNE.out
      unfold sideB
      rw [h1]
      simp [*] <;> (intros; omega)

end Go.Proofs.Ytbpofkggoolmpaa

/-
  Contracts of impl's functions on configurations: configOf, ValidConfig.
-/
namespace Go.Proofs.Ytbpofkggoolmpaa
open Go.RowKit

def confB (sy st q : Int) (xs ys : List Int) : Bool := inB q 0 (st - 1) && sideB xs sy 200 && sideB ys sy 200

set_option maxHeartbeats 1000000 in
theorem configOf_any (sy st : Int) (A : Option Addr) (n k : Nat) (q : Int) (B : Option Addr) (m c : Nat) (xs : List Int) (C : Option Addr) (l d : Nat) (ys : List Int) (w : World) (hx : SI w B m xs) (hy : SI w C l ys) (hm : m ≤ 1048576) (hl : l ≤ 1048576) (h1 : 2 ≤ sy) (h2 : sy ≤ 6) (h3 : 1 ≤ st) (h4 : st ≤ 1000) :
    Calls Try.prog 198 #[.agg #[.int .i64 sy, .int .i64 st, .slice A n k], .agg #[.int .i64 q, .slice B m c, .slice C l d]] w fun e w' => e = .returned (.bool (confB sy st q xs ys)) ∧ Below w.heap.size w w' := by
  obtain ⟨W, hW⟩ : ∃ W, W = (w.alloc (.cells #[.int .i64 sy, .int .i64 st, .slice A n k] 36)).alloc (.cells #[.int .i64 q, .slice B m c, .slice C l d] 50) := ⟨_, rfl⟩
  have y0 : Below w.heap.size w W := by rw [hW]; exact ((Below.refl _ _).alloc (Nat.le_refl _) _).alloc (by simp) _
  have hxW := hx.below y0
  have hyW := hy.below y0
  rw [hW] at hxW hyW y0
  clear hW
  go_enter Try.func198, Try.ntmps198
  go_wp2_with (go_at_call 104; refine (within_any _ _ _ _).mono ?_; rintro e w' ⟨rfl, rfl⟩)
  · have a1 : inB q 0 (st - 1) = true := by assumption
    have A1 := Lib.hid a1
    clear a1
    refine (validSide_any _ _ _ xs _ _ _ hxW hm (by omega) (by omega)).mono ?_
    rintro e w' ⟨rfl, rfl⟩
    cases a2 : sideB xs sy 200
    · have A2 := Lib.hid a2
      clear a2
      go_wp2_with fail
      go_ret
      exact ⟨ret_bool (by unfold confB; rw [A2.out]; simp), y0⟩
    · have A2 := Lib.hid a2
      clear a2
      go_wp2_with fail
      refine (validSide_any _ _ _ ys _ _ _ hyW hl (by omega) (by omega)).mono ?_
      rintro e w' ⟨rfl, rfl⟩
      go_wp2_with fail
      go_ret
      exact ⟨ret_bool (by unfold confB; rw [A1.out, A2.out]; simp), y0⟩
  · go_ret
    exact ⟨ret_bool (by unfold confB; simp [*]), y0⟩

def validConfB (sy st : Int) (rs : List R3) (q : Int) (xs ys : List Int) : Bool := machB sy st rs && confB sy st q xs ys
theorem machB_parts {sy st : Int} {rs : List R3} (h : machB sy st rs = true) : 2 ≤ sy ∧ sy ≤ 6 ∧ 1 ≤ st ∧ st ≤ 1000 ∧ (rs.length : Int) = st * sy ∧ ∀ r ∈ rs, validRuleB sy st r = true := by
  unfold machB at h
  simp only [Bool.and_eq_true, inB_iff, decide_eq_true_eq, List.all_eq_true] at h
  exact ⟨h.1.1.1.1, h.1.1.1.2, h.1.1.2.1, h.1.1.2.2, h.1.2, h.2⟩

set_option maxHeartbeats 1000000 in
theorem validConfig_any (sy st : Int) (A : Option Addr) (n k : Nat) (rs : List R3) (q : Int) (B : Option Addr) (m c : Nat) (xs : List Int) (C : Option Addr) (l d : Nat) (ys : List Int) (w : World) (hr : S3 w A n rs) (hx : SI w B m xs) (hy : SI w C l ys) (hn : n ≤ 1048576) (hm : m ≤ 1048576) (hl : l ≤ 1048576) :
    Calls Try.prog 111 #[.agg #[.int .i64 sy, .int .i64 st, .slice A n k], .agg #[.int .i64 q, .slice B m c, .slice C l d]] w fun e w' => e = .returned (.bool (validConfB sy st rs q xs ys)) ∧ Below w.heap.size w w' := by
  obtain ⟨W, hW⟩ : ∃ W, W = (w.alloc (.cells #[.int .i64 sy, .int .i64 st, .slice A n k] 36)).alloc (.cells #[.int .i64 q, .slice B m c, .slice C l d] 50) := ⟨_, rfl⟩
  have s1 : (w.alloc (.cells #[.int .i64 sy, .int .i64 st, .slice A n k] 36)).heap.size = w.heap.size + 1 := by simp
  have b0 : Blk W w.heap.size 36 #[.int .i64 sy, .int .i64 st, .slice A n k] := by rw [hW]; exact (Blk.new w _ _).alloc _
  have b1 : Blk W (w.heap.size + 1) 50 #[.int .i64 q, .slice B m c, .slice C l d] := by rw [hW, ← s1]; exact Blk.new _ _ _
  have y0 : Below w.heap.size w W := by rw [hW]; exact ((Below.refl _ _).alloc (Nat.le_refl _) _).alloc (by simp) _
  have HW := Lib.hid hW
  clear hW s1
  go_enter Try.func111, Try.ntmps111
  go_wp2_with fail
  rw [← HW.out]
  refine (validMachine_any _ _ _ _ _ rs _ (hr.below y0) hn).mono ?_
  rintro e w2 ⟨rfl, z2⟩
  have y2 : Below w.heap.size w w2 := y0.trans (z2.mono y0.size)
  cases a1 : machB sy st rs
  · have A1 := Lib.hid a1
    clear a1
    go_wp2_with fail
    go_ret
    exact ⟨ret_bool (by unfold validConfB; rw [A1.out]; simp), y2⟩
  · obtain ⟨p1, p2, p3, p4, _, _⟩ := machB_parts a1
    have A1 := Lib.hid a1
    clear a1
    have c0 := b0.below' z2
    have c1 := b1.below' z2
    have q0 : w2.cell? ⟨w.heap.size, 0, none⟩ = some (.int .i64 sy) := c0.cell 0
    have q1 : w2.cell? ⟨w.heap.size, 1, none⟩ = some (.int .i64 st) := c0.cell 1
    have q2 : w2.cell? ⟨w.heap.size, 2, none⟩ = some (.slice A n k) := c0.cell 2
    have q3 : w2.cell? ⟨w.heap.size + 1, 0, none⟩ = some (.int .i64 q) := c1.cell 0
    have q4 : w2.cell? ⟨w.heap.size + 1, 1, none⟩ = some (.slice B m c) := c1.cell 1
    have q5 : w2.cell? ⟨w.heap.size + 1, 2, none⟩ = some (.slice C l d) := c1.cell 2
    go_wp2_with fail
    refine (configOf_any _ _ _ _ _ _ _ _ _ xs _ _ _ ys _ (hx.below y2) (hy.below y2) hm hl p1 p2 p3 p4).mono ?_
    rintro e w3 ⟨rfl, z3⟩
    go_wp2_with fail
    go_ret
    exact ⟨ret_bool (by unfold validConfB; rw [A1.out]; simp), y2.trans (z3.mono y2.size)⟩
end Go.Proofs.Ytbpofkggoolmpaa

/-
  Contracts of the reference's smallest functions: l00In, l00Own.
-/
namespace Go.Proofs.Ytbpofkggoolmpaa
open Go.RowKit

set_option maxHeartbeats 400000 in
theorem l00In_any (n lo hi : Int) (w : World) :
    Calls Try.prog 102 #[.int .i64 n, .int .i64 lo, .int .i64 hi] w fun e w' => e = .returned (.bool (inB n lo hi)) ∧ w = w' := by
  by_cases h1 : lo ≤ n <;> by_cases h2 : n ≤ hi
  all_goals
    go_enter Try.func102, Try.ntmps102
    go_wp2
    go_ret
    exact ⟨ret_bool (by simp [inB]; omega), rfl⟩

theorem l00In_is {n lo hi : Int} {b : Bool} (h : inB n lo hi = b) (w : World) :
    Calls Try.prog 102 #[.int .i64 n, .int .i64 lo, .int .i64 hi] w fun e w' => e = .returned (.bool b) ∧ w = w' := h ▸ l00In_any n lo hi w

set_option maxHeartbeats 400000 in
theorem l00Own_any (A : Option Addr) (n c : Nat) (xs : List Int) (w : World) (hx : SI w A n xs) (hn : n ≤ 1048576) :
    Calls Try.prog 173 #[.slice A n c] w (NewI w xs) := by
  have HL := Lib.hid hx.len
  go_enter Try.func173, Try.ntmps173
  go_wp2_with (at_builtin; refine wpList_append_Own rfl (.tmp 3) (.tmp 4) rfl elI (lo := w.heap.size) rfl (Own.lit0 w _ 1) rfl (Rd.alloc hx _) (ints_one xs) (by omega) (by simp only [maxLen]; omega) (by simp) ?_; intro A2 c2 w2 ho2 hg2 _)
  go_ret
  have hbb := (Own.lit0 w 2 1).below_of ((Below.refl _ _).alloc (Nat.le_refl _) _) hg2 (by simp)
  simp only [List.nil_append] at ho2
  refine ⟨A2, c2, ?_, ?_, hbb⟩
  · rw [HL.out]; simp
  · rw [HL.out]; simpa using ho2

end Go.Proofs.Ytbpofkggoolmpaa

/-
  Contracts of the reference's functions on machines: l05None, l05Rule, l05Is.
-/
namespace Go.Proofs.Ytbpofkggoolmpaa
open Go.RowKit

theorem l05None_any (w : World) : Calls Try.prog 193 #[] w fun e w' => e = .returned (.agg #[.int .i64 0, .int .i64 0, .int .i64 (-1)]) ∧ Below w.heap.size w w' := by
  go_enter Try.func193, Try.ntmps193
  go_wp2
  exact bodyPost_ret (v := .agg #[.int .i64 0, .int .i64 0, .int .i64 (-1)]) (by simp [results, Try.results193, go_sem]) rfl ⟨rfl, (Below.refl _ _).alloc (Nat.le_refl _) _⟩

theorem validRuleB_no {sy st : Int} {r : R3} (h : isRuleB r = false) : true = validRuleB sy st r := by unfold validRuleB; rw [h]; rfl
theorem validRuleB_eq {sy st a b c : Int} (h : isRuleB ⟨a, b, c⟩ = true) : validRuleB sy st ⟨a, b, c⟩ = (inB a 0 (sy - 1) && ((b == -1) || (b == 1)) && inB c 0 (st - 1)) := by unfold validRuleB; rw [h]; rfl

set_option maxHeartbeats 2000000 in
theorem l05Rule_any (sy st : Int) (a b c : Int) (w : World) (h1 : 1 ≤ sy) (h2 : sy ≤ 100000) (h3 : 1 ≤ st) (h4 : st ≤ 100000) :
    Calls Try.prog 179 #[.agg #[.int .i64 a, .int .i64 b, .int .i64 c], .int .i64 sy, .int .i64 st] w fun e w' => e = .returned (.bool (validRuleB sy st ⟨a, b, c⟩)) ∧ Below w.heap.size w w' := by
  obtain ⟨W, hW⟩ : ∃ W, W = w.alloc (.cells #[.int .i64 a, .int .i64 b, .int .i64 c] 229) := ⟨_, rfl⟩
  have b0 : Blk W w.heap.size 229 #[.int .i64 a, .int .i64 b, .int .i64 c] := by rw [hW]; exact Blk.new w _ _
  have y0 : Below w.heap.size w W := by rw [hW]; exact (Below.refl _ _).alloc (Nat.le_refl _) _
  have HW := Lib.hid hW
  clear hW
  have q0 : W.cell? ⟨w.heap.size, 0, none⟩ = some (.int .i64 a) := b0.cell 0
  have q1 : W.cell? ⟨w.heap.size, 1, none⟩ = some (.int .i64 b) := b0.cell 1
  have q2 : W.cell? ⟨w.heap.size, 2, none⟩ = some (.int .i64 c) := b0.cell 2
  cases g0 : (a == 0) <;> cases g1 : (b == 0) <;> cases g2 : (c == -1)
  all_goals
    have HE := Lib.hid (isRuleB_eq a b c)
    have H0 := Lib.hid g0
    have H1 := Lib.hid g1
    have H2 := Lib.hid g2
    go_enter Try.func179, Try.ntmps179
    go_wp2_with fail
    rw [← HW.out]
    go_region_held3 (fun w' => w'.cell? ⟨w.heap.size, 0, none⟩ = some (.int .i64 a) ∧ w'.cell? ⟨w.heap.size, 1, none⟩ = some (.int .i64 b) ∧ w'.cell? ⟨w.heap.size, 2, none⟩ = some (.int .i64 c))
      (first
        | (go_keep; done)
        | (exact ⟨(b0.below' hb2).cell 0, (b0.below' hb2).cell 1, (b0.below' hb2).cell 2⟩))
      (first
        | (go_at_call 193; refine (l05None_any _).mono ?_; rintro e w2 ⟨rfl, hb2'⟩; have hb2 : Below W.heap.size W w2 := below_undrew hb2'))
    clear g0 g1 g2
  rotate_right
  · go_wp2_with fail
    go_ret
    exact ⟨ret_bool (validRuleB_no (by rw [HE.out, H0.out, H1.out, H2.out]; rfl)), y0.trans (hb2.mono y0.size)⟩
  all_goals
    have HV := Lib.hid (validRuleB_eq (sy := sy) (st := st) (by rw [HE.out, H0.out, H1.out, H2.out]; rfl : isRuleB ⟨a, b, c⟩ = true))
    have c0 := b0.below' hb2
    have q0 : w2.cell? ⟨w.heap.size, 0, none⟩ = some (.int .i64 a) := c0.cell 0
    have q1 : w2.cell? ⟨w.heap.size, 1, none⟩ = some (.int .i64 b) := c0.cell 1
    have q2 : w2.cell? ⟨w.heap.size, 2, none⟩ = some (.int .i64 c) := c0.cell 2
    go_wp2_with (go_at_call 102; refine (l00In_any _ _ _ _).mono ?_; rintro e w' ⟨rfl, rfl⟩)
    all_goals go_ret
    all_goals exact ⟨ret_bool (by rw [HV.out]; simp [*]), y0.trans (hb2.mono y0.size)⟩
end Go.Proofs.Ytbpofkggoolmpaa

/-
  Contracts of the reference's functions on machines: l05Is, l05Cells, l05Good.
-/
namespace Go.Proofs.Ytbpofkggoolmpaa
open Go.RowKit

theorem all_not {sy st : Int} {rs : List R3} {r : R3} {k : Nat} (hT : rs[k]? = some r) (h : validRuleB sy st r = false) : rs.all (validRuleB sy st) = false := by
  rw [List.all_eq_false]; exact ⟨r, List.mem_of_getElem? hT, by simp [h]⟩
theorem all_next {sy st : Int} {rs : List R3} {r : R3} {k : Nat} (hT : rs[k]? = some r) (h : validRuleB sy st r = true) (he : (rs.take k).all (validRuleB sy st) = true) : (rs.take (k + 1)).all (validRuleB sy st) = true := by
  obtain ⟨hk, rfl⟩ := List.getElem?_eq_some_iff.1 hT
  rw [List.take_succ_eq_append_getElem hk, List.all_append, he]
  simpa using h
theorem machB_of {sy st : Int} {rs : List R3} {n : Nat} {b : Bool} (hl : rs.length = n) (h1 : inB sy 2 6 = true) (h2 : inB st 1 1000 = true) (h3 : ((n : Int) != sy * st) = false) (h : rs.all (validRuleB sy st) = b) : b = machB sy st rs := by
  unfold machB
  rw [h1, h2, hl, h]
  simp at h3
  have : (n : Int) = st * sy := by rw [h3, Int.mul_comm]
  simp [this]

theorem l05Rule_r (sy st : Int) (r : R3) (w : World) (h1 : 1 ≤ sy) (h2 : sy ≤ 100000) (h3 : 1 ≤ st) (h4 : st ≤ 100000) :
    Calls Try.prog 179 #[.agg #[.int .i64 r.a, .int .i64 r.b, .int .i64 r.c], .int .i64 sy, .int .i64 st] w fun e w' => e = .returned (.bool (validRuleB sy st r)) ∧ Below w.heap.size w w' := l05Rule_any sy st r.a r.b r.c w h1 h2 h3 h4

set_option maxHeartbeats 2000000 in
theorem l05Is_any (g : Nat) (sy st : Int) (A : Option Addr) (n k : Nat) (rs : List R3) (w : World) (hm : MachAt w g sy st A n k) (hx : S3 w A n rs) (hn : n ≤ 1048576) :
    Calls Try.prog 85 #[.pointer (some ⟨g, 0, none⟩)] w fun e w' => e = .returned (.bool (machB sy st rs)) ∧ Below w.heap.size w w' := by
  have HL := Lib.hid hx.len
  have hm' := hm
  obtain ⟨q0, q1, q2⟩ := hm'
  cases hs : inB sy 2 6
  · have HS := Lib.hid hs
    go_enter Try.func85, Try.ntmps85
    go_wp2_with fail
    go_quiet ((go_at_call 102; exact quiet_left (l00In_any _ _ _ _)))
    go_wp2_with fail
    go_ret
    exact ⟨ret_bool (by unfold machB; rw [HS.out]; rfl), below_drewN (Below.refl _ _) _⟩
  cases ht : inB st 1 1000
  · have HS := Lib.hid hs
    have HT := Lib.hid ht
    go_enter Try.func85, Try.ntmps85
    go_wp2_with fail
    go_quiet ((go_at_call 102; exact quiet_left (l00In_any _ _ _ _)))
    go_wp2_with fail
    go_ret
    exact ⟨ret_bool (by unfold machB; rw [HS.out, HT.out]; rfl), below_drewN (Below.refl _ _) _⟩
  have hs' := (inB_iff _ _ _).1 hs
  have ht' := (inB_iff _ _ _).1 ht
  have HS := Lib.hid hs
  have HT := Lib.hid ht
  obtain ⟨s1, s2⟩ := hs'
  obtain ⟨t1, t2⟩ := ht'
  have hmul : 0 ≤ sy * st ∧ sy * st ≤ 6000 := by
    rw [Int.mul_comm]
    constructor
    · exact Int.mul_nonneg (by omega) (by omega)
    · have h1 : st * sy ≤ 1000 * sy := Int.mul_le_mul_of_nonneg_right t2 (by omega)
      have h2 : (1000 : Int) * sy ≤ 1000 * 6 := Int.mul_le_mul_of_nonneg_left s2 (by omega)
      omega
  obtain ⟨m1, m2⟩ := hmul
  have hwr : IntKind.i64.wrap (sy * st) = sy * st := IntWalk.i64_in _ (by omega)
  cases hne : ((n : Int) != sy * st)
  · have HNE := Lib.hid hne
    go_enter Try.func85, Try.ntmps85
    go_wp2_with fail
    go_quiet ((go_at_call 102; exact quiet_left (l00In_any _ _ _ _)))
    clear hwr hne hs ht
    go_wp2_with fail
    have yq : Below w.heap.size w (w.drewN nq) := below_drewN (Below.refl _ _) nq
    go_loopw [3] (fun i wr => ∃ j : Nat, j ≤ n ∧ i = .int .i64 j ∧ Hid ((rs.take j).all (validRuleB sy st) = true) ∧ Below w.heap.size w wr) (fun i _ => n - (intOf i).toNat)
    case atStart => exact ⟨0, by omega, rfl, rfl, yq⟩
    case round =>
      clear q0 q1 q2
      obtain ⟨j, hj, rfl, he, hb⟩ := hrel
      obtain ⟨q0, q1, q2⟩ := hm.below hb
      by_cases hlt : j < n
      · obtain ⟨r, b, off, hR, hrm, rfl, hbl, r0, r1, r2⟩ := (hx.below hb).pick hlt
        have hM := hm.below hb
        have hxb := hx.below hb
        go_wp2_with fail
        go_region_held3 (fun w' => w'.cell? ⟨g, 0, none⟩ = some (.int .i64 sy) ∧ w'.cell? ⟨g, 1, none⟩ = some (.int .i64 st) ∧ w'.cell? ⟨g, 2, none⟩ = some (.slice (some ⟨b, off, none⟩) n k) ∧ w'.cell? ⟨b, off + j * 3, none⟩ = some (.int .i64 r.a) ∧ w'.cell? ⟨b, off + j * 3 + 1, none⟩ = some (.int .i64 r.b) ∧ w'.cell? ⟨b, off + j * 3 + 2, none⟩ = some (.int .i64 r.c))
          (first
            | (go_keep; done)
            | (exact ⟨(hM.below z2).1, (hM.below z2).2.1, (hM.below z2).2.2, (z2.cell (p := ⟨b, off + j * 3, none⟩) hbl).trans r0, (z2.cell (p := ⟨b, off + j * 3 + 1, none⟩) hbl).trans r1, (z2.cell (p := ⟨b, off + j * 3 + 2, none⟩) hbl).trans r2⟩))
          (first
            | (go_at_call 179; refine (l05Rule_r _ _ r _ (by omega) (by omega) (by omega) (by omega)).mono ?_; rintro e w2 ⟨rfl, z2'⟩; have z2 : Below wr.heap.size wr w2 := below_undrew z2'))
        have y2 : Below w.heap.size w w2 := hb.trans (z2.mono hb.size)
        cases hv : validRuleB sy st r
        · have HV := Lib.hid hv
          clear hv
          go_wp2_with fail
          go_ret
          exact ⟨ret_bool (machB_of HL.out HS.out HT.out HNE.out (all_not hR.out HV.out)), y2⟩
        · have HV := Lib.hid hv
          clear hv
          go_wp2_with fail
          exact ⟨⟨j + 1, by omega, by go_num, all_next hR.out HV.out he.out, y2⟩, by simp [intOf]; omega⟩
      · go_wp2
        go_ret
        refine ⟨ret_bool (machB_of HL.out HS.out HT.out HNE.out ?_), hb⟩
        have := he.out
        rw [List.take_of_length_le (by rw [HL.out]; omega)] at this
        exact this
  · have HNE := Lib.hid hne
    go_enter Try.func85, Try.ntmps85
    go_wp2_with fail
    go_quiet ((go_at_call 102; exact quiet_left (l00In_any _ _ _ _)))
    clear hwr
    go_wp2_with fail
    go_ret
    exact ⟨ret_bool (by have h := HNE.out; unfold machB; rw [HS.out, HT.out, HL.out]; simp at h; rw [Int.mul_comm] at h; simp [h]), below_drewN (Below.refl _ _) _⟩

theorem side_at {xs : List Int} {sy : Int} {k n : Nat} (hk : k < n) (hl : xs.length = n) (h : (!inB (xs[k]'(by omega)) 0 (sy - 1)) = true) : false = sideB xs sy 200 := by
  have := allIn_at hk hl h
  unfold sideB; rw [← this]; simp

/-- A configuration behind a pointer. -/
def ConfAt (w : World) (g : Nat) (q : Int) (L : Option Addr) (m c : Nat) (R : Option Addr) (l d : Nat) : Prop :=
  w.cell? ⟨g, 0, none⟩ = some (.int .i64 q) ∧ w.cell? ⟨g, 1, none⟩ = some (.slice L m c) ∧ w.cell? ⟨g, 2, none⟩ = some (.slice R l d)
theorem ConfAt.lt {w : World} {g : Nat} {q : Int} {L : Option Addr} {m c : Nat} {R : Option Addr} {l d : Nat} (h : ConfAt w g q L m c R l d) : g < w.heap.size := World.block_lt_of_cell? w _ h.1
theorem ConfAt.below {w w' : World} {g : Nat} {q : Int} {L : Option Addr} {m c : Nat} {R : Option Addr} {l d : Nat} (h : ConfAt w g q L m c R l d) (hb : Below w.heap.size w w') : ConfAt w' g q L m c R l d :=
  ⟨(hb.cell (p := ⟨g, 0, none⟩) h.lt).trans h.1, (hb.cell (p := ⟨g, 1, none⟩) h.lt).trans h.2.1, (hb.cell (p := ⟨g, 2, none⟩) h.lt).trans h.2.2⟩
theorem ConfAt.drewN {w : World} {g : Nat} {q : Int} {L : Option Addr} {m c : Nat} {R : Option Addr} {l d : Nat} (h : ConfAt w g q L m c R l d) (k : Nat) : ConfAt (w.drewN k) g q L m c R l d := h
theorem Blk.confAt {w : World} {g : Nat} {t : TypeId} {q : Int} {L : Option Addr} {m c : Nat} {R : Option Addr} {l d : Nat} (h : Blk w g t #[.int .i64 q, .slice L m c, .slice R l d]) : ConfAt w g q L m c R l d := ⟨h.cell 0, h.cell 1, h.cell 2⟩

end Go.Proofs.Ytbpofkggoolmpaa

/-
  Contracts of slices.Reverse and impl.reversed.
-/
namespace Go.Proofs.Ytbpofkggoolmpaa
open Go.RowKit

/-- The number at a place, or 0. -/
def nth (xs : List Int) (k : Nat) : Int := xs.getD k 0
theorem nth_eq (xs : List Int) (k : Nat) (h : k < xs.length) : nth xs k = xs[k] := by simp [nth, List.getElem?_eq_getElem h]
/-- After a rounds of the reversal in place. -/
def revTo (xs : List Int) (a : Nat) : List Int := (List.range xs.length).map fun k => if k < a ∨ xs.length ≤ k + a then nth xs (xs.length - 1 - k) else nth xs k
theorem length_revTo (xs : List Int) (a : Nat) : (revTo xs a).length = xs.length := by simp [revTo]
theorem revTo_get (xs : List Int) (a k : Nat) (h : k < (revTo xs a).length) : (revTo xs a)[k] = if k < a ∨ xs.length ≤ k + a then nth xs (xs.length - 1 - k) else nth xs k := by simp [revTo]
theorem revTo_zero (xs : List Int) : revTo xs 0 = xs := by
  apply List.ext_getElem (length_revTo xs 0)
  intro k h1 h2
  rw [revTo_get, if_neg (by omega), nth_eq _ _ h2]
theorem revTo_next (xs : List Int) (a : Nat) (h : a + a + 1 < xs.length) : ((revTo xs a).set a (nth xs (xs.length - 1 - a))).set (xs.length - 1 - a) (nth xs a) = revTo xs (a + 1) := by
  apply List.ext_getElem (by simp [length_revTo])
  intro k h1 h2
  rw [length_revTo] at h2
  rw [List.getElem_set, List.getElem_set, revTo_get, revTo_get]
  by_cases e1 : xs.length - 1 - a = k
  · subst e1
    rw [if_pos rfl, if_pos (by omega)]
    congr 1; omega
  · rw [if_neg e1]
    by_cases e2 : a = k
    · subst e2
      rw [if_pos rfl, if_pos (by omega)]
    · rw [if_neg e2]
      by_cases e3 : k < a ∨ xs.length ≤ k + a
      · rw [if_pos e3, if_pos (by omega)]
      · rw [if_neg e3, if_neg (by omega)]
theorem revTo_end (xs : List Int) (a : Nat) (h : xs.length ≤ a + a + 1) : revTo xs a = xs.reverse := by
  apply List.ext_getElem (by simp [length_revTo])
  intro k h1 h2
  rw [length_revTo] at h1
  rw [revTo_get, List.getElem_reverse]
  by_cases e : k < a ∨ xs.length ≤ k + a
  · rw [if_pos e, nth_eq _ _ (by omega)]
  · rw [if_neg e, nth_eq _ _ (by omega)]
    congr 1; omega
theorem revTo_lo (xs : List Int) (a : Nat) (h : a + a + 1 < xs.length) (h1 : a < (ints (revTo xs a)).length) : (ints (revTo xs a))[a] = .int .i64 (nth xs a) := by
  rw [ints_get, revTo_get, if_neg (by omega)]
theorem revTo_hi (xs : List Int) (a : Nat) (h : a + a + 1 < xs.length) (h1 : xs.length - 1 - a < (ints (revTo xs a)).length) : (ints (revTo xs a))[xs.length - 1 - a] = .int .i64 (nth xs (xs.length - 1 - a)) := by
  rw [ints_get, revTo_get, if_neg (by omega)]

def RevP (w : World) (lo : Nat) (A : Option Addr) (n c : Nat) (xs : List Int) (e : Ending) (w' : World) : Prop :=
  e = .returned (.tuple #[]) ∧ Own w' lo 2 1 A n c (ints xs.reverse) ∧ Below lo w w' ∧ ∀ b, blk A ≠ some b → w'.heap[b]? = w.heap[b]?

set_option maxHeartbeats 1000000 in
theorem reverse_any (A : Option Addr) (n c : Nat) (xs : List Int) (w : World) (lo : Nat) (hx : Own w lo 2 1 A n c (ints xs)) (hn : n ≤ 1048576) (_hlo : lo ≤ w.heap.size) :
    Calls Try.prog 267 #[.slice A n c] w (RevP w lo A n c xs) := by
  have hl : xs.length = n := by have := hx.1; rw [length_ints] at this; omega
  subst hl
  go_enter Try.func267, Try.ntmps267
  go_wp2_with fail
  go_loopw [2, 3] (fun i j wr => ∃ a : Nat, a ≤ xs.length ∧ i = .int .i64 a ∧ j = .int .i64 ((xs.length : Int) - 1 - a) ∧ Own wr lo 2 1 A xs.length c (ints (revTo xs a)) ∧ Below lo w wr ∧ Hid (∀ b, blk A ≠ some b → wr.heap[b]? = w.heap[b]?)) (fun i _ _ => xs.length - (intOf i).toNat)
  case atStart => exact ⟨0, by omega, rfl, by simp, by rw [revTo_zero]; exact hx, Below.refl _ _, fun _ _ => rfl⟩
  case round =>
    obtain ⟨a, ha, rfl, rfl, ho, hb, hf⟩ := hrel
    by_cases hlt : a + a + 1 < xs.length
    · have hll : (ints (revTo xs a)).length = xs.length := by rw [length_ints, length_revTo]
      have h1 : a < (ints (revTo xs a)).length := by omega
      have h2 : xs.length - 1 - a < (ints (revTo xs a)).length := by omega
      obtain ⟨b, off, rfl, hlob, hbl, hc1, hf1⟩ := ho.at_ h1
      obtain ⟨b', off', he, _, _, hc2, hf2⟩ := ho.at_ h2
      simp only [Option.some.injEq, Addr.mk.injEq, and_true] at he
      obtain ⟨rfl, rfl⟩ := he
      rw [revTo_lo xs a hlt] at hc1
      rw [revTo_hi xs a hlt] at hc2
      have i1 : (a : Int) < (xs.length : Int) - 1 - a := by omega
      have i2 : (0 : Int) ≤ (xs.length : Int) - 1 - a := by omega
      have i3 : ((xs.length : Int) - 1 - a).toNat = xs.length - 1 - a := by omega
      have i4 : (xs.length : Int) - 1 - a < (xs.length : Int) := by omega
      have ne1 : ¬ off + a = off + (xs.length - 1 - a) := by omega
      have ne2 : ¬ off + (xs.length - 1 - a) = off + a := by omega
      have HLL := Lib.hid hll
      clear hll
      have ho2 := (ho.set_ h1 (.int .i64 (nth xs (xs.length - 1 - a)))).set_ (k := xs.length - 1 - a) (by rw [List.length_set]; exact h2) (.int .i64 (nth xs a))
      rw [ints_set, ints_set, revTo_next xs a hlt] at ho2
      have ho3 : Own ((wr.setCell ⟨b, off + a, none⟩ (.int .i64 (nth xs (xs.length - 1 - a)))).setCell ⟨b, off + (xs.length - 1 - a), none⟩ (.int .i64 (nth xs a))).drew lo 2 1 (some ⟨b, off, none⟩) xs.length c (ints (revTo xs (a + 1))) := ho2
      have hb3 : Below lo w ((wr.setCell ⟨b, off + a, none⟩ (.int .i64 (nth xs (xs.length - 1 - a)))).setCell ⟨b, off + (xs.length - 1 - a), none⟩ (.int .i64 (nth xs a))).drew := ((hb.setCell (p := ⟨b, off + a, none⟩) hlob _).setCell (p := ⟨b, off + (xs.length - 1 - a), none⟩) hlob _).drew
      have hf3 : Hid (∀ b', blk (some ⟨b, off, none⟩) ≠ some b' → ((wr.setCell ⟨b, off + a, none⟩ (.int .i64 (nth xs (xs.length - 1 - a)))).setCell ⟨b, off + (xs.length - 1 - a), none⟩ (.int .i64 (nth xs a))).drew.heap[b']? = w.heap[b']?) := fun b' hb' =>
        (Below.heap_setCell _ _ _ _ (fun e => hb' (by rw [e]; rfl))).trans ((Below.heap_setCell _ _ _ _ (fun e => hb' (by rw [e]; rfl))).trans (hf.out b' hb'))
      go_wp2_with fail
      go_region
      go_wp2_with fail
      exact ⟨⟨a + 1, by omega, by go_num, by go_num, ho3, hb3, hf3⟩, by simp [intOf]; omega⟩
    · have i1 : ¬ (a : Int) < (xs.length : Int) - 1 - a := by omega
      go_wp2_with fail
      go_end0
      have e1 := revTo_end xs a (by omega)
      rw [e1] at ho
      exact ⟨rfl, ho, hb, hf.out⟩

set_option maxHeartbeats 400000 in
theorem reversed_any (A : Option Addr) (n c : Nat) (xs : List Int) (w : World) (hx : SI w A n xs) (hn : n ≤ 1048576) :
    Calls Try.prog 199 #[.slice A n c] w (NewI w xs.reverse) := by
  have hl : xs.length ≤ 1048576 := by have := hx.len; omega
  go_enter Try.func199, Try.ntmps199
  go_wp2_with fail
  refine (cloneI_any _ _ _ xs _ hx hn).mono ?_
  rintro e w2 ⟨A2, c2, rfl, ho2, z2⟩
  go_wp2_with fail
  refine (reverse_any _ _ _ xs _ w.heap.size ho2 hl z2.size).mono ?_
  rintro e w3 ⟨rfl, ho3, z3, _⟩
  go_wp2_with fail
  go_ret
  exact ⟨A2, c2, by rw [List.length_reverse]; rfl, by rw [List.length_reverse]; exact ho3, z2.trans z3⟩
end Go.Proofs.Ytbpofkggoolmpaa

/-
  Contracts of impl's runner: runnerOf, symbol, at, rule, halts.
-/
namespace Go.Proofs.Ytbpofkggoolmpaa
open Go.RowKit

/-- A runner in memory. -/
def RunAt (w : World) (g : Nat) (sy st : Int) (A : Option Addr) (n k : Nat) (q : Int) (L : Option Addr) (m c : Nat) (R : Option Addr) (l d : Nat) : Prop :=
  Blk w g 250 #[.int .i64 sy, .int .i64 st, .slice A n k, .int .i64 q, .slice L m c, .slice R l d]

def NewRunner (w : World) (sy st : Int) (A : Option Addr) (n k : Nat) (q : Int) (xs ys : List Int) (e : Ending) (w' : World) : Prop :=
  ∃ g L c R d, e = .returned (.pointer (some ⟨g, 0, none⟩)) ∧ w.heap.size ≤ g ∧ RunAt w' g sy st A n k q L xs.length c R ys.length d ∧ Own w' w.heap.size 2 1 L xs.length c (ints xs.reverse) ∧ Own w' w.heap.size 2 1 R ys.length d (ints ys.reverse) ∧ (∀ b, blk L = some b → blk R ≠ some b) ∧ Below w.heap.size w w'

set_option maxHeartbeats 2000000 in
theorem runnerOf_any (sy st : Int) (A : Option Addr) (n k : Nat) (q : Int) (B : Option Addr) (m c : Nat) (xs : List Int) (C : Option Addr) (l d : Nat) (ys : List Int) (w : World) (hx : SI w B m xs) (hy : SI w C l ys) (hm : m ≤ 1048576) (hl : l ≤ 1048576) :
    Calls Try.prog 113 #[.agg #[.int .i64 sy, .int .i64 st, .slice A n k], .agg #[.int .i64 q, .slice B m c, .slice C l d]] w (NewRunner w sy st A n k q xs ys) := by
  obtain ⟨W, hW⟩ : ∃ W, W = (w.alloc (.cells #[.int .i64 sy, .int .i64 st, .slice A n k] 36)).alloc (.cells #[.int .i64 q, .slice B m c, .slice C l d] 50) := ⟨_, rfl⟩
  have s1 : (w.alloc (.cells #[.int .i64 sy, .int .i64 st, .slice A n k] 36)).heap.size = w.heap.size + 1 := by simp
  have b0 : Blk W w.heap.size 36 #[.int .i64 sy, .int .i64 st, .slice A n k] := by rw [hW]; exact (Blk.new w _ _).alloc _
  have b1 : Blk W (w.heap.size + 1) 50 #[.int .i64 q, .slice B m c, .slice C l d] := by rw [hW, ← s1]; exact Blk.new _ _ _
  have y0 : Below w.heap.size w W := by rw [hW]; exact ((Below.refl _ _).alloc (Nat.le_refl _) _).alloc (by simp) _
  have HW := Lib.hid hW
  clear hW s1
  have q0 : W.cell? ⟨w.heap.size, 0, none⟩ = some (.int .i64 sy) := b0.cell 0
  have q1 : W.cell? ⟨w.heap.size, 1, none⟩ = some (.int .i64 st) := b0.cell 1
  have q2 : W.cell? ⟨w.heap.size, 2, none⟩ = some (.slice A n k) := b0.cell 2
  have q3 : W.cell? ⟨w.heap.size + 1, 0, none⟩ = some (.int .i64 q) := b1.cell 0
  have q4 : W.cell? ⟨w.heap.size + 1, 1, none⟩ = some (.slice B m c) := b1.cell 1
  have q5 : W.cell? ⟨w.heap.size + 1, 2, none⟩ = some (.slice C l d) := b1.cell 2
  have hxW := (hx.below y0).drewN 1
  have hyW := (hy.below y0)
  have hxl : xs.length = m := hx.len
  have hyl : ys.length = l := hy.len
  have HXL := Lib.hid hxl
  have HYL := Lib.hid hyl
  clear hxl hyl
  go_enter Try.func113, Try.ntmps113
  go_wp2_with fail
  rw [← HW.out]
  go_region_held3 (fun w' => w'.cell? ⟨w.heap.size, 0, none⟩ = some (.int .i64 sy) ∧ w'.cell? ⟨w.heap.size, 1, none⟩ = some (.int .i64 st) ∧ w'.cell? ⟨w.heap.size, 2, none⟩ = some (.slice A n k) ∧
      w'.cell? ⟨w.heap.size + 1, 0, none⟩ = some (.int .i64 q) ∧ w'.cell? ⟨w.heap.size + 1, 1, none⟩ = some (.slice B m c) ∧ w'.cell? ⟨w.heap.size + 1, 2, none⟩ = some (.slice C l d))
    (first
      | (go_keep; done)
      | (exact ⟨(b0.below' z3).cell 0, (b0.below' z3).cell 1, (b0.below' z3).cell 2, (b1.below' z3).cell 0, (b1.below' z3).cell 1, (b1.below' z3).cell 2⟩)
      | (exact ⟨(b0.below' z2).cell 0, (b0.below' z2).cell 1, (b0.below' z2).cell 2, (b1.below' z2).cell 0, (b1.below' z2).cell 1, (b1.below' z2).cell 2⟩))
    (first
      | (go_at_call_of 199 (Value.slice B m c); refine (reversed_any _ _ _ xs _ hxW hm).mono ?_; rintro e w2 ⟨L, cl, rfl, ol, z2'⟩; have z2 : Below W.heap.size W w2 := below_undrew z2')
      | (go_at_call_of 199 (Value.slice C l d); refine (reversed_any _ _ _ ys _ (hyW.below z2) hl).mono ?_; rintro e w3 ⟨R, cr, rfl, or_, z3'⟩; have z3 : Below W.heap.size W w3 := z2.trans (z3'.mono z2.size)))
  go_wp2_with fail
  go_ret
  have hz : w.heap.size ≤ W.heap.size := y0.size
  have hz2 : W.heap.size ≤ w2.heap.size := z2.size
  have hz3 : w2.heap.size ≤ w3.heap.size := z3'.size
  rw [List.length_reverse] at ol or_
  have ol2 : Own w3 w.heap.size 2 1 L xs.length cl (ints xs.reverse) := (ol.below z3').mono (by exact hz)
  have or2 : Own w3 w.heap.size 2 1 R ys.length cr (ints ys.reverse) := or_.mono (by omega)
  refine ⟨w3.heap.size, L, cl, R, cr, rfl, by omega, Blk.new w3 _ _, ol2.alloc _, or2.alloc _, fun b h1 h2 => ?_, (y0.trans (z3.mono hz)).alloc (by omega) _⟩
  have h3 := ol.blk_lt b h1
  have h4 := or_.blk_ge b h2
  omega

set_option maxHeartbeats 400000 in
theorem nearest_any (A : Option Addr) (n c : Nat) (xs : List Int) (w : World) (hx : SI w A n xs) (hn : n ≤ 1048576) :
    Calls Try.prog 265 #[.slice A n c] w fun e w' => e = .returned (.int .i64 (lastI xs)) ∧ w = w' := by
  have HL := Lib.hid hx.len
  by_cases hn0 : n = 0
  · subst hn0
    have hx0 : xs = [] := List.eq_nil_of_length_eq_zero HL.out
    subst hx0
    go_enter Try.func265, Try.ntmps265
    go_wp2
    go_ret
    exact ⟨rfl, rfl⟩
  · obtain ⟨b, off, rfl, _, hc⟩ := last_at hx (by omega)
    have g0 : ((n : Int) == 0) = false := by simp; omega
    have i1 : (0 : Int) ≤ (n : Int) - 1 := by omega
    have i2 : ((n : Int) - 1).toNat = n - 1 := by omega
    go_enter Try.func265, Try.ntmps265
    go_wp2
    go_ret
    exact ⟨rfl, rfl⟩

set_option maxHeartbeats 400000 in
theorem symbol_any (g : Nat) (sy st : Int) (A : Option Addr) (n k : Nat) (q : Int) (L : Option Addr) (m c : Nat) (R : Option Addr) (l d : Nat) (ys : List Int) (w : World) (hr : RunAt w g sy st A n k q L m c R l d) (hy : SI w R l ys) (hl : l ≤ 1048576) :
    Calls Try.prog 294 #[.pointer (some ⟨g, 0, none⟩)] w fun e w' => e = .returned (.int .i64 (lastI ys)) ∧ w = w' := by
  have c5 : w.cell? ⟨g, 5, none⟩ = some (.slice R l d) := hr.cell 5
  go_enter Try.func294, Try.ntmps294
  go_wp2_with (go_at_call 265; refine (nearest_any _ _ _ ys _ hy hl).mono ?_; rintro e w' ⟨rfl, rfl⟩)
  go_ret
  exact ⟨rfl, rfl⟩

/-- The rule's index. -/
def atI (sy q : Int) (ys : List Int) : Int := q * sy + lastI ys

set_option maxHeartbeats 400000 in
theorem at_any (g : Nat) (sy st : Int) (A : Option Addr) (n k : Nat) (q : Int) (L : Option Addr) (m c : Nat) (R : Option Addr) (l d : Nat) (ys : List Int) (w : World) (hr : RunAt w g sy st A n k q L m c R l d) (hy : SI w R l ys) (hl : l ≤ 1048576)
    (h1 : 0 ≤ q * sy) (h2 : q * sy ≤ 1000000) (h3 : 0 ≤ lastI ys) (h4 : lastI ys ≤ 1000000) :
    Calls Try.prog 262 #[.pointer (some ⟨g, 0, none⟩)] w fun e w' => e = .returned (.int .i64 (atI sy q ys)) ∧ ∃ nq, w' = w.drewN nq := by
  have c0 : w.cell? ⟨g, 0, none⟩ = some (.int .i64 sy) := hr.cell 0
  have c3 : w.cell? ⟨g, 3, none⟩ = some (.int .i64 q) := hr.cell 3
  have w1 : IntKind.i64.wrap (q * sy) = q * sy := IntWalk.i64_in _ (by omega)
  have w2 : IntKind.i64.wrap (q * sy + lastI ys) = q * sy + lastI ys := IntWalk.i64_in _ (by omega)
  go_enter Try.func262, Try.ntmps262
  go_wp2_with fail
  go_quiet ((go_at_call 294; exact quiet_left (symbol_any _ _ _ _ _ _ _ _ _ _ _ _ _ ys _ (hr.drewN _) (hy.drewN _) hl)))
  clear w1 w2
  go_wp2_with fail
  go_ret
  exact ⟨rfl, _, rfl⟩
end Go.Proofs.Ytbpofkggoolmpaa
