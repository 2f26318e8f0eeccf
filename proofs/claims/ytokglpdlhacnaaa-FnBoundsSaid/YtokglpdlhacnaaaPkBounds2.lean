/-
  Contracts of the laws' helpers over []Rule: szRuleS, toRule, toRuleS, eqRule, eqRuleS, markRuleS.
-/
import Derived.Test.YtokglpdlhacnaaaPkBounds0
import Derived.Test.YtokglpdlhacnaaaPkBounds1
import Derived.Deep.RegionHeld3
import Derived.Deep.DeepCutAuto
import Derived.BigGuardPart
import Derived.RegionTactic
import Derived.Deep.RegionLaw
namespace Go.Proofs.Ytokglpdlhacnaaa
open Go.RowKit

theorem elR : Elem Try.prog 24 139 3 24 (.agg #[.int .i64 0, .int .i64 0, .int .i64 0]) := ⟨Try.underlying24, by kernel_rfl, rfl, by decide⟩

def ToR (w : World) (n : Nat) (rs : List R3) (e : Ending) (w' : World) : Prop :=
  ∃ A, e = .returned (.slice A n n) ∧ Own w' w.heap.size 139 3 A n n (cells3 rs) ∧ Below w.heap.size w w'

end Go.Proofs.Ytokglpdlhacnaaa

/-
  Contracts of impl's functions on machines: noRule, isRule, validRule, ValidMachine, validSide, configOf, ValidConfig.
-/
namespace Go.Proofs.Ytokglpdlhacnaaa
open Go.RowKit

theorem noRule_any (w : World) : Calls Try.prog 148 #[] w fun e w' => e = .returned (.agg #[.int .i64 0, .int .i64 0, .int .i64 (-1)]) ∧ Below w.heap.size w w' := by
  go_enter Try.func148, Try.ntmps148
  go_wp2
  exact bodyPost_ret (v := .agg #[.int .i64 0, .int .i64 0, .int .i64 (-1)]) (by simp [results, Try.results148, go_sem]) rfl ⟨rfl, (Below.refl _ _).alloc (Nat.le_refl _) _⟩

def isRuleB (r : R3) : Bool := decide (r ≠ ⟨0, 0, -1⟩)

theorem isRuleB_eq (a b c : Int) : isRuleB ⟨a, b, c⟩ = !((a == 0) && (b == 0) && (c == -1)) := by
  unfold isRuleB
  by_cases h0 : a = 0 <;> by_cases h1 : b = 0 <;> by_cases h2 : c = -1 <;> simp [h0, h1, h2]

set_option maxHeartbeats 1000000 in
theorem isRule_any (a b c : Int) (w : World) : Calls Try.prog 132 #[.agg #[.int .i64 a, .int .i64 b, .int .i64 c]] w fun e w' => e = .returned (.bool (isRuleB ⟨a, b, c⟩)) ∧ Below w.heap.size w w' := by
  obtain ⟨W, hW⟩ : ∃ W, W = w.alloc (.cells #[.int .i64 a, .int .i64 b, .int .i64 c] 139) := ⟨_, rfl⟩
  have b0 : Blk W w.heap.size 139 #[.int .i64 a, .int .i64 b, .int .i64 c] := by rw [hW]; exact Blk.new w _ _
  have y0 : Below w.heap.size w W := by rw [hW]; exact (Below.refl _ _).alloc (Nat.le_refl _) _
  have HW := Lib.hid hW
  clear hW
  have q0 : W.cell? ⟨w.heap.size, 0, none⟩ = some (.int .i64 a) := b0.cell 0
  have q1 : W.cell? ⟨w.heap.size, 1, none⟩ = some (.int .i64 b) := b0.cell 1
  have q2 : W.cell? ⟨w.heap.size, 2, none⟩ = some (.int .i64 c) := b0.cell 2
  cases h0 : (a == 0) <;> cases h1 : (b == 0) <;> cases h2 : (c == -1)
  all_goals
    have HE := Lib.hid (isRuleB_eq a b c)
    have H0 := Lib.hid h0
    have H1 := Lib.hid h1
    have H2 := Lib.hid h2
    go_enter Try.func132, Try.ntmps132
    go_wp2_with fail
    rw [← HW.out]
    go_region_held3 (fun w' => w'.cell? ⟨w.heap.size, 0, none⟩ = some (.int .i64 a) ∧ w'.cell? ⟨w.heap.size, 1, none⟩ = some (.int .i64 b) ∧ w'.cell? ⟨w.heap.size, 2, none⟩ = some (.int .i64 c))
      (first
        | (go_keep; done)
        | (exact ⟨(b0.below' hb2).cell 0, (b0.below' hb2).cell 1, (b0.below' hb2).cell 2⟩))
      (first
        | (go_at_call 148; refine (noRule_any _).mono ?_; rintro e w2 ⟨rfl, hb2'⟩; have hb2 : Below W.heap.size W w2 := below_undrew hb2'))
    go_wp2_with fail
    go_ret
    exact ⟨ret_bool (by rw [HE.out, H0.out, H1.out, H2.out]; rfl), y0.trans (hb2.mono y0.size)⟩

theorem isRule_is {a b c : Int} {v : Bool} (h : isRuleB ⟨a, b, c⟩ = v) (w : World) : Calls Try.prog 132 #[.agg #[.int .i64 a, .int .i64 b, .int .i64 c]] w fun e w' => e = .returned (.bool v) ∧ Below w.heap.size w w' := h ▸ isRule_any a b c w

def validRuleB (sy st : Int) (r : R3) : Bool := !isRuleB r || (inB r.a 0 (sy - 1) && ((r.b == -1) || (r.b == 1)) && inB r.c 0 (st - 1))

set_option maxHeartbeats 1000000 in
theorem validRule_any (sy st : Int) (A : Option Addr) (n k : Nat) (a b c : Int) (w : World) (h1 : 1 ≤ sy) (h2 : sy ≤ 100000) (h3 : 1 ≤ st) (h4 : st ≤ 100000) :
    Calls Try.prog 95 #[.agg #[.int .i64 sy, .int .i64 st, .slice A n k], .agg #[.int .i64 a, .int .i64 b, .int .i64 c]] w fun e w' => e = .returned (.bool (validRuleB sy st ⟨a, b, c⟩)) ∧ Below w.heap.size w w' := by
  obtain ⟨W, hW⟩ : ∃ W, W = (w.alloc (.cells #[.int .i64 sy, .int .i64 st, .slice A n k] 26)).alloc (.cells #[.int .i64 a, .int .i64 b, .int .i64 c] 139) := ⟨_, rfl⟩
  have s1 : (w.alloc (.cells #[.int .i64 sy, .int .i64 st, .slice A n k] 26)).heap.size = w.heap.size + 1 := by simp
  have b0 : Blk W w.heap.size 26 #[.int .i64 sy, .int .i64 st, .slice A n k] := by rw [hW]; exact (Blk.new w _ _).alloc _
  have b1 : Blk W (w.heap.size + 1) 139 #[.int .i64 a, .int .i64 b, .int .i64 c] := by rw [hW, ← s1]; exact Blk.new _ _ _
  have y0 : Below w.heap.size w W := by rw [hW]; exact ((Below.refl _ _).alloc (Nat.le_refl _) _).alloc (by simp) _
  have HW := Lib.hid hW
  clear hW s1
  go_enter Try.func95, Try.ntmps95
  go_wp2_with fail
  rw [← HW.out]
  cases hr : isRuleB ⟨a, b, c⟩
  · have HR := Lib.hid hr
    clear hr
    refine (isRule_is HR.out _).mono ?_
    rintro e w2 ⟨rfl, z2⟩
    go_wp2_with fail
    go_ret
    exact ⟨ret_bool (by unfold validRuleB; rw [HR.out]; rfl), y0.trans (z2.mono y0.size)⟩
  · have HR := Lib.hid hr
    clear hr
    refine (isRule_is HR.out _).mono ?_
    rintro e w2 ⟨rfl, z2⟩
    have c0 := b0.below' z2
    have c1 := b1.below' z2
    have q0 : w2.cell? ⟨w.heap.size, 0, none⟩ = some (.int .i64 sy) := c0.cell 0
    have q1 : w2.cell? ⟨w.heap.size, 1, none⟩ = some (.int .i64 st) := c0.cell 1
    have q2 : w2.cell? ⟨w.heap.size + 1, 0, none⟩ = some (.int .i64 a) := c1.cell 0
    have q3 : w2.cell? ⟨w.heap.size + 1, 1, none⟩ = some (.int .i64 b) := c1.cell 1
    have q4 : w2.cell? ⟨w.heap.size + 1, 2, none⟩ = some (.int .i64 c) := c1.cell 2
    go_wp2_with (go_at_call 42; refine (within_any _ _ _ _).mono ?_; rintro e w' ⟨rfl, rfl⟩)
    all_goals go_ret
    all_goals exact ⟨ret_bool (by unfold validRuleB; rw [HR.out]; simp [*]), y0.trans (z2.mono y0.size)⟩

/-- A machine behind a pointer. -/
def MachAt (w : World) (g : Nat) (sy st : Int) (A : Option Addr) (n k : Nat) : Prop :=
  w.cell? ⟨g, 0, none⟩ = some (.int .i64 sy) ∧ w.cell? ⟨g, 1, none⟩ = some (.int .i64 st) ∧ w.cell? ⟨g, 2, none⟩ = some (.slice A n k)
theorem MachAt.lt {w : World} {g : Nat} {sy st : Int} {A : Option Addr} {n k : Nat} (h : MachAt w g sy st A n k) : g < w.heap.size := World.block_lt_of_cell? w _ h.1
theorem MachAt.below {w w' : World} {g : Nat} {sy st : Int} {A : Option Addr} {n k : Nat} (h : MachAt w g sy st A n k) (hb : Below w.heap.size w w') : MachAt w' g sy st A n k :=
  ⟨(hb.cell (p := ⟨g, 0, none⟩) h.lt).trans h.1, (hb.cell (p := ⟨g, 1, none⟩) h.lt).trans h.2.1, (hb.cell (p := ⟨g, 2, none⟩) h.lt).trans h.2.2⟩
theorem MachAt.drewN {w : World} {g : Nat} {sy st : Int} {A : Option Addr} {n k : Nat} (h : MachAt w g sy st A n k) (q : Nat) : MachAt (w.drewN q) g sy st A n k := h
theorem Blk.machAt {w : World} {g : Nat} {t : TypeId} {sy st : Int} {A : Option Addr} {n k : Nat} (h : Blk w g t #[.int .i64 sy, .int .i64 st, .slice A n k]) : MachAt w g sy st A n k := ⟨h.cell 0, h.cell 1, h.cell 2⟩

set_option maxHeartbeats 400000 in
theorem validMachine1_any (g : Nat) (sy st : Int) (A : Option Addr) (n k : Nat) (a b c : Int) (w : World) (hm : MachAt w g sy st A n k) (h1 : 1 ≤ sy) (h2 : sy ≤ 100000) (h3 : 1 ≤ st) (h4 : st ≤ 100000) :
    Calls Try.prog 94 #[.agg #[.int .i64 a, .int .i64 b, .int .i64 c], .pointer (some ⟨g, 0, none⟩)] w fun e w' => e = .returned (.bool (!validRuleB sy st ⟨a, b, c⟩)) ∧ Below w.heap.size w w' := by
  have y0 : Below w.heap.size w (w.alloc (.cells #[.int .i64 a, .int .i64 b, .int .i64 c] 139)) := (Below.refl _ _).alloc (Nat.le_refl _) _
  obtain ⟨k0, k1, k2⟩ := hm.below y0
  go_enter Try.func94, Try.ntmps94
  go_wp2_with fail
  refine (validRule_any _ _ _ _ _ _ _ _ _ h1 h2 h3 h4).mono ?_
  rintro e w2 ⟨rfl, z2⟩
  go_wp2_with fail
  go_ret
  exact ⟨rfl, y0.trans (z2.mono (by simp))⟩

def firstR (p : R3 → Bool) (rs : List R3) : Int := match rs.findIdx? p with | some k => k | none => -1
theorem firstR_at {p : R3 → Bool} {rs : List R3} {r : R3} {k : Nat} (hT : rs[k]? = some r) (h : p r = true) (he : (rs.take k).any p = false) : (k : Int) = firstR p rs := by
  unfold firstR
  obtain ⟨hk, rfl⟩ := List.getElem?_eq_some_iff.1 hT
  have : rs.findIdx? p = some k := by
    rw [List.findIdx?_eq_some_iff_getElem]
    refine ⟨hk, h, fun j hj => ?_⟩
    rw [List.any_eq_false] at he
    have := he (rs[j]'(by omega)) (by rw [List.mem_take_iff_getElem]; exact ⟨j, by omega, rfl⟩)
    simpa using this
  rw [this]
theorem firstR_none {p : R3 → Bool} {rs : List R3} {k n : Nat} (hk : n ≤ k) (hl : rs.length = n) (he : (rs.take k).any p = false) : -1 = firstR p rs := by
  unfold firstR
  rw [List.take_of_length_le (by omega)] at he
  have : rs.findIdx? p = none := by
    rw [List.findIdx?_eq_none_iff]
    intro x hx
    rw [List.any_eq_false] at he
    simpa using he x hx
  rw [this]
theorem firstR_next {p : R3 → Bool} {rs : List R3} {r : R3} {k : Nat} (hT : rs[k]? = some r) (h : p r = false) (he : (rs.take k).any p = false) : (rs.take (k + 1)).any p = false := by
  obtain ⟨hk, rfl⟩ := List.getElem?_eq_some_iff.1 hT
  rw [List.take_succ_eq_append_getElem hk, List.any_append, he]
  simpa using h
theorem firstR_ge (p : R3 → Bool) (rs : List R3) : decide (0 ≤ firstR p rs) = rs.any p := by
  unfold firstR
  cases h : rs.findIdx? p with
  | some k =>
    obtain ⟨hk, hp, _⟩ := List.findIdx?_eq_some_iff_getElem.1 h
    have : rs.any p = true := List.any_eq_true.2 ⟨_, List.getElem_mem hk, hp⟩
    rw [this]; simp
  | none =>
    have : rs.any p = false := by rw [List.any_eq_false]; intro x hx; simpa using List.findIdx?_eq_none_iff.1 h x hx
    rw [this]; simp

set_option maxHeartbeats 400000 in
theorem indexFuncR_any (A : Option Addr) (n c : Nat) (rs : List R3) (f : FuncId) (cp : Value) (p : R3 → Bool) (w : World) (hx : S3 w A n rs) (hn : n ≤ 9223372036854775807) (hcall : ∀ (args : Array Value) (w : World), (callFunc f args).run Try.prog w = .ok (.enter f args) w)
    (hf : Hid (∀ r ∈ rs, ∀ w1, Below w.heap.size w w1 → Calls Try.prog f #[.agg #[.int .i64 r.a, .int .i64 r.b, .int .i64 r.c], cp] w1 fun e w' => e = .returned (.bool (p r)) ∧ Below w1.heap.size w1 w')) :
    Calls Try.prog 131 #[.slice A n c, .func (.func f) #[] #[cp]] w fun e w' => e = .returned (.int .i64 (firstR p rs)) ∧ Below w.heap.size w w' := by
  go_enter Try.func131, Try.ntmps131
  go_wp2
  go_loopw [8] (fun i wr => ∃ k : Nat, k ≤ n ∧ i = .int .i64 k ∧ Hid ((rs.take k).any p = false) ∧ Below w.heap.size w wr) (fun i _ => n - (intOf i).toNat)
  case atStart => exact ⟨0, by omega, rfl, rfl, Below.refl _ _⟩
  case round =>
    obtain ⟨k, hk, rfl, he, hb⟩ := hrel
    by_cases hlt : k < n
    · obtain ⟨r, b, off, hR, hrm, rfl, hbl, q0, q1, q2⟩ := (hx.below hb).pick hlt
      go_wp2_with fail
      refine (hf.out r hrm _ hb).mono ?_
      rintro e w2 ⟨rfl, z2⟩
      have y2 : Below w.heap.size w w2 := hb.trans (z2.mono hb.size)
      cases hp : p r
      · have HP := Lib.hid hp
        clear hp
        go_wp2_with fail
        exact ⟨⟨k + 1, by omega, by go_num, firstR_next hR.out HP.out he.out, y2⟩, by simp [intOf]; omega⟩
      · have HP := Lib.hid hp
        clear hp
        go_wp2_with fail
        go_ret
        exact ⟨ret_int (firstR_at hR.out HP.out he.out), y2⟩
    · go_wp2
      go_ret
      exact ⟨ret_int (firstR_none (by omega) hx.len he.out), hb⟩

set_option maxHeartbeats 400000 in
theorem containsFuncR_any (A : Option Addr) (n c : Nat) (rs : List R3) (f : FuncId) (cp : Value) (p : R3 → Bool) (w : World) (hx : S3 w A n rs) (hn : n ≤ 9223372036854775807) (hcall : ∀ (args : Array Value) (w : World), (callFunc f args).run Try.prog w = .ok (.enter f args) w)
    (hf : Hid (∀ r ∈ rs, ∀ w1, Below w.heap.size w w1 → Calls Try.prog f #[.agg #[.int .i64 r.a, .int .i64 r.b, .int .i64 r.c], cp] w1 fun e w' => e = .returned (.bool (p r)) ∧ Below w1.heap.size w1 w')) :
    Calls Try.prog 93 #[.slice A n c, .func (.func f) #[] #[cp]] w fun e w' => e = .returned (.bool (rs.any p)) ∧ Below w.heap.size w w' := by
  go_enter Try.func93, Try.ntmps93
  go_wp2_with (go_at_call 131; refine (indexFuncR_any _ _ _ rs _ _ p _ hx hn hcall hf).mono ?_; rintro e w' ⟨rfl, hb⟩)
  go_ret
  exact ⟨ret_bool (firstR_ge p rs), hb⟩

theorem sizeR_any (A : Option Addr) (n c : Nat) (w : World) (_h : n ≤ 9223372036854775807) :
    Calls Try.prog 92 #[.slice A n c] w fun e w' => e = .returned (.int .i64 n) ∧ w = w' := by
  go_enter Try.func92, Try.ntmps92
  go_wp2
  go_ret
  exact ⟨rfl, rfl⟩

def machB (sy st : Int) (rs : List R3) : Bool := inB sy 2 6 && inB st 1 1000 && decide ((rs.length : Int) = st * sy) && rs.all (validRuleB sy st)

set_option maxHeartbeats 600000 in
theorem validMachine_any (sy st : Int) (A : Option Addr) (n k : Nat) (rs : List R3) (w : World) (hx : S3 w A n rs) (hn : n ≤ 1048576) :
    Calls Try.prog 40 #[.agg #[.int .i64 sy, .int .i64 st, .slice A n k]] w fun e w' => e = .returned (.bool (machB sy st rs)) ∧ Below w.heap.size w w' := by
  obtain ⟨W, hW⟩ : ∃ W, W = w.alloc (.cells #[.int .i64 sy, .int .i64 st, .slice A n k] 26) := ⟨_, rfl⟩
  have b0 : Blk W w.heap.size 26 #[.int .i64 sy, .int .i64 st, .slice A n k] := by rw [hW]; exact Blk.new w _ _
  have y0 : Below w.heap.size w W := by rw [hW]; exact (Below.refl _ _).alloc (Nat.le_refl _) _
  have HW := Lib.hid hW
  clear hW
  have HL := Lib.hid hx.len
  have q0 : W.cell? ⟨w.heap.size, 0, none⟩ = some (.int .i64 sy) := b0.cell 0
  have q1 : W.cell? ⟨w.heap.size, 1, none⟩ = some (.int .i64 st) := b0.cell 1
  have q2 : W.cell? ⟨w.heap.size, 2, none⟩ = some (.slice A n k) := b0.cell 2
  cases hs : inB sy 2 6
  · have HS := Lib.hid hs
    go_enter Try.func40, Try.ntmps40
    go_wp2_with fail
    rw [← HW.out]
    go_quiet ((go_at_call 42; exact quiet_left (within_any _ _ _ _)))
    go_wp2_with fail
    go_ret
    exact ⟨ret_bool (by unfold machB; rw [HS.out]; rfl), below_drewN y0 _⟩
  cases ht : inB st 1 1000
  · have HS := Lib.hid hs
    have HT := Lib.hid ht
    go_enter Try.func40, Try.ntmps40
    go_wp2_with fail
    rw [← HW.out]
    go_quiet ((go_at_call 42; exact quiet_left (within_any _ _ _ _)))
    go_wp2_with fail
    go_ret
    exact ⟨ret_bool (by unfold machB; rw [HS.out, HT.out]; rfl), below_drewN y0 _⟩
  have hs' := (inB_iff _ _ _).1 hs
  have ht' := (inB_iff _ _ _).1 ht
  have HS := Lib.hid hs
  have HT := Lib.hid ht
  obtain ⟨s1, s2⟩ := hs'
  obtain ⟨t1, t2⟩ := ht'
  have hmul : 0 ≤ st * sy ∧ st * sy ≤ 6000 := by
    constructor
    · exact Int.mul_nonneg (by omega) (by omega)
    · have h1 : st * sy ≤ 1000 * sy := Int.mul_le_mul_of_nonneg_right t2 (by omega)
      have h2 : (1000 : Int) * sy ≤ 1000 * 6 := Int.mul_le_mul_of_nonneg_left s2 (by omega)
      omega
  obtain ⟨m1, m2⟩ := hmul
  have hwr : IntKind.i64.wrap (st * sy) = st * sy := IntWalk.i64_in _ (by omega)
  cases hne : ((n : Int) != st * sy)
  · have HNE := Lib.hid hne
    go_enter Try.func40, Try.ntmps40
    go_wp2_with fail
    rw [← HW.out]
    go_quiet ((first | (go_at_call 42; exact quiet_left (within_any _ _ _ _)) | (go_at_call 92; exact quiet_left (sizeR_any _ _ _ _ (by omega)))))
    clear hwr hne
    go_wp2_with fail
    have hmA : MachAt (W.drewN nq) w.heap.size sy st A n k := b0.machAt
    have yq : Below w.heap.size w (W.drewN nq) := below_drewN y0 nq
    refine (containsFuncR_any _ _ _ rs _ _ (fun r => !validRuleB sy st r) _ ((hx.below y0).drewN nq) (by omega) Try.call94 (fun r _ w1 hb1 => validMachine1_any _ _ _ _ _ _ _ _ _ _ (hmA.below hb1) (by omega) (by omega) (by omega) (by omega))).mono ?_
    rintro e w2 ⟨rfl, z2⟩
    go_wp2_with fail
    go_ret
    refine ⟨ret_bool ?_, yq.trans (z2.mono yq.size)⟩
    have h := HNE.out
    unfold machB
    rw [HS.out, HT.out, HL.out]
    simp at h
    rw [List.not_any_eq_all_not]
    simp [h]
  · have HNE := Lib.hid hne
    go_enter Try.func40, Try.ntmps40
    go_wp2_with fail
    rw [← HW.out]
    go_quiet ((first | (go_at_call 42; exact quiet_left (within_any _ _ _ _)) | (go_at_call 92; exact quiet_left (sizeR_any _ _ _ _ (by omega)))))
    clear hwr
    go_wp2_with fail
    go_ret
    exact ⟨ret_bool (by have h := HNE.out; unfold machB; rw [HS.out, HT.out, HL.out]; simp at h; simp [h]), below_drewN y0 _⟩

/-- The last number, or 0. -/
def lastI (xs : List Int) : Int := xs.getLastD 0
/-- One side of a tape: its numbers are symbols, the last is not 0. -/
def sideB (xs : List Int) (sy most : Int) : Bool := decide ((xs.length : Int) ≤ most) && allIn xs 0 (sy - 1) && (decide (xs = []) || (lastI xs != 0))
theorem last_at {w : World} {A : Option Addr} {n : Nat} {xs : List Int} (h : SI w A n xs) (hn : 0 < n) : ∃ b off, A = some ⟨b, off, none⟩ ∧ b < w.heap.size ∧ w.cell? ⟨b, off + (n - 1), none⟩ = some (.int .i64 (lastI xs)) := by
  obtain ⟨b, off, e, hlt, hc⟩ := h.at_ (k := n - 1) (by omega)
  refine ⟨b, off, e, hlt, ?_⟩
  rw [hc]
  have hl := h.len
  subst hl
  unfold lastI
  rw [List.getLastD_eq_getLast?, List.getLast?_eq_getElem?, List.getElem?_eq_getElem (by omega)]
  rfl

end Go.Proofs.Ytokglpdlhacnaaa

/-
  Contracts of impl's functions on configurations: configOf, ValidConfig.
-/
namespace Go.Proofs.Ytokglpdlhacnaaa
open Go.RowKit

def confB (sy st q : Int) (xs ys : List Int) : Bool := inB q 0 (st - 1) && sideB xs sy 200 && sideB ys sy 200

def validConfB (sy st : Int) (rs : List R3) (q : Int) (xs ys : List Int) : Bool := machB sy st rs && confB sy st q xs ys
theorem machB_parts {sy st : Int} {rs : List R3} (h : machB sy st rs = true) : 2 ≤ sy ∧ sy ≤ 6 ∧ 1 ≤ st ∧ st ≤ 1000 ∧ (rs.length : Int) = st * sy ∧ ∀ r ∈ rs, validRuleB sy st r = true := by
  unfold machB at h
  simp only [Bool.and_eq_true, inB_iff, decide_eq_true_eq, List.all_eq_true] at h
  exact ⟨h.1.1.1.1, h.1.1.1.2, h.1.1.2.1, h.1.1.2.2, h.1.2, h.2⟩

end Go.Proofs.Ytokglpdlhacnaaa

/-
  Contracts of the reference's smallest functions: l00In, l00Own.
-/
namespace Go.Proofs.Ytokglpdlhacnaaa
open Go.RowKit

set_option maxHeartbeats 400000 in
theorem l00In_any (n lo hi : Int) (w : World) :
    Calls Try.prog 110 #[.int .i64 n, .int .i64 lo, .int .i64 hi] w fun e w' => e = .returned (.bool (inB n lo hi)) ∧ w = w' := by
  by_cases h1 : lo ≤ n <;> by_cases h2 : n ≤ hi
  all_goals
    go_enter Try.func110, Try.ntmps110
    go_wp2
    go_ret
    exact ⟨ret_bool (by simp [inB]; omega), rfl⟩

theorem l00In_is {n lo hi : Int} {b : Bool} (h : inB n lo hi = b) (w : World) :
    Calls Try.prog 110 #[.int .i64 n, .int .i64 lo, .int .i64 hi] w fun e w' => e = .returned (.bool b) ∧ w = w' := h ▸ l00In_any n lo hi w

set_option maxHeartbeats 400000 in
theorem l00Own_any (A : Option Addr) (n c : Nat) (xs : List Int) (w : World) (hx : SI w A n xs) (hn : n ≤ 1048576) :
    Calls Try.prog 91 #[.slice A n c] w (NewI w xs) := by
  have HL := Lib.hid hx.len
  go_enter Try.func91, Try.ntmps91
  go_wp2_with (at_builtin; refine wpList_append_Own rfl (.tmp 3) (.tmp 4) rfl elI (lo := w.heap.size) rfl (Own.lit0 w _ 1) rfl (Rd.alloc hx _) (ints_one xs) (by omega) (by simp only [maxLen]; omega) (by simp) ?_; intro A2 c2 w2 ho2 hg2 _)
  go_ret
  have hbb := (Own.lit0 w 2 1).below_of ((Below.refl _ _).alloc (Nat.le_refl _) _) hg2 (by simp)
  simp only [List.nil_append] at ho2
  refine ⟨A2, c2, ?_, ?_, hbb⟩
  · rw [HL.out]; simp
  · rw [HL.out]; simpa using ho2

end Go.Proofs.Ytokglpdlhacnaaa

/-
  Contracts of the reference's functions on machines: l05None, l05Rule, l05Is.
-/
namespace Go.Proofs.Ytokglpdlhacnaaa
open Go.RowKit

theorem l05None_any (w : World) : Calls Try.prog 89 #[] w fun e w' => e = .returned (.agg #[.int .i64 0, .int .i64 0, .int .i64 (-1)]) ∧ Below w.heap.size w w' := by
  go_enter Try.func89, Try.ntmps89
  go_wp2
  exact bodyPost_ret (v := .agg #[.int .i64 0, .int .i64 0, .int .i64 (-1)]) (by simp [results, Try.results89, go_sem]) rfl ⟨rfl, (Below.refl _ _).alloc (Nat.le_refl _) _⟩

theorem validRuleB_no {sy st : Int} {r : R3} (h : isRuleB r = false) : true = validRuleB sy st r := by unfold validRuleB; rw [h]; rfl
theorem validRuleB_eq {sy st a b c : Int} (h : isRuleB ⟨a, b, c⟩ = true) : validRuleB sy st ⟨a, b, c⟩ = (inB a 0 (sy - 1) && ((b == -1) || (b == 1)) && inB c 0 (st - 1)) := by unfold validRuleB; rw [h]; rfl

end Go.Proofs.Ytokglpdlhacnaaa

/-
  Contracts of the reference's functions on machines: l05Is, l05Cells, l05Good.
-/
namespace Go.Proofs.Ytokglpdlhacnaaa
open Go.RowKit

theorem all_not {sy st : Int} {rs : List R3} {r : R3} {k : Nat} (hT : rs[k]? = some r) (h : validRuleB sy st r = false) : rs.all (validRuleB sy st) = false := by
  rw [List.all_eq_false]; exact ⟨r, List.mem_of_getElem? hT, by simp [h]⟩
theorem all_next {sy st : Int} {rs : List R3} {r : R3} {k : Nat} (hT : rs[k]? = some r) (h : validRuleB sy st r = true) (he : (rs.take k).all (validRuleB sy st) = true) : (rs.take (k + 1)).all (validRuleB sy st) = true := by
  obtain ⟨hk, rfl⟩ := List.getElem?_eq_some_iff.1 hT
  rw [List.take_succ_eq_append_getElem hk, List.all_append, he]
  simpa using h
theorem machB_of {sy st : Int} {rs : List R3} {n : Nat} {b : Bool} (hl : rs.length = n) (h1 : inB sy 2 6 = true) (h2 : inB st 1 1000 = true) (h3 : ((n : Int) != sy * st) = false) (h : rs.all (validRuleB sy st) = b) : b = machB sy st rs := by
  unfold machB
  rw [h1, h2, hl, h]
  simp at h3
  have : (n : Int) = st * sy := by rw [h3, Int.mul_comm]
  simp [this]

theorem side_at {xs : List Int} {sy : Int} {k n : Nat} (hk : k < n) (hl : xs.length = n) (h : (!inB (xs[k]'(by omega)) 0 (sy - 1)) = true) : false = sideB xs sy 200 := by
  have := allIn_at hk hl h
  unfold sideB; rw [← this]; simp

/-- A configuration behind a pointer. -/
def ConfAt (w : World) (g : Nat) (q : Int) (L : Option Addr) (m c : Nat) (R : Option Addr) (l d : Nat) : Prop :=
  w.cell? ⟨g, 0, none⟩ = some (.int .i64 q) ∧ w.cell? ⟨g, 1, none⟩ = some (.slice L m c) ∧ w.cell? ⟨g, 2, none⟩ = some (.slice R l d)
theorem ConfAt.lt {w : World} {g : Nat} {q : Int} {L : Option Addr} {m c : Nat} {R : Option Addr} {l d : Nat} (h : ConfAt w g q L m c R l d) : g < w.heap.size := World.block_lt_of_cell? w _ h.1
theorem ConfAt.below {w w' : World} {g : Nat} {q : Int} {L : Option Addr} {m c : Nat} {R : Option Addr} {l d : Nat} (h : ConfAt w g q L m c R l d) (hb : Below w.heap.size w w') : ConfAt w' g q L m c R l d :=
  ⟨(hb.cell (p := ⟨g, 0, none⟩) h.lt).trans h.1, (hb.cell (p := ⟨g, 1, none⟩) h.lt).trans h.2.1, (hb.cell (p := ⟨g, 2, none⟩) h.lt).trans h.2.2⟩
theorem ConfAt.drewN {w : World} {g : Nat} {q : Int} {L : Option Addr} {m c : Nat} {R : Option Addr} {l d : Nat} (h : ConfAt w g q L m c R l d) (k : Nat) : ConfAt (w.drewN k) g q L m c R l d := h
theorem Blk.confAt {w : World} {g : Nat} {t : TypeId} {q : Int} {L : Option Addr} {m c : Nat} {R : Option Addr} {l d : Nat} (h : Blk w g t #[.int .i64 q, .slice L m c, .slice R l d]) : ConfAt w g q L m c R l d := ⟨h.cell 0, h.cell 1, h.cell 2⟩

end Go.Proofs.Ytokglpdlhacnaaa

/-
  The reference's l05DrawSize: a machine of some size.
-/
namespace Go.Proofs.Ytokglpdlhacnaaa
open Go.RowKit

theorem rd_rule3 (w : World) (r : R3) : Rd (w.alloc (.cells #[.int .i64 r.a, .int .i64 r.b, .int .i64 r.c] 139)) 3 (some ⟨w.heap.size, 0, none⟩) 1 [.int .i64 r.a, .int .i64 r.b, .int .i64 r.c] := by
  refine ⟨rfl, fun h => ⟨w.heap.size, 0, rfl, fun k hk => ?_⟩⟩
  have hb := Blk.new w 139 #[.int .i64 r.a, .int .i64 r.b, .int .i64 r.c]
  have hk3 : k < 3 := hk
  rcases k with _ | _ | _ | k
  · exact hb.cell 0
  · exact hb.cell 1
  · exact hb.cell 2
  · omega
theorem cells3_more (xs : List R3) (r : R3) : cells3 xs ++ [.int .i64 r.a, .int .i64 r.b, .int .i64 r.c] = cells3 (xs ++ [r]) := by simp [cells3, R3.cells]
theorem Kb.set_up {b : Nat} {a W : World} (h : Kb b a W) {p : Addr} (hp : a.heap.size ≤ p.block) (u : Value) : Kb b a (W.setCell p u) :=
  ⟨h.os, h.tape, h.output, by simpa [World.setCell] using h.size, fun k hk hy => (Below.heap_setCell W p u k (by omega)).trans (h.block k hk hy)⟩
theorem Src.keepB {b : Nat} {A : Option Addr} {n c T : Nat} {W W' : World} (h : Src b A n c T W) (k : W'.heap[b]? = W.heap[b]?) : Src b A n c T W' := by
  obtain ⟨a, s, h1, h2, h3, h4⟩ := h
  exact ⟨a, s, h1, h2, h3, k.trans h4⟩
theorem Src.lt {b : Nat} {A : Option Addr} {n c T : Nat} {W : World} (h : Src b A n c T W) : b < W.heap.size := by
  obtain ⟨a, s, h1, h2, h3, h4⟩ := h
  exact h4.lt
theorem Src.grown' {b lo s n0 c0 : Nat} {e : TypeId} {E : Option Addr} {xs : List Value} {A : Option Addr} {n c T : Nat} {W W' : World} (h : Src b A n c T W) (ho : Own W lo e s E n0 c0 xs) (hb : b < lo) (hg : W.grownBy W' (blk E)) : Src b A n c T W' :=
  h.keepB (hg.block b h.lt (fun e => by have := ho.blk_ge b e.symm; omega))
/-- A machine of some size was drawn. -/
def DrewM (b : Nat) (A : Option Addr) (n c T : Nat) (sy st : Int) (w : World) (e : Ending) (w' : World) : Prop :=
  ∃ R rc rs, e = .returned (.agg #[.int .i64 sy, .int .i64 st, .slice R rs.length rc]) ∧ Own w' w.heap.size 139 3 R rs.length rc (cells3 rs) ∧ machB sy st rs = true ∧ Src b A n c T w' ∧ Kb b w w'
theorem drawn_valid {sy st a d c : Int} (ha0 : 0 ≤ a) (ha1 : a < sy) (hd : d = 0 ∨ d = 1) (hc0 : 0 ≤ c) (hc1 : c < st) : validRuleB sy st ⟨a, 2 * d - 1, c⟩ = true := by
  unfold validRuleB
  have h1 : inB a 0 (sy - 1) = true := (inB_iff _ _ _).2 (by omega)
  have h2 : inB c 0 (st - 1) = true := (inB_iff _ _ _).2 (by omega)
  rw [h1, h2]
  rcases hd with rfl | rfl <;> simp
theorem none_valid (sy st : Int) : validRuleB sy st ⟨0, 0, -1⟩ = true := by
  unfold validRuleB isRuleB; simp
set_option maxRecDepth 100000 in
set_option maxHeartbeats 8000000 in
theorem drawSize_any (b : Nat) (A : Option Addr) (n c T : Nat) (xs : List Int) (sy st : Int) (w : World) (hx : SB w A n xs) (hA : ∀ k, blk A = some k → k ≠ b) (hs : Src b A n c T w) (hb : b < w.heap.size) (hT : T ≤ 1000000) (hn : n ≤ 9223372036854775807) (h1 : 2 ≤ sy) (h2 : sy ≤ 6) (h3 : 1 ≤ st) (h4 : st ≤ 50) :
    Calls Try.prog 37 #[.pointer (some ⟨b, 0, none⟩), .int .i64 sy, .int .i64 st] w (DrewM b A n c (T + 3000) sy st w) := by
  have HX := Lib.hid hx
  have HA := Lib.hid hA
  have HSY := Lib.hid (⟨h1, h2, h3, h4⟩ : 2 ≤ sy ∧ sy ≤ 6 ∧ 1 ≤ st ∧ st ≤ 50)
  obtain ⟨N, hN⟩ : ∃ N : Nat, sy * st = (N : Int) := ⟨(sy * st).toNat, by have := Int.mul_nonneg (show 0 ≤ sy by omega) (show 0 ≤ st by omega); omega⟩
  have hN2 : N ≤ 300 := by have := Int.mul_le_mul h2 h4 (by omega) (by omega); omega
  have HN := Lib.hid hN
  have iN : IntKind.i64.wrap (sy * st) = (N : Int) := by rw [hN]; exact IntWalk.i64_in _ (by omega)
  obtain ⟨V, hW_⟩ : ∃ W, W = (w.alloc (.cells #[.int .i64 0, .int .i64 0, .slice none 0 0] 26)).alloc (.cells #[.int .i64 sy, .int .i64 st, .slice none 0 0] 26) := ⟨_, rfl⟩
  have s_1 : (w.alloc (.cells #[.int .i64 0, .int .i64 0, .slice none 0 0] 26)).heap.size = w.heap.size + 1 := by simp
  have c0 : Blk V w.heap.size 26 #[.int .i64 0, .int .i64 0, .slice none 0 0] := by rw [hW_]; exact (Blk.new w _ _).alloc _
  have c1 : Blk V (w.heap.size + 1) 26 #[.int .i64 sy, .int .i64 st, .slice none 0 0] := by rw [hW_, ← s_1]; exact Blk.new _ _ _
  have y0 : Below w.heap.size w V := by rw [hW_]; exact ((Below.refl _ _).alloc (Nat.le_refl _) _).alloc (by simp) _
  have HV := Lib.hid hW_
  clear hW_ s_1
  have HS0 := Lib.hid (hs.below y0)
  have HK0 : Hid (Kb b w V) := Lib.hid (Kb.of_below y0)
  have HC0 := Lib.hid c0
  clear hx hA hs hN y0 c0
  go_enter Try.func37, Try.ntmps37
  go_upto_region 2 with fail
  rw [← HV.out]
  go_wp2_with fail
  go_loopw [8] (fun i wr => ∃ (j : Nat) (R : Option Addr) (rc : Nat) (rs : List R3), j ≤ N ∧ i = .int .i64 (j : Int) ∧ Hid (rs.length + j = N) ∧ Hid (Blk wr (w.heap.size + 1) 26 #[.int .i64 sy, .int .i64 st, .slice R rs.length rc]) ∧ Hid (Own wr w.heap.size 139 3 R rs.length rc (cells3 rs)) ∧ Hid (∀ r ∈ rs, validRuleB sy st r = true) ∧ Hid (Src b A n c (T + 8 * rs.length) wr) ∧ Hid (Kb b w wr) ∧ Hid (Blk wr w.heap.size 26 #[.int .i64 0, .int .i64 0, .slice none 0 0])) (fun i _ => (intOf i).toNat)
  case atStart => exact ⟨N, none, 0, [], Nat.le_refl _, rfl, Lib.hid (by simp), Lib.hid c1, Lib.hid Own.nil, Lib.hid (by simp), HS0, HK0, HC0⟩
  case round =>
    obtain ⟨j, R, rc, rs, hj, rfl, HL, HB, HO, HV, HS, HK, HC⟩ := hrel
    rename World => W0
    clear c1 HS0 HK0 HC0 iN
    have hrl : rs.length ≤ 300 := by have := HL.out; omega
    by_cases hj0 : 0 < j
    · have HX0 := Lib.hid (HX.out.kb HK.out HA.out)
      go_wp2_with fail
      refine (pick_any b A n c (T + 8 * rs.length) xs sy _ HX0.out HA.out HS.out (by omega) hn (by omega) (by omega)).mono ?_
      rintro e1 w1 ⟨x1, rfl, hx10, hx11, hs1, hk1⟩
      have HX1 := Lib.hid (HX0.out.kb hk1 HA.out)
      go_wp2_with fail
      refine (pick_any b A n c (T + 8 * rs.length + 2) xs 2 _ HX1.out HA.out hs1 (by omega) hn (by omega) (by omega)).mono ?_
      rintro e2 w2 ⟨x2, rfl, hx20, hx21, hs2, hk2⟩
      have HX2 := Lib.hid (HX1.out.kb hk2 HA.out)
      go_wp2_with fail
      refine (pick_any b A n c (T + 8 * rs.length + 2 + 2) xs st _ HX2.out HA.out hs2 (by omega) hn (by omega) (by omega)).mono ?_
      rintro e3 w3 ⟨x3, rfl, hx30, hx31, hs3, hk3⟩
      have HX3 := Lib.hid (HX2.out.kb hk3 HA.out)
      have hk03 := (hk1.trans hk2).trans hk3
      have HK03 := Lib.hid hk03
      have HVR : Hid (validRuleB sy st ⟨x1, 2 * x2 - 1, x3⟩ = true) := Lib.hid (drawn_valid hx10 (by omega) (by omega) hx30 (by omega))
      have HS3 := Lib.hid hs3
      have HMW : Hid (w.heap.size + 1 < W0.heap.size) := Lib.hid HB.out.lt
      have HSZ : Hid (W0.heap.size ≤ w3.heap.size) := Lib.hid HK03.out.size
      have HR3 : Hid (∀ x, blk R = some x → x < w3.heap.size) := Lib.hid (fun x hx => Nat.lt_of_lt_of_le (HO.out.blk_lt x hx) HK03.out.size)
      obtain ⟨W4, hW_⟩ : ∃ W_, W_ = w3.alloc (.cells #[.int .i64 x1, .int .i64 (2 * x2 - 1), .int .i64 x3] 139) := ⟨_, rfl⟩
      have b4 : Blk W4 w3.heap.size 139 #[.int .i64 x1, .int .i64 (2 * x2 - 1), .int .i64 x3] := by rw [hW_]; exact Blk.new w3 _ _
      have z4 : Below w3.heap.size w3 W4 := by rw [hW_]; exact (Below.refl _ _).alloc (Nat.le_refl _) _
      have HW4 := Lib.hid hW_
      clear hW_
      have HX4 := Lib.hid (HX3.out.below z4)
      have HS4 := Lib.hid (HS3.out.below z4)
      have HK04 := Lib.hid (HK03.out.trans (Kb.of_below z4))
      have HB4 := Lib.hid b4
      clear hs1 hs2 hs3 hk1 hk2 hk3 hk03 HX0 HX1 HX2 HX3 HS3 HK03 z4 b4
      go_upto_region 6 with fail
      rw [← HW4.out]
      go_wp2_with fail
      refine (one_any b A n c (T + 8 * rs.length + 2 + 2 + 2) xs 7 _ HX4.out HA.out HS4.out (by omega) hn (by omega) (by omega)).mono ?_
      rintro e6 w6 ⟨y, rfl, hs6, hk6⟩
      have HBR : Hid (b < w3.heap.size) := Lib.hid (by have := HSZ.out; have := HMW.out; omega)
      have HB6 := Lib.hid (hk6.blk_ HB4.out (by have := HBR.out; omega))
      have HK6 := Lib.hid (HK04.out.trans hk6)
      have HS6 := Lib.hid hs6
      clear hs6 hk6 HB4 HK04 HS4 HX4 HW4 hx10 hx11 hx20 hx21 hx30 hx31
      cases y
      rotate_left
      go_upto_region 8 with (go_at_call 89; refine (l05None_any _).mono ?_; rintro e w7 ⟨rfl, z7⟩; have hb7 := HB6.out.below' z7; have k0 : w7.cell? ⟨w3.heap.size, 0, none⟩ = some (.int .i64 x1) := hb7.cell 0; have k1 : w7.cell? ⟨w3.heap.size, 1, none⟩ = some (.int .i64 (2 * x2 - 1)) := hb7.cell 1; have k2 : w7.cell? ⟨w3.heap.size, 2, none⟩ = some (.int .i64 x3) := hb7.cell 2; have f0 := hb7.frozen 0; have f1 := hb7.frozen 1; have f2 := hb7.frozen 2)
      obtain ⟨V, hV⟩ : ∃ V, V = ((w7.setCell ⟨w3.heap.size, 0, none⟩ (.int .i64 0)).setCell ⟨w3.heap.size, 1, none⟩ (.int .i64 0)).setCell ⟨w3.heap.size, 2, none⟩ (.int .i64 (-1)) := ⟨_, rfl⟩
      rw [← hV]
      obtain ⟨r, hVr, hVB, hVS, hVK⟩ : ∃ r : R3, validRuleB sy st r = true ∧ Blk V w3.heap.size 139 #[.int .i64 r.a, .int .i64 r.b, .int .i64 r.c] ∧ Src b A n c (T + 8 * rs.length + 8) V ∧ Kb b W0 V := by
        have k : Kb w3.heap.size w7 V := by rw [hV]; exact (((Kb.refl _ _).set_ 0 _).set_ 1 _).set_ 2 _
        refine ⟨⟨0, 0, -1⟩, none_valid sy st, by rw [hV]; exact ((hb7.set_ 0 _).set_ 1 _).set_ 2 _, (HS6.out.below z7).keepB (k.block b (HS6.out.below z7).lt (by have := HBR.out; omega)), ?_⟩
        have h7 := HK6.out.trans (Kb.of_below (b := b) z7)
        have h3 := HSZ.out
        rw [hV]
        exact ((h7.set_up (p := ⟨w3.heap.size, 0, none⟩) h3 _).set_up (p := ⟨w3.heap.size, 1, none⟩) h3 _).set_up (p := ⟨w3.heap.size, 2, none⟩) h3 _
      clear hV hb7 k0 k1 k2 f0 f1 f2 z7 HB6 HK6 HS6
      rotate_left
      go_upto_region 8 with fail
      obtain ⟨V, hV⟩ : ∃ V, V = w6 := ⟨_, rfl⟩
      rw [← hV] at HB6 HK6 HS6 ⊢
      obtain ⟨r, hVr, hVB, hVS, hVK⟩ : ∃ r : R3, validRuleB sy st r = true ∧ Blk V w3.heap.size 139 #[.int .i64 r.a, .int .i64 r.b, .int .i64 r.c] ∧ Src b A n c (T + 8 * rs.length + 8) V ∧ Kb b W0 V :=
        ⟨⟨x1, 2 * x2 - 1, x3⟩, HVR.out, HB6.out, HS6.out, HK6.out⟩
      clear hV HB6 HK6 HS6
      all_goals
        have hBV := hVK.blk_ HB.out (by omega)
        have hOV := hVK.own' HO.out hb
        have hCV := hVK.blk_ HC.out (by omega)
        have HKV := Lib.hid (HK.out.trans hVK)
        have HCV := Lib.hid hCV
        have HSV := Lib.hid hVS
        have HVr := Lib.hid hVr
        have HBV := Lib.hid hBV
        have u0 : V.cell? ⟨(w.heap.size + 1), 0, none⟩ = some (.int .i64 sy) := hBV.cell 0
        have u1 : V.cell? ⟨(w.heap.size + 1), 1, none⟩ = some (.int .i64 st) := hBV.cell 1
        have u2 : V.cell? ⟨(w.heap.size + 1), 2, none⟩ = some (.slice R rs.length rc) := hBV.cell 2
        have v0 : V.cell? ⟨w3.heap.size, 0, none⟩ = some (.int .i64 r.a) := hVB.cell 0
        have v1 : V.cell? ⟨w3.heap.size, 1, none⟩ = some (.int .i64 r.b) := hVB.cell 1
        have v2 : V.cell? ⟨w3.heap.size, 2, none⟩ = some (.int .i64 r.c) := hVB.cell 2
        have hVW : w.heap.size ≤ V.heap.size := by have := hBV.lt; omega
        clear hVK hVS hVr hCV hBV hVB
        go_wp2_with (at_builtin; refine wpList_append_Own rfl (.tmp 35) (.tmp 37) rfl elR (lo := w.heap.size) rfl (hOV.alloc _) rfl (rd_rule3 V r) (by simp [Value.oneCell']) (by omega) (by simp only [maxLen]; omega) (by simp; omega) ?_; intro A5 c5 W5 o5 hg5 hw5; have hB5 : Blk W5 (w.heap.size + 1) 26 #[.int .i64 sy, .int .i64 st, .slice R rs.length rc] := Blk.growt (HBV.out.alloc _) (hOV.alloc _) hg5 (by decide); have m2 : W5.cell? ⟨w.heap.size + 1, 2, none⟩ = some (.slice R rs.length rc) := hB5.cell 2; have f2 := hB5.frozen 2)
        obtain ⟨W6, hW6⟩ : ∃ W6, W6 = W5.setCell ⟨w.heap.size + 1, 2, none⟩ (.slice A5 (rs.length + 1) c5) := ⟨_, rfl⟩
        rw [← hW6]
        have k6 : Kb (w.heap.size + 1) W5 W6 := by rw [hW6]; exact (Kb.refl _ _).set_ 2 _
        have hB6 : Blk W6 (w.heap.size + 1) 26 #[.int .i64 sy, .int .i64 st, .slice A5 (rs.length + 1) c5] := by rw [hW6]; exact hB5.set_ 2 _
        have hO6 : Own W6 w.heap.size 139 3 A5 (rs.length + 1) c5 (cells3 (rs ++ [r])) := k6.own (by rw [← cells3_more]; exact o5) (Blk.aptt hB5 o5 (by decide))
        have hS5 : Src b A n c (T + 8 * rs.length + 8) W5 := (HSV.out.alloc _).grown' (hOV.alloc _) hb hg5
        have hS6 : Src b A n c (T + 8 * rs.length + 8) W6 := hS5.keepB (k6.block b hS5.lt (by omega))
        have hK6 : Kb b w W6 := by rw [hW6]; exact ((HKV.out.alloc _).grown (hOV.alloc _) (Nat.le_refl _) hg5).set_up (p := ⟨w.heap.size + 1, 2, none⟩) (Nat.le_succ _) _
        have hC6 : Blk W6 w.heap.size 26 #[.int .i64 0, .int .i64 0, .slice none 0 0] := k6.blk_ (Blk.growt (HCV.out.alloc _) (hOV.alloc _) hg5 (by decide)) (by omega)
        have hlen : (rs ++ [r]).length = rs.length + 1 := by simp
        exact ⟨⟨j - 1, A5, c5, rs ++ [r], by omega, by go_num, Lib.hid (by rw [hlen]; have := HL.out; omega), by rw [hlen]; exact Lib.hid hB6, by rw [hlen]; exact Lib.hid hO6, Lib.hid (fun x hx => by
          rcases List.mem_append.1 hx with h | h
          · exact HV.out x h
          · rw [List.mem_singleton.1 h]; exact HVr.out), Lib.hid (by rw [hlen]; exact hS6.le (by omega)), Lib.hid hK6, Lib.hid hC6⟩, by simp [intOf]; omega⟩
    · obtain rfl : j = 0 := by omega
      have hB := HB.out
      have u0 : W0.cell? ⟨(w.heap.size + 1), 0, none⟩ = some (.int .i64 sy) := hB.cell 0
      have u1 : W0.cell? ⟨(w.heap.size + 1), 1, none⟩ = some (.int .i64 st) := hB.cell 1
      have u2 : W0.cell? ⟨(w.heap.size + 1), 2, none⟩ = some (.slice R rs.length rc) := hB.cell 2
      have hC := HC.out
      have v0 : W0.cell? ⟨w.heap.size, 0, none⟩ = some (.int .i64 0) := hC.cell 0
      have v1 : W0.cell? ⟨w.heap.size, 1, none⟩ = some (.int .i64 0) := hC.cell 1
      have v2 : W0.cell? ⟨w.heap.size, 2, none⟩ = some (.slice none 0 0) := hC.cell 2
      have f0 := hC.frozen 0
      have f1 := hC.frozen 1
      have f2 := hC.frozen 2
      have HD := Lib.hid (((hC.set_ 0 (.int .i64 sy)).set_ 1 (.int .i64 st)).set_ 2 (.slice R rs.length rc))
      have HDR : Hid (DrewM b A n c (T + 3000) sy st w (.returned (.agg #[.int .i64 sy, .int .i64 st, .slice R rs.length rc])) (((W0.setCell ⟨w.heap.size, 0, none⟩ (.int .i64 sy)).setCell ⟨w.heap.size, 1, none⟩ (.int .i64 st)).setCell ⟨w.heap.size, 2, none⟩ (.slice R rs.length rc))) := Lib.hid (by
        have k : Kb w.heap.size W0 (((W0.setCell ⟨w.heap.size, 0, none⟩ (.int .i64 sy)).setCell ⟨w.heap.size, 1, none⟩ (.int .i64 st)).setCell ⟨w.heap.size, 2, none⟩ (.slice R rs.length rc)) := (((Kb.refl _ _).set_ 0 _).set_ 1 _).set_ 2 _
        have hm : machB sy st rs = true := by
          obtain ⟨a1, a2, a3, a4⟩ := HSY.out
          unfold machB
          have e1 : (rs.length : Int) = st * sy := by rw [Int.mul_comm, HN.out]; have := HL.out; omega
          rw [(inB_iff _ _ _).2 ⟨a1, a2⟩, (inB_iff _ _ _).2 ⟨a3, by omega⟩, decide_eq_true e1, List.all_eq_true.2 HV.out]; rfl
        refine ⟨R, rc, rs, rfl, ?_, hm, ?_, ?_⟩
        · exact k.own HO.out (Blk.aptt hC HO.out (by decide))
        · exact (HS.out.keepB (k.block b HS.out.lt (by omega))).le (by have := HL.out; omega)
        · exact ((HK.out.set_up (p := ⟨w.heap.size, 0, none⟩) (Nat.le_refl _) _).set_up (p := ⟨w.heap.size, 1, none⟩) (Nat.le_refl _) _).set_up (p := ⟨w.heap.size, 2, none⟩) (Nat.le_refl _) _)
      clear hC hB
      go_wp2_with fail
      have d1 := HD.out
      exact bodyPost_ret (v := .agg #[.int .i64 sy, .int .i64 st, .slice R rs.length rc]) (by simp [results, Try.results37, go_sem, d1.cell 0, d1.cell 1, d1.cell 2]) rfl HDR.out
end Go.Proofs.Ytokglpdlhacnaaa

/-
  Contracts of slices.Reverse and impl.reversed.
-/
namespace Go.Proofs.Ytokglpdlhacnaaa
open Go.RowKit

/-- The number at a place, or 0. -/
def nth (xs : List Int) (k : Nat) : Int := xs.getD k 0
theorem nth_eq (xs : List Int) (k : Nat) (h : k < xs.length) : nth xs k = xs[k] := by simp [nth, List.getElem?_eq_getElem h]
/-- After a rounds of the reversal in place. -/
def revTo (xs : List Int) (a : Nat) : List Int := (List.range xs.length).map fun k => if k < a ∨ xs.length ≤ k + a then nth xs (xs.length - 1 - k) else nth xs k
theorem length_revTo (xs : List Int) (a : Nat) : (revTo xs a).length = xs.length := by simp [revTo]
theorem revTo_get (xs : List Int) (a k : Nat) (h : k < (revTo xs a).length) : (revTo xs a)[k] = if k < a ∨ xs.length ≤ k + a then nth xs (xs.length - 1 - k) else nth xs k := by simp [revTo]
theorem revTo_zero (xs : List Int) : revTo xs 0 = xs := by
  apply List.ext_getElem (length_revTo xs 0)
  intro k h1 h2
  rw [revTo_get, if_neg (by omega), nth_eq _ _ h2]
theorem revTo_next (xs : List Int) (a : Nat) (h : a + a + 1 < xs.length) : ((revTo xs a).set a (nth xs (xs.length - 1 - a))).set (xs.length - 1 - a) (nth xs a) = revTo xs (a + 1) := by
  apply List.ext_getElem (by simp [length_revTo])
  intro k h1 h2
  rw [length_revTo] at h2
  rw [List.getElem_set, List.getElem_set, revTo_get, revTo_get]
  by_cases e1 : xs.length - 1 - a = k
  · subst e1
    rw [if_pos rfl, if_pos (by omega)]
    congr 1; omega
  · rw [if_neg e1]
    by_cases e2 : a = k
    · subst e2
      rw [if_pos rfl, if_pos (by omega)]
    · rw [if_neg e2]
      by_cases e3 : k < a ∨ xs.length ≤ k + a
      · rw [if_pos e3, if_pos (by omega)]
      · rw [if_neg e3, if_neg (by omega)]
theorem revTo_end (xs : List Int) (a : Nat) (h : xs.length ≤ a + a + 1) : revTo xs a = xs.reverse := by
  apply List.ext_getElem (by simp [length_revTo])
  intro k h1 h2
  rw [length_revTo] at h1
  rw [revTo_get, List.getElem_reverse]
  by_cases e : k < a ∨ xs.length ≤ k + a
  · rw [if_pos e, nth_eq _ _ (by omega)]
  · rw [if_neg e, nth_eq _ _ (by omega)]
    congr 1; omega
theorem revTo_lo (xs : List Int) (a : Nat) (h : a + a + 1 < xs.length) (h1 : a < (ints (revTo xs a)).length) : (ints (revTo xs a))[a] = .int .i64 (nth xs a) := by
  rw [ints_get, revTo_get, if_neg (by omega)]
theorem revTo_hi (xs : List Int) (a : Nat) (h : a + a + 1 < xs.length) (h1 : xs.length - 1 - a < (ints (revTo xs a)).length) : (ints (revTo xs a))[xs.length - 1 - a] = .int .i64 (nth xs (xs.length - 1 - a)) := by
  rw [ints_get, revTo_get, if_neg (by omega)]

def RevP (w : World) (lo : Nat) (A : Option Addr) (n c : Nat) (xs : List Int) (e : Ending) (w' : World) : Prop :=
  e = .returned (.tuple #[]) ∧ Own w' lo 2 1 A n c (ints xs.reverse) ∧ Below lo w w' ∧ ∀ b, blk A ≠ some b → w'.heap[b]? = w.heap[b]?

set_option maxHeartbeats 1000000 in
theorem reverse_any (A : Option Addr) (n c : Nat) (xs : List Int) (w : World) (lo : Nat) (hx : Own w lo 2 1 A n c (ints xs)) (hn : n ≤ 1048576) (_hlo : lo ≤ w.heap.size) :
    Calls Try.prog 134 #[.slice A n c] w (RevP w lo A n c xs) := by
  have hl : xs.length = n := by have := hx.1; rw [length_ints] at this; omega
  subst hl
  go_enter Try.func134, Try.ntmps134
  go_wp2_with fail
  go_loopw [2, 3] (fun i j wr => ∃ a : Nat, a ≤ xs.length ∧ i = .int .i64 a ∧ j = .int .i64 ((xs.length : Int) - 1 - a) ∧ Own wr lo 2 1 A xs.length c (ints (revTo xs a)) ∧ Below lo w wr ∧ Hid (∀ b, blk A ≠ some b → wr.heap[b]? = w.heap[b]?)) (fun i _ _ => xs.length - (intOf i).toNat)
  case atStart => exact ⟨0, by omega, rfl, by simp, by rw [revTo_zero]; exact hx, Below.refl _ _, fun _ _ => rfl⟩
  case round =>
    obtain ⟨a, ha, rfl, rfl, ho, hb, hf⟩ := hrel
    by_cases hlt : a + a + 1 < xs.length
    · have hll : (ints (revTo xs a)).length = xs.length := by rw [length_ints, length_revTo]
      have h1 : a < (ints (revTo xs a)).length := by omega
      have h2 : xs.length - 1 - a < (ints (revTo xs a)).length := by omega
      obtain ⟨b, off, rfl, hlob, hbl, hc1, hf1⟩ := ho.at_ h1
      obtain ⟨b', off', he, _, _, hc2, hf2⟩ := ho.at_ h2
      simp only [Option.some.injEq, Addr.mk.injEq, and_true] at he
      obtain ⟨rfl, rfl⟩ := he
      rw [revTo_lo xs a hlt] at hc1
      rw [revTo_hi xs a hlt] at hc2
      have i1 : (a : Int) < (xs.length : Int) - 1 - a := by omega
      have i2 : (0 : Int) ≤ (xs.length : Int) - 1 - a := by omega
      have i3 : ((xs.length : Int) - 1 - a).toNat = xs.length - 1 - a := by omega
      have i4 : (xs.length : Int) - 1 - a < (xs.length : Int) := by omega
      have ne1 : ¬ off + a = off + (xs.length - 1 - a) := by omega
      have ne2 : ¬ off + (xs.length - 1 - a) = off + a := by omega
      have HLL := Lib.hid hll
      clear hll
      have ho2 := (ho.set_ h1 (.int .i64 (nth xs (xs.length - 1 - a)))).set_ (k := xs.length - 1 - a) (by rw [List.length_set]; exact h2) (.int .i64 (nth xs a))
      rw [ints_set, ints_set, revTo_next xs a hlt] at ho2
      have ho3 : Own ((wr.setCell ⟨b, off + a, none⟩ (.int .i64 (nth xs (xs.length - 1 - a)))).setCell ⟨b, off + (xs.length - 1 - a), none⟩ (.int .i64 (nth xs a))).drew lo 2 1 (some ⟨b, off, none⟩) xs.length c (ints (revTo xs (a + 1))) := ho2
      have hb3 : Below lo w ((wr.setCell ⟨b, off + a, none⟩ (.int .i64 (nth xs (xs.length - 1 - a)))).setCell ⟨b, off + (xs.length - 1 - a), none⟩ (.int .i64 (nth xs a))).drew := ((hb.setCell (p := ⟨b, off + a, none⟩) hlob _).setCell (p := ⟨b, off + (xs.length - 1 - a), none⟩) hlob _).drew
      have hf3 : Hid (∀ b', blk (some ⟨b, off, none⟩) ≠ some b' → ((wr.setCell ⟨b, off + a, none⟩ (.int .i64 (nth xs (xs.length - 1 - a)))).setCell ⟨b, off + (xs.length - 1 - a), none⟩ (.int .i64 (nth xs a))).drew.heap[b']? = w.heap[b']?) := fun b' hb' =>
        (Below.heap_setCell _ _ _ _ (fun e => hb' (by rw [e]; rfl))).trans ((Below.heap_setCell _ _ _ _ (fun e => hb' (by rw [e]; rfl))).trans (hf.out b' hb'))
      go_wp2_with fail
      go_region
      go_wp2_with fail
      exact ⟨⟨a + 1, by omega, by go_num, by go_num, ho3, hb3, hf3⟩, by simp [intOf]; omega⟩
    · have i1 : ¬ (a : Int) < (xs.length : Int) - 1 - a := by omega
      go_wp2_with fail
      go_end0
      have e1 := revTo_end xs a (by omega)
      rw [e1] at ho
      exact ⟨rfl, ho, hb, hf.out⟩

set_option maxHeartbeats 400000 in
theorem reversed_any (A : Option Addr) (n c : Nat) (xs : List Int) (w : World) (hx : SI w A n xs) (hn : n ≤ 1048576) :
    Calls Try.prog 99 #[.slice A n c] w (NewI w xs.reverse) := by
  have hl : xs.length ≤ 1048576 := by have := hx.len; omega
  go_enter Try.func99, Try.ntmps99
  go_wp2_with fail
  refine (cloneI_any _ _ _ xs _ hx hn).mono ?_
  rintro e w2 ⟨A2, c2, rfl, ho2, z2⟩
  go_wp2_with fail
  refine (reverse_any _ _ _ xs _ w.heap.size ho2 hl z2.size).mono ?_
  rintro e w3 ⟨rfl, ho3, z3, _⟩
  go_wp2_with fail
  go_ret
  exact ⟨A2, c2, by rw [List.length_reverse]; rfl, by rw [List.length_reverse]; exact ho3, z2.trans z3⟩
end Go.Proofs.Ytokglpdlhacnaaa

/-
  Contracts of impl's runner: runnerOf, symbol, at, rule, halts.
-/
namespace Go.Proofs.Ytokglpdlhacnaaa
open Go.RowKit

/-- A runner in memory. -/
def RunAt (w : World) (g : Nat) (sy st : Int) (A : Option Addr) (n k : Nat) (q : Int) (L : Option Addr) (m c : Nat) (R : Option Addr) (l d : Nat) : Prop :=
  Blk w g 149 #[.int .i64 sy, .int .i64 st, .slice A n k, .int .i64 q, .slice L m c, .slice R l d]

def NewRunner (w : World) (sy st : Int) (A : Option Addr) (n k : Nat) (q : Int) (xs ys : List Int) (e : Ending) (w' : World) : Prop :=
  ∃ g L c R d, e = .returned (.pointer (some ⟨g, 0, none⟩)) ∧ w.heap.size ≤ g ∧ RunAt w' g sy st A n k q L xs.length c R ys.length d ∧ Own w' w.heap.size 2 1 L xs.length c (ints xs.reverse) ∧ Own w' w.heap.size 2 1 R ys.length d (ints ys.reverse) ∧ (∀ b, blk L = some b → blk R ≠ some b) ∧ Below w.heap.size w w'

set_option maxHeartbeats 2000000 in
theorem runnerOf_any (sy st : Int) (A : Option Addr) (n k : Nat) (q : Int) (B : Option Addr) (m c : Nat) (xs : List Int) (C : Option Addr) (l d : Nat) (ys : List Int) (w : World) (hx : SI w B m xs) (hy : SI w C l ys) (hm : m ≤ 1048576) (hl : l ≤ 1048576) :
    Calls Try.prog 48 #[.agg #[.int .i64 sy, .int .i64 st, .slice A n k], .agg #[.int .i64 q, .slice B m c, .slice C l d]] w (NewRunner w sy st A n k q xs ys) := by
  obtain ⟨W, hW⟩ : ∃ W, W = (w.alloc (.cells #[.int .i64 sy, .int .i64 st, .slice A n k] 26)).alloc (.cells #[.int .i64 q, .slice B m c, .slice C l d] 29) := ⟨_, rfl⟩
  have s1 : (w.alloc (.cells #[.int .i64 sy, .int .i64 st, .slice A n k] 26)).heap.size = w.heap.size + 1 := by simp
  have b0 : Blk W w.heap.size 26 #[.int .i64 sy, .int .i64 st, .slice A n k] := by rw [hW]; exact (Blk.new w _ _).alloc _
  have b1 : Blk W (w.heap.size + 1) 29 #[.int .i64 q, .slice B m c, .slice C l d] := by rw [hW, ← s1]; exact Blk.new _ _ _
  have y0 : Below w.heap.size w W := by rw [hW]; exact ((Below.refl _ _).alloc (Nat.le_refl _) _).alloc (by simp) _
  have HW := Lib.hid hW
  clear hW s1
  have q0 : W.cell? ⟨w.heap.size, 0, none⟩ = some (.int .i64 sy) := b0.cell 0
  have q1 : W.cell? ⟨w.heap.size, 1, none⟩ = some (.int .i64 st) := b0.cell 1
  have q2 : W.cell? ⟨w.heap.size, 2, none⟩ = some (.slice A n k) := b0.cell 2
  have q3 : W.cell? ⟨w.heap.size + 1, 0, none⟩ = some (.int .i64 q) := b1.cell 0
  have q4 : W.cell? ⟨w.heap.size + 1, 1, none⟩ = some (.slice B m c) := b1.cell 1
  have q5 : W.cell? ⟨w.heap.size + 1, 2, none⟩ = some (.slice C l d) := b1.cell 2
  have hxW := (hx.below y0).drewN 1
  have hyW := (hy.below y0)
  have hxl : xs.length = m := hx.len
  have hyl : ys.length = l := hy.len
  have HXL := Lib.hid hxl
  have HYL := Lib.hid hyl
  clear hxl hyl
  go_enter Try.func48, Try.ntmps48
  go_wp2_with fail
  rw [← HW.out]
  go_region_held3 (fun w' => w'.cell? ⟨w.heap.size, 0, none⟩ = some (.int .i64 sy) ∧ w'.cell? ⟨w.heap.size, 1, none⟩ = some (.int .i64 st) ∧ w'.cell? ⟨w.heap.size, 2, none⟩ = some (.slice A n k) ∧
      w'.cell? ⟨w.heap.size + 1, 0, none⟩ = some (.int .i64 q) ∧ w'.cell? ⟨w.heap.size + 1, 1, none⟩ = some (.slice B m c) ∧ w'.cell? ⟨w.heap.size + 1, 2, none⟩ = some (.slice C l d))
    (first
      | (go_keep; done)
      | (exact ⟨(b0.below' z3).cell 0, (b0.below' z3).cell 1, (b0.below' z3).cell 2, (b1.below' z3).cell 0, (b1.below' z3).cell 1, (b1.below' z3).cell 2⟩)
      | (exact ⟨(b0.below' z2).cell 0, (b0.below' z2).cell 1, (b0.below' z2).cell 2, (b1.below' z2).cell 0, (b1.below' z2).cell 1, (b1.below' z2).cell 2⟩))
    (first
      | (go_at_call_of 99 (Value.slice B m c); refine (reversed_any _ _ _ xs _ hxW hm).mono ?_; rintro e w2 ⟨L, cl, rfl, ol, z2'⟩; have z2 : Below W.heap.size W w2 := below_undrew z2')
      | (go_at_call_of 99 (Value.slice C l d); refine (reversed_any _ _ _ ys _ (hyW.below z2) hl).mono ?_; rintro e w3 ⟨R, cr, rfl, or_, z3'⟩; have z3 : Below W.heap.size W w3 := z2.trans (z3'.mono z2.size)))
  go_wp2_with fail
  go_ret
  have hz : w.heap.size ≤ W.heap.size := y0.size
  have hz2 : W.heap.size ≤ w2.heap.size := z2.size
  have hz3 : w2.heap.size ≤ w3.heap.size := z3'.size
  rw [List.length_reverse] at ol or_
  have ol2 : Own w3 w.heap.size 2 1 L xs.length cl (ints xs.reverse) := (ol.below z3').mono (by exact hz)
  have or2 : Own w3 w.heap.size 2 1 R ys.length cr (ints ys.reverse) := or_.mono (by omega)
  refine ⟨w3.heap.size, L, cl, R, cr, rfl, by omega, Blk.new w3 _ _, ol2.alloc _, or2.alloc _, fun b h1 h2 => ?_, (y0.trans (z3.mono hz)).alloc (by omega) _⟩
  have h3 := ol.blk_lt b h1
  have h4 := or_.blk_ge b h2
  omega

set_option maxHeartbeats 400000 in
theorem nearest_any (A : Option Addr) (n c : Nat) (xs : List Int) (w : World) (hx : SI w A n xs) (hn : n ≤ 1048576) :
    Calls Try.prog 152 #[.slice A n c] w fun e w' => e = .returned (.int .i64 (lastI xs)) ∧ w = w' := by
  have HL := Lib.hid hx.len
  by_cases hn0 : n = 0
  · subst hn0
    have hx0 : xs = [] := List.eq_nil_of_length_eq_zero HL.out
    subst hx0
    go_enter Try.func152, Try.ntmps152
    go_wp2
    go_ret
    exact ⟨rfl, rfl⟩
  · obtain ⟨b, off, rfl, _, hc⟩ := last_at hx (by omega)
    have g0 : ((n : Int) == 0) = false := by simp; omega
    have i1 : (0 : Int) ≤ (n : Int) - 1 := by omega
    have i2 : ((n : Int) - 1).toNat = n - 1 := by omega
    go_enter Try.func152, Try.ntmps152
    go_wp2
    go_ret
    exact ⟨rfl, rfl⟩

set_option maxHeartbeats 400000 in
theorem symbol_any (g : Nat) (sy st : Int) (A : Option Addr) (n k : Nat) (q : Int) (L : Option Addr) (m c : Nat) (R : Option Addr) (l d : Nat) (ys : List Int) (w : World) (hr : RunAt w g sy st A n k q L m c R l d) (hy : SI w R l ys) (hl : l ≤ 1048576) :
    Calls Try.prog 159 #[.pointer (some ⟨g, 0, none⟩)] w fun e w' => e = .returned (.int .i64 (lastI ys)) ∧ w = w' := by
  have c5 : w.cell? ⟨g, 5, none⟩ = some (.slice R l d) := hr.cell 5
  go_enter Try.func159, Try.ntmps159
  go_wp2_with (go_at_call 152; refine (nearest_any _ _ _ ys _ hy hl).mono ?_; rintro e w' ⟨rfl, rfl⟩)
  go_ret
  exact ⟨rfl, rfl⟩

/-- The rule's index. -/
def atI (sy q : Int) (ys : List Int) : Int := q * sy + lastI ys

set_option maxHeartbeats 400000 in
theorem at_any (g : Nat) (sy st : Int) (A : Option Addr) (n k : Nat) (q : Int) (L : Option Addr) (m c : Nat) (R : Option Addr) (l d : Nat) (ys : List Int) (w : World) (hr : RunAt w g sy st A n k q L m c R l d) (hy : SI w R l ys) (hl : l ≤ 1048576)
    (h1 : 0 ≤ q * sy) (h2 : q * sy ≤ 1000000) (h3 : 0 ≤ lastI ys) (h4 : lastI ys ≤ 1000000) :
    Calls Try.prog 153 #[.pointer (some ⟨g, 0, none⟩)] w fun e w' => e = .returned (.int .i64 (atI sy q ys)) ∧ ∃ nq, w' = w.drewN nq := by
  have c0 : w.cell? ⟨g, 0, none⟩ = some (.int .i64 sy) := hr.cell 0
  have c3 : w.cell? ⟨g, 3, none⟩ = some (.int .i64 q) := hr.cell 3
  have w1 : IntKind.i64.wrap (q * sy) = q * sy := IntWalk.i64_in _ (by omega)
  have w2 : IntKind.i64.wrap (q * sy + lastI ys) = q * sy + lastI ys := IntWalk.i64_in _ (by omega)
  go_enter Try.func153, Try.ntmps153
  go_wp2_with fail
  go_quiet ((go_at_call 159; exact quiet_left (symbol_any _ _ _ _ _ _ _ _ _ _ _ _ _ ys _ (hr.drewN _) (hy.drewN _) hl)))
  clear w1 w2
  go_wp2_with fail
  go_ret
  exact ⟨rfl, _, rfl⟩
end Go.Proofs.Ytokglpdlhacnaaa
