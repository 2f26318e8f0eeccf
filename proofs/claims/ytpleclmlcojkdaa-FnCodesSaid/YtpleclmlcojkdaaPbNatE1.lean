/-
  Contracts of impl's smallest functions: within, size, allWithin; slices.Clone.
-/
import Derived.Test.YtpleclmlcojkdaaPbNatE0
import Derived.BigGuardPart
import Derived.Deep.RegionHeld3
import Derived.Deep.DeepCutAuto
import Derived.Deep.QuietTactic
import Derived.BigQuiet
namespace Go.Proofs.Ytpleclmlcojkdaa
open Go.RowKit

def inB (n lo hi : Int) : Bool := decide (lo ≤ n) && decide (n ≤ hi)
def allIn (xs : List Int) (lo hi : Int) : Bool := xs.all (fun x => inB x lo hi)
theorem inB_iff (n lo hi : Int) : inB n lo hi = true ↔ lo ≤ n ∧ n ≤ hi := by simp [inB]

set_option maxHeartbeats 400000 in
theorem within_any (n lo hi : Int) (w : World) :
    Calls Try.prog 92 #[.int .i64 n, .int .i64 lo, .int .i64 hi] w fun e w' => e = .returned (.bool (inB n lo hi)) ∧ w = w' := by
  by_cases h1 : lo ≤ n <;> by_cases h2 : n ≤ hi
  all_goals
    go_enter Try.func92, Try.ntmps92
    go_wp2
    go_ret
    exact ⟨ret_bool (by simp [inB]; omega), rfl⟩

theorem sizeI_any (A : Option Addr) (n c : Nat) (w : World) (_h : n ≤ 9223372036854775807) :
    Calls Try.prog 122 #[.slice A n c] w fun e w' => e = .returned (.int .i64 n) ∧ w = w' := by
  go_enter Try.func122, Try.ntmps122
  go_wp2
  go_ret
  exact ⟨rfl, rfl⟩

theorem allIn_at {xs : List Int} {lo hi : Int} {k n : Nat} (hk : k < n) (hl : xs.length = n) (h : (!inB (xs[k]'(by omega)) lo hi) = true) : false = allIn xs lo hi := by
  symm; unfold allIn; rw [List.all_eq_false]
  exact ⟨_, List.getElem_mem (by omega : k < xs.length), by simpa using h⟩
theorem allIn_next {xs : List Int} {lo hi : Int} {k n : Nat} (hk : k < n) (hl : xs.length = n) (h : (!inB (xs[k]'(by omega)) lo hi) = false) (he : allIn (xs.take k) lo hi = true) : allIn (xs.take (k + 1)) lo hi = true := by
  rw [List.take_succ_eq_append_getElem (by omega)]
  simp only [allIn, List.all_append, Bool.and_eq_true] at he ⊢
  exact ⟨he, by simpa using h⟩
theorem allIn_end {xs : List Int} {lo hi : Int} {k n : Nat} (hk : n ≤ k) (hl : xs.length = n) (he : allIn (xs.take k) lo hi = true) : true = allIn xs lo hi := by
  rw [List.take_of_length_le (by omega)] at he; exact he.symm

set_option maxHeartbeats 400000 in
theorem allWithin_any (A : Option Addr) (n c : Nat) (xs : List Int) (lo hi : Int) (w : World) (hx : SI w A n xs) (hn : n ≤ 9223372036854775807) :
    Calls Try.prog 113 #[.slice A n c, .int .i64 lo, .int .i64 hi] w fun e w' => e = .returned (.bool (allIn xs lo hi)) ∧ w = w' := by
  go_enter Try.func113, Try.ntmps113
  go_wp2
  go_loop [11] (fun i => ∃ k : Nat, k ≤ n ∧ i = .int .i64 k ∧ Hid (allIn (xs.take k) lo hi = true)) (fun i => n - (intOf i).toNat)
  case atStart => exact ⟨0, by omega, rfl, rfl⟩
  case round =>
    obtain ⟨k, hk, rfl, he⟩ := hrel
    by_cases hlt : k < n
    · obtain ⟨b, off, rfl, _, hc⟩ := hx.at_ hlt
      go_wp2_with (go_at_call 92; refine (within_any _ _ _ _).mono ?_; rintro e w' ⟨rfl, rfl⟩)
      · go_ret
        exact ⟨ret_bool (allIn_at hlt hx.len (by assumption)), rfl⟩
      · exact ⟨⟨k + 1, by omega, by go_num, allIn_next hlt hx.len (by assumption) he.out⟩, by simp [intOf]; omega⟩
    · go_wp2
      go_ret
      exact ⟨ret_bool (allIn_end (by omega) hx.len he.out), rfl⟩

set_option maxHeartbeats 400000 in
theorem cloneI_any (A : Option Addr) (n c : Nat) (xs : List Int) (w : World) (hx : SI w A n xs) (hn : n ≤ 1048576) :
    Calls Try.prog 107 #[.slice A n c] w (NewI w xs) := by
  have HL := Lib.hid hx.len
  have hnil := fun (w : World) (a : Option Addr) (n c : Nat) => Lib.run_eql_slice_nil (P := Try.prog) w 25 2 a n c 0 0 Try.underlying25
  rcases A with _ | ad
  · have hn0 : n = 0 := by
      rcases Nat.eq_zero_or_pos n with h | h
      · exact h
      · obtain ⟨b, off, e, _⟩ := hx.at_ h; cases e
    subst hn0
    have hx0 : xs = [] := List.eq_nil_of_length_eq_zero HL.out
    subst hx0
    go_enter Try.func107, Try.ntmps107
    go_wp2
    go_ret
    exact ⟨none, 0, rfl, Own.nil, Below.refl _ _⟩
  · go_enter Try.func107, Try.ntmps107
    go_wp2_with (at_builtin; refine wpList_append_Own rfl (.tmp 5) (.tmp 6) rfl elI (lo := w.heap.size) rfl (Own.lit0 w _ 1) rfl (Rd.alloc hx _) (ints_one xs) (by omega) (by simp only [maxLen]; omega) (by simp) ?_; intro A2 c2 w2 ho2 hg2 _)
    go_ret
    have hbb := (Own.lit0 w 2 1).below_of ((Below.refl _ _).alloc (Nat.le_refl _) _) hg2 (by simp)
    simp only [List.nil_append] at ho2
    refine ⟨A2, c2, ?_, ?_, hbb⟩
    · rw [HL.out]; simp
    · rw [HL.out]; simpa using ho2

theorem within_is {n lo hi : Int} {b : Bool} (h : inB n lo hi = b) (w : World) :
    Calls Try.prog 92 #[.int .i64 n, .int .i64 lo, .int .i64 hi] w fun e w' => e = .returned (.bool b) ∧ w = w' := h ▸ within_any n lo hi w
end Go.Proofs.Ytpleclmlcojkdaa

/-
  Naturals by limbs (base 1000000, the least limb first): plain laws.
-/
namespace Go.Proofs.Ytpleclmlcojkdaa
open Go.RowKit

/-- The value of limbs. -/
def val : List Int → Int
  | [] => 0
  | x :: xs => x + 1000000 * val xs
def pw : Nat → Int
  | 0 => 1
  | n + 1 => 1000000 * pw n
theorem pw_pos : ∀ n, 0 < pw n
  | 0 => by decide
  | n + 1 => by have := pw_pos n; show 0 < 1000000 * pw n; omega
theorem pw_add : ∀ m n, pw (m + n) = pw m * pw n
  | 0, n => by rw [Nat.zero_add]; show pw n = 1 * pw n; rw [Int.one_mul]
  | m + 1, n => by
    rw [show m + 1 + n = (m + n) + 1 by omega]
    show 1000000 * pw (m + n) = 1000000 * pw m * pw n
    rw [pw_add m n, Int.mul_assoc]
theorem pw_succ (n : Nat) : pw (n + 1) = 1000000 * pw n := rfl
theorem pw_mono {m n : Nat} (h : m ≤ n) : pw m ≤ pw n := by
  obtain ⟨k, rfl⟩ : ∃ k, n = m + k := ⟨n - m, by omega⟩
  rw [pw_add]
  have h1 := pw_pos m
  have h2 := pw_pos k
  have h3 : pw m * 1 ≤ pw m * pw k := Int.mul_le_mul_of_nonneg_left (by omega) (by omega)
  omega
theorem val_append : ∀ xs ys, val (xs ++ ys) = val xs + pw xs.length * val ys
  | [], ys => by show val ys = 0 + 1 * val ys; omega
  | x :: xs, ys => by
    show x + 1000000 * val (xs ++ ys) = x + 1000000 * val xs + 1000000 * pw xs.length * val ys
    rw [val_append xs ys, Int.mul_add, Int.mul_assoc]; omega
theorem val_snoc (xs : List Int) (y : Int) : val (xs ++ [y]) = val xs + pw xs.length * y := by
  rw [val_append]; show _ + _ * (y + 1000000 * 0) = _; simp
theorem val_set : ∀ (xs : List Int) (k : Nat) (y : Int) (h : k < xs.length), val (xs.set k y) = val xs + (y - xs[k]) * pw k
  | x :: xs, 0, y, h => by show y + 1000000 * val xs = x + 1000000 * val xs + (y - x) * 1; omega
  | x :: xs, k + 1, y, h => by
    have hk : k < xs.length := by simpa using h
    have ih := val_set xs k y hk
    show x + 1000000 * val (xs.set k y) = x + 1000000 * val xs + (y - xs[k]) * (1000000 * pw k)
    rw [ih, Int.mul_add, ← Int.mul_assoc (y - xs[k]) 1000000, Int.mul_comm (y - xs[k]) 1000000, Int.mul_assoc]; omega
theorem val_take_succ {xs : List Int} {k : Nat} (h : k < xs.length) : val (xs.take (k + 1)) = val (xs.take k) + xs[k] * pw k := by
  rw [List.take_succ_eq_append_getElem h, val_snoc, List.length_take, Nat.min_eq_left (by omega), Int.mul_comm]
theorem val_drop {xs : List Int} {k : Nat} (h : k < xs.length) : val (xs.drop k) = xs[k] + 1000000 * val (xs.drop (k + 1)) := by
  rw [List.drop_eq_getElem_cons h]; rfl
theorem val_zeros : ∀ n, val (List.replicate n 0) = 0
  | 0 => rfl
  | n + 1 => by rw [List.replicate_succ]; show 0 + 1000000 * val (List.replicate n 0) = 0; rw [val_zeros n]; rfl
/-- All limbs are in range. -/
def lims (xs : List Int) : Prop := ∀ x ∈ xs, 0 ≤ x ∧ x < 1000000
theorem lims_nil : lims [] := fun _ h => by cases h
theorem lims.at_ {xs : List Int} (h : lims xs) {k : Nat} (hk : k < xs.length) : 0 ≤ xs[k] ∧ xs[k] < 1000000 := h _ (List.getElem_mem hk)
theorem lims.snoc {xs : List Int} (h : lims xs) {y : Int} (hy : 0 ≤ y ∧ y < 1000000) : lims (xs ++ [y]) := fun x hx => by
  rcases List.mem_append.1 hx with h1 | h1
  · exact h x h1
  · simp at h1; subst h1; exact hy
theorem lims.set {xs : List Int} (h : lims xs) {k : Nat} {y : Int} (hy : 0 ≤ y ∧ y < 1000000) : lims (xs.set k y) := fun x hx => by
  rcases List.mem_or_eq_of_mem_set hx with h1 | h1
  · exact h x h1
  · subst h1; exact hy
theorem lims.take {xs : List Int} (h : lims xs) (k : Nat) : lims (xs.take k) := fun x hx => h x (List.mem_of_mem_take hx)
theorem lims.drop {xs : List Int} (h : lims xs) (k : Nat) : lims (xs.drop k) := fun x hx => h x (List.mem_of_mem_drop hx)
theorem lims_zeros (n : Nat) : lims (List.replicate n 0) := fun x hx => by rw [List.eq_of_mem_replicate hx]; decide
theorem val_range : ∀ {xs : List Int}, lims xs → 0 ≤ val xs ∧ val xs < pw xs.length
  | [], _ => by decide
  | x :: xs, h => by
    have h1 := val_range (xs := xs) (fun y hy => h y (List.mem_cons_of_mem _ hy))
    have h2 := h x List.mem_cons_self
    show 0 ≤ x + 1000000 * val xs ∧ x + 1000000 * val xs < 1000000 * pw xs.length
    omega
/-- The limbs of a number. -/
def natL (n : Nat) : List Int := if h : n = 0 then [] else ((n % 1000000 : Nat) : Int) :: natL (n / 1000000)
  termination_by n
  decreasing_by omega
theorem natL_zero : natL 0 = [] := by rw [natL, dif_pos rfl]
theorem natL_pos {n : Nat} (h : 0 < n) : natL n = ((n % 1000000 : Nat) : Int) :: natL (n / 1000000) := by rw [natL, dif_neg (by omega)]
theorem val_natL (n : Nat) : val (natL n) = n := by
  induction n using Nat.strongRecOn with
  | _ n ih =>
    rcases Nat.eq_zero_or_pos n with h | h
    · subst h; rw [natL_zero]; rfl
    · rw [natL_pos h]
      show ((n % 1000000 : Nat) : Int) + 1000000 * val (natL (n / 1000000)) = n
      rw [ih _ (by omega)]; omega
theorem lims_natL (n : Nat) : lims (natL n) := by
  induction n using Nat.strongRecOn with
  | _ n ih =>
    rcases Nat.eq_zero_or_pos n with h | h
    · subst h; rw [natL_zero]; exact lims_nil
    · rw [natL_pos h]
      intro x hx
      rcases List.mem_cons.1 hx with h1 | h1
      · omega
      · exact ih _ (by omega) x h1
theorem natL_nil_iff (n : Nat) : natL n = [] ↔ n = 0 := by
  constructor
  · intro h
    rcases Nat.eq_zero_or_pos n with h1 | h1
    · exact h1
    · rw [natL_pos h1] at h; cases h
  · rintro rfl; exact natL_zero
/-- The last limb is not 0. -/
def tight (xs : List Int) : Prop := ∀ h : xs ≠ [], xs.getLast h ≠ 0
theorem tight_natL (n : Nat) : tight (natL n) := by
  induction n using Nat.strongRecOn with
  | _ n ih =>
    rcases Nat.eq_zero_or_pos n with h | h
    · subst h; rw [natL_zero]; intro h; exact absurd rfl h
    · rw [natL_pos h]
      intro hne
      by_cases h2 : n / 1000000 = 0
      · simp only [h2, natL_zero, List.getLast_singleton]; omega
      · rw [List.getLast_cons (by rw [Ne, natL_nil_iff]; exact h2)]
        exact ih _ (by omega) _
theorem natL_val : ∀ {xs : List Int}, lims xs → tight xs → xs = natL (val xs).toNat
  | [], _, _ => by rw [show (val []).toNat = 0 from rfl, natL_zero]
  | x :: xs, h, ht => by
    have hx := h x List.mem_cons_self
    have hl : lims xs := fun y hy => h y (List.mem_cons_of_mem _ hy)
    have h1 := val_range hl
    have e : val (x :: xs) = x + 1000000 * val xs := rfl
    by_cases hn : xs = []
    · subst hn
      have h0 := ht (by simp)
      simp only [List.getLast_singleton] at h0
      rw [e, show val [] = 0 from rfl, natL_pos (by omega), show (x + 1000000 * 0).toNat % 1000000 = x.toNat by omega, show (x + 1000000 * 0).toNat / 1000000 = 0 by omega, natL_zero, Int.toNat_of_nonneg hx.1]
    · have ht2 : tight xs := fun h2 => by have := ht (by simp); rwa [List.getLast_cons h2] at this
      have ih := natL_val hl ht2
      have hv : 0 < val xs := by
        rcases Int.lt_or_le 0 (val xs) with h2 | h2
        · exact h2
        · rw [show (val xs).toNat = 0 by omega, natL_zero] at ih; exact absurd ih hn
      rw [e, natL_pos (by omega), show (x + 1000000 * val xs).toNat % 1000000 = x.toNat by omega, show (x + 1000000 * val xs).toNat / 1000000 = (val xs).toNat by omega, ← ih, Int.toNat_of_nonneg hx.1]
/-- Limbs without the zeros at the end. -/
theorem nat_trim_take {xs : List Int} (h : lims xs) {k : Nat} (hk : k ≤ xs.length) (h0 : ∀ j, k ≤ j → (hj : j < xs.length) → xs[j] = 0) (h1 : ∀ hj : 0 < k, xs[k - 1]'(by omega) ≠ 0) : xs.take k = natL (val xs).toNat := by
  have e : xs.drop k = List.replicate (xs.length - k) 0 := by
    apply List.ext_getElem
    · simp
    · intro i hi hi2
      rw [List.getElem_drop, List.getElem_replicate]
      exact h0 (k + i) (by omega) (by simp at hi; omega)
  have e2 : val xs = val (xs.take k) := by
    have := val_append (xs.take k) (xs.drop k)
    rw [List.take_append_drop, e, val_zeros] at this
    rw [this]; simp
  rw [e2]
  refine natL_val (h.take k) (fun hne => ?_)
  have hk0 : 0 < k := by
    rcases Nat.eq_zero_or_pos k with h2 | h2
    · subst h2; simp at hne
    · exact h2
  rw [List.getLast_eq_getElem]
  simp only [List.length_take, List.getElem_take]
  have := h1 hk0
  simpa [Nat.min_eq_left hk] using this
theorem natL_len_le {n k : Nat} (h : (n : Int) < pw k) : (natL n).length ≤ k := by
  induction k generalizing n with
  | zero =>
    have : n = 0 := by have e : pw 0 = 1 := rfl; omega
    subst this; rw [natL_zero]; exact Nat.le_refl _
  | succ k ih =>
    rcases Nat.eq_zero_or_pos n with h1 | h1
    · subst h1; rw [natL_zero]; exact Nat.zero_le _
    · rw [natL_pos h1, List.length_cons]
      have := ih (n := n / 1000000) (by rw [pw_succ] at h; omega)
      omega
theorem natL_lt (n : Nat) : (n : Int) < pw (natL n).length := by
  have := (val_range (lims_natL n)).2
  rwa [val_natL] at this
theorem natL_ge {n : Nat} (h : 0 < n) : pw ((natL n).length - 1) ≤ (n : Int) := by
  induction n using Nat.strongRecOn with
  | _ n ih =>
    rw [natL_pos h, List.length_cons, Nat.add_sub_cancel]
    by_cases h2 : n / 1000000 = 0
    · rw [h2, natL_zero]; show 1 ≤ _; omega
    · have h3 := ih (n / 1000000) (by omega) (by omega)
      have hl : 0 < (natL (n / 1000000)).length := by
        rcases Nat.eq_zero_or_pos (natL (n / 1000000)).length with h4 | h4
        · exact absurd ((natL_nil_iff _).1 (List.length_eq_zero_iff.1 h4)) h2
        · exact h4
      rw [show (natL (n / 1000000)).length = ((natL (n / 1000000)).length - 1) + 1 by omega, pw_succ]
      omega
theorem natL_len_mono {m n : Nat} (h : m ≤ n) : (natL m).length ≤ (natL n).length := natL_len_le (by have := natL_lt n; omega)
theorem natL_inj {m n : Nat} (h : natL m = natL n) : m = n := by
  have h1 := congrArg val h
  rw [val_natL, val_natL] at h1; omega
/-- An argument that is a natural. -/
def isNatB (xs : List Int) : Bool := decide (xs.length ≤ 40) && allIn xs 0 999999 && (match xs.getLast? with | none => true | some x => x != 0)
theorem isNatB_natL {n : Nat} (h : (natL n).length ≤ 40) : isNatB (natL n) = true := by
  unfold isNatB
  have h1 : allIn (natL n) 0 999999 = true := by
    unfold allIn
    rw [List.all_eq_true]
    intro x hx
    have := lims_natL n x hx
    exact (inB_iff _ _ _).2 (by omega)
  rw [decide_eq_true h, h1]
  have h2 := tight_natL n
  cases hl : (natL n).getLast? with
  | none => rfl
  | some x =>
    have hne : natL n ≠ [] := by intro h3; rw [h3] at hl; cases hl
    have h3 := h2 hne
    rw [List.getLast?_eq_some_getLast hne] at hl
    injection hl with hl
    rw [hl] at h3
    simpa using h3
end Go.Proofs.Ytpleclmlcojkdaa

/-
  Naturals by limbs: the steps of carrying, multiplying, subtracting, dividing, comparing and taking a root: plain laws.
-/
namespace Go.Proofs.Ytpleclmlcojkdaa
open Go.RowKit

/-! ### carrying -/
structure CarS (n : List Int) (i : Nat) (out : List Int) (c : Int) : Prop where
  len : out.length = i
  lim : lims out
  c0 : 0 ≤ c
  c1 : c ≤ 2000000000000
  eq : val n = val out + pw i * (c + val (n.drop i))
theorem CarS.start (n : List Int) : CarS n 0 [] 0 := ⟨rfl, lims_nil, by omega, by omega, by show val n = 0 + 1 * (0 + val n); omega⟩
theorem car_id (P V c1 D : Int) : V + P * (c1 + 1000000 * D) = V + P * (c1 % 1000000) + 1000000 * P * (c1 / 1000000 + D) := by
  have h := Int.mul_ediv_add_emod c1 1000000
  have e : P * c1 = P * (c1 % 1000000) + 1000000 * P * (c1 / 1000000) := by
    conv => lhs; rw [← h]
    rw [Int.mul_add, ← Int.mul_assoc, Int.mul_comm P 1000000]; omega
  rw [Int.mul_add, Int.mul_add, e, ← Int.mul_assoc, Int.mul_comm P 1000000]; omega
theorem CarS.step1 {n out : List Int} {i : Nat} {c : Int} (h : CarS n i out c) (hi : i < n.length) (hx : 0 ≤ n[i] ∧ n[i] ≤ 1000000000000000000) : CarS n (i + 1) (out ++ [(c + n[i]) % 1000000]) ((c + n[i]) / 1000000) := by
  obtain ⟨h1, h2, h3, h4, h5⟩ := h
  refine ⟨by simp [h1], h2.snoc (by omega), by omega, by omega, ?_⟩
  rw [h5, val_snoc, h1, val_drop hi, pw_succ, ← car_id, Int.add_assoc]
theorem CarS.step2 {n out : List Int} {i : Nat} {c : Int} (h : CarS n i out c) (hi : n.length ≤ i) : CarS n (i + 1) (out ++ [c % 1000000]) (c / 1000000) := by
  obtain ⟨h1, h2, h3, h4, h5⟩ := h
  refine ⟨by simp [h1], h2.snoc (by omega), by omega, by omega, ?_⟩
  rw [h5, val_snoc, h1, List.drop_eq_nil_of_le hi, List.drop_eq_nil_of_le (by omega), pw_succ, show val [] = 0 from rfl]
  have := car_id (pw i) (val out) c 0
  rw [show c + 1000000 * 0 = c + 0 by omega] at this
  exact this
theorem CarS.end_ {n out : List Int} {i : Nat} (h : CarS n i out 0) (hi : n.length ≤ i) : val out = val n := by
  rw [h.eq, List.drop_eq_nil_of_le hi, show val [] = 0 from rfl]; simp

/-! ### multiplying -/
structure MulI (a b : List Int) (i : Nat) (v0 : Int) (k : Nat) (arr : List Int) (c : Int) : Prop where
  len : arr.length = a.length + b.length
  lim : lims arr
  c0 : 0 ≤ c
  c1 : c < 1000000
  eq : val arr + c * pw (i + k) = v0 + a.getD i 0 * val (b.take k) * pw i
theorem mul_id (P q r x : Int) (h : x = 1000000 * q + r) : r * P + q * (1000000 * P) = x * P := by
  rw [h, Int.add_mul, ← Int.mul_assoc q, Int.mul_comm q 1000000]; omega
theorem MulI.start {a b arr : List Int} {i : Nat} (hl : arr.length = a.length + b.length) (hm : lims arr) : MulI a b i (val arr) 0 arr 0 :=
  ⟨hl, hm, by omega, by omega, by rw [List.take_zero]; show val arr + 0 * _ = _ + _ * 0 * _; simp⟩
theorem MulI.step1 {a b arr : List Int} {i k : Nat} {v0 c : Int} (h : MulI a b i v0 k arr c) (ha : lims a) (hb : lims b) (hi : i < a.length) (hk : k < b.length) (hj : i + k < arr.length) :
    MulI a b i v0 (k + 1) (arr.set (i + k) ((c + arr[i + k] + a[i] * b[k]) % 1000000)) ((c + arr[i + k] + a[i] * b[k]) / 1000000) ∧ 0 ≤ c + arr[i + k] + a[i] * b[k] ∧ c + arr[i + k] + a[i] * b[k] < 1000000000000 := by
  obtain ⟨h1, h2, h3, h4, h5⟩ := h
  have l1 := h2.at_ hj
  have l2 := ha.at_ hi
  have l3 := hb.at_ hk
  have p0 : 0 ≤ a[i] * b[k] := Int.mul_nonneg l2.1 l3.1
  have p1 : a[i] * b[k] ≤ 999999 * 999999 := Int.mul_le_mul (by omega) (by omega) l3.1 (by omega)
  obtain ⟨x, hx⟩ : ∃ x, x = c + arr[i + k] + a[i] * b[k] := ⟨_, rfl⟩
  rw [← hx]
  refine ⟨⟨by simp [h1], h2.set (by omega), by omega, by omega, ?_⟩, by omega, by omega⟩
  rw [val_set _ _ _ hj, show i + (k + 1) = (i + k) + 1 by omega, pw_succ, val_take_succ hk, Int.mul_add, Int.add_mul, ← Int.add_assoc, ← h5, Int.sub_mul]
  have e1 := mul_id (pw (i + k)) (x / 1000000) (x % 1000000) x (Int.mul_ediv_add_emod x 1000000).symm
  have e2 : a.getD i 0 = a[i] := by rw [List.getD_eq_getElem?_getD, List.getElem?_eq_getElem hi]; rfl
  have e3 : a[i] * (b[k] * pw k) * pw i = a[i] * b[k] * pw (i + k) := by rw [pw_add, Int.mul_comm (pw i), ← Int.mul_assoc, ← Int.mul_assoc]
  have e4 : x * pw (i + k) = c * pw (i + k) + arr[i + k] * pw (i + k) + a[i] * b[k] * pw (i + k) := by rw [hx, Int.add_mul, Int.add_mul]
  rw [e2, e3]
  omega
theorem MulI.step2 {a b arr : List Int} {i k : Nat} {v0 c : Int} (h : MulI a b i v0 k arr c) (hk : b.length ≤ k) (hj : i + k < arr.length) :
    MulI a b i v0 (k + 1) (arr.set (i + k) ((c + arr[i + k]) % 1000000)) ((c + arr[i + k]) / 1000000) := by
  obtain ⟨h1, h2, h3, h4, h5⟩ := h
  have l1 := h2.at_ hj
  obtain ⟨x, hx⟩ : ∃ x, x = c + arr[i + k] := ⟨_, rfl⟩
  rw [← hx]
  refine ⟨by simp [h1], h2.set (by omega), by omega, by omega, ?_⟩
  rw [val_set _ _ _ hj, show i + (k + 1) = (i + k) + 1 by omega, pw_succ, Int.sub_mul]
  rw [List.take_of_length_le hk] at h5
  rw [List.take_of_length_le (by omega), ← h5]
  have e1 := mul_id (pw (i + k)) (x / 1000000) (x % 1000000) x (Int.mul_ediv_add_emod x 1000000).symm
  have e4 : x * pw (i + k) = c * pw (i + k) + arr[i + k] * pw (i + k) := by rw [hx, Int.add_mul]
  omega
theorem mul_next {a b : List Int} {i : Nat} (hi : i < a.length) : val (a.take i) * val b + a.getD i 0 * val b * pw i = val (a.take (i + 1)) * val b := by
  have e2 : a.getD i 0 = a[i] := by rw [List.getD_eq_getElem?_getD, List.getElem?_eq_getElem hi]; rfl
  rw [val_take_succ hi, Int.add_mul, e2, Int.mul_assoc a[i], Int.mul_comm (val b), ← Int.mul_assoc]
/-- Behind the last limb of b there is a carry at most once. -/
theorem MulI.bound {a b arr : List Int} {i k : Nat} {c : Int} (h : MulI a b i (val (a.take i) * val b) k arr c) (ha : lims a) (hb : lims b) (hi : i < a.length) (hc : 0 < c) : k ≤ b.length := by
  rcases Nat.lt_or_ge b.length k with hk | hk
  · have e := h.eq
    rw [List.take_of_length_le (l := b) (by omega), mul_next hi] at e
    have v1 := val_range (ha.take (i + 1))
    have v2 := val_range hb
    have v3 := val_range h.lim
    have l1 : (a.take (i + 1)).length = i + 1 := by rw [List.length_take]; omega
    rw [l1] at v1
    have m1 : val (a.take (i + 1)) * val b ≤ val (a.take (i + 1)) * pw b.length := Int.mul_le_mul_of_nonneg_left (by omega) v1.1
    have m2 : val (a.take (i + 1)) * pw b.length < pw (i + 1) * pw b.length := Int.mul_lt_mul_of_pos_right v1.2 (pw_pos _)
    rw [← pw_add] at m2
    have m3 : pw (i + 1 + b.length) ≤ pw (i + k) := pw_mono (by omega)
    have m4 : 1 * pw (i + k) ≤ c * pw (i + k) := Int.mul_le_mul_of_nonneg_right (by omega) (Int.le_of_lt (pw_pos _))
    omega
  · exact hk
theorem MulI.end_ {a b arr : List Int} {i k : Nat} (h : MulI a b i (val (a.take i) * val b) k arr 0) (hi : i < a.length) (hk : b.length ≤ k) : val arr = val (a.take (i + 1)) * val b := by
  have e := h.eq
  rw [List.take_of_length_le (l := b) hk, mul_next hi] at e
  simpa using e

/-! ### subtracting -/
structure SubS (a b : List Int) (i : Nat) (out : List Int) : Prop where
  len : out.length = a.length
  low : ∀ j, j < i → (hj : j < out.length) → 0 ≤ out[j] ∧ out[j] < 1000000
  at_ : (hj : i < out.length) → -1 ≤ out[i] ∧ out[i] < 1000000
  hi : ∀ j, i < j → (hj : j < out.length) → 0 ≤ out[j] ∧ out[j] < 1000000
  eq : val out = val a - val (b.take i)
theorem SubS.start {a : List Int} (b : List Int) (h : lims a) : SubS a b 0 a :=
  ⟨rfl, fun j hj => by omega, fun hj => by have := h.at_ hj; omega, fun j _ hj => h.at_ hj, by rw [List.take_zero]; show val a = val a - 0; omega⟩
theorem SubS.step {a b out : List Int} {i : Nat} (h : SubS a b i out) (hi : i < out.length) {y s : Int} (hs : val (b.take (i + 1)) = val (b.take i) + s * pw i) (hy : y = out[i] - s) (hr : 0 ≤ y ∧ y < 1000000) : SubS a b (i + 1) (out.set i y) := by
  refine ⟨by simp [h.len], fun j h1 h2 => ?_, fun h2 => ?_, fun j h1 h2 => ?_, ?_⟩
  · rw [List.getElem_set]
    split
    · exact hr
    · exact h.low j (by omega) (by simpa using h2)
  · rw [List.getElem_set_ne (by omega)]
    have := h.hi (i + 1) (by omega) (by simpa using h2)
    omega
  · rw [List.getElem_set_ne (by omega)]
    exact h.hi j (by omega) (by simpa using h2)
  · rw [val_set _ _ _ hi, h.eq, hs, hy, Int.sub_mul, Int.sub_mul]; omega
theorem SubS.borrow {a b out : List Int} {i : Nat} (h : SubS a b i out) (hi : i < out.length) (hi1 : i + 1 < out.length) {y s : Int} (hs : val (b.take (i + 1)) = val (b.take i) + s * pw i) (hy : y = out[i] - s) (hr : -1000000 ≤ y ∧ y < 0) :
    SubS a b (i + 1) ((out.set i (y + 1000000)).set (i + 1) (out[i + 1] - 1)) := by
  refine ⟨by simp [h.len], fun j h1 h2 => ?_, fun h2 => ?_, fun j h1 h2 => ?_, ?_⟩
  · rw [List.getElem_set_ne (by omega), List.getElem_set]
    split
    · omega
    · exact h.low j (by omega) (by simpa using h2)
  · rw [List.getElem_set_self]
    have := h.hi (i + 1) (by omega) hi1
    omega
  · rw [List.getElem_set_ne (by omega), List.getElem_set_ne (by omega)]
    exact h.hi j (by omega) (by simpa using h2)
  · rw [val_set _ _ _ (by simpa using hi1), val_set _ _ _ hi, h.eq, hs, hy, List.getElem_set_ne (by omega), pw_succ]
    have e1 : (out[i] - s + 1000000 - out[i]) * pw i = 1000000 * pw i - s * pw i := by rw [show out[i] - s + 1000000 - out[i] = 1000000 - s by omega, Int.sub_mul]
    have e2 : (out[i + 1] - 1 - out[i + 1]) * (1000000 * pw i) = - (1000000 * pw i) := by rw [show out[i + 1] - 1 - out[i + 1] = -1 by omega]; omega
    rw [e1, e2]; omega
/-- There is no borrow at the end. -/
theorem SubS.no_borrow {a b out : List Int} {i : Nat} (h : SubS a b i out) (hi : i < out.length) (hb : b.length ≤ a.length) (hv : val b ≤ val a) {y s : Int} (hs : val (b.take (i + 1)) = val (b.take i) + s * pw i) (hy : y = out[i] - s) (hr : y < 0) : i + 1 < out.length := by
  rcases Nat.lt_or_ge (i + 1) out.length with h1 | h1
  · exact h1
  · have e1 : val (out.set i y) = val a - val b := by
      rw [val_set _ _ _ hi, h.eq, hy]
      have e : b.take (i + 1) = b := List.take_of_length_le (by have := h.len; omega)
      rw [e] at hs
      rw [hs, Int.sub_mul, Int.sub_mul]; omega
    have e2 : out.set i y = out.take i ++ [y] := by
      rw [List.set_eq_take_append_cons_drop, if_pos hi, List.drop_eq_nil_of_le (by omega)]
    rw [e2, val_snoc, List.length_take, Nat.min_eq_left (by omega)] at e1
    have hl : lims (out.take i) := fun x hx => by
      obtain ⟨j, hj, rfl⟩ := List.getElem_of_mem hx
      rw [List.getElem_take]
      exact h.low j (by rw [List.length_take] at hj; omega) (by rw [List.length_take] at hj; omega)
    have v := val_range hl
    rw [List.length_take, Nat.min_eq_left (by omega)] at v
    have m : pw i * y ≤ pw i * (-1) := Int.mul_le_mul_of_nonneg_left (by omega) (Int.le_of_lt (pw_pos _))
    omega
theorem SubS.end_ {a b out : List Int} {i : Nat} (h : SubS a b i out) (hi : out.length ≤ i) (hb : b.length ≤ a.length) : lims out ∧ val out = val a - val b := by
  refine ⟨fun x hx => ?_, ?_⟩
  · obtain ⟨j, hj, rfl⟩ := List.getElem_of_mem hx
    exact h.low j (by omega) hj
  · rw [h.eq, List.take_of_length_le (by have := h.len; omega)]

/-! ### dividing by a small number -/
structure DivS (a : List Int) (d : Int) (i : Nat) (out : List Int) (r : Int) : Prop where
  len : out.length = a.length
  lim : lims out
  r0 : 0 ≤ r
  r1 : r < d
  eq : val (a.drop i) = val (out.drop i) * d + r
theorem DivS.start {a : List Int} {d : Int} (h : 0 < d) : DivS a d a.length (List.replicate a.length 0) 0 :=
  ⟨by simp, lims_zeros _, by omega, h, by rw [List.drop_length, List.drop_eq_nil_of_le (by simp)]; show 0 = 0 * d + 0; omega⟩
theorem DivS.step {a out : List Int} {d r : Int} {i : Nat} (h : DivS a d (i + 1) out r) (ha : lims a) (hi : i < a.length) : DivS a d i (out.set i ((r * 1000000 + a[i]) / d)) ((r * 1000000 + a[i]) % d) := by
  obtain ⟨h1, h2, h3, h4, h5⟩ := h
  have l := ha.at_ hi
  have hio : i < out.length := by omega
  have q0 : 0 ≤ (r * 1000000 + a[i]) / d := Int.ediv_nonneg (by omega) (by omega)
  have q1 : (r * 1000000 + a[i]) / d < 1000000 := Int.ediv_lt_of_lt_mul (by omega) (by omega)
  refine ⟨by simp [h1], h2.set ⟨q0, q1⟩, Int.emod_nonneg _ (by omega), Int.emod_lt_of_pos _ (by omega), ?_⟩
  rw [val_drop hi, h5, val_drop (xs := out.set i _) (by simpa using hio), List.getElem_set_self, List.drop_set_of_lt (by omega)]
  have e := Int.mul_ediv_add_emod (r * 1000000 + a[i]) d
  have e3 : ((r * 1000000 + a[i]) / d + 1000000 * val (out.drop (i + 1))) * d = d * ((r * 1000000 + a[i]) / d) + 1000000 * (val (out.drop (i + 1)) * d) := by
    rw [Int.add_mul, Int.mul_comm _ d, Int.mul_assoc 1000000]
  rw [e3]
  omega
theorem DivS.end_ {a out : List Int} {d r : Int} (h : DivS a d 0 out r) : val out = val a / d ∧ r = val a % d := by
  have e := h.eq
  rw [List.drop_zero, List.drop_zero] at e
  have hd : 0 < d := by have := h.r0; have := h.r1; omega
  rw [e, Int.mul_comm, Int.add_comm, Int.add_mul_ediv_left _ _ (by omega), Int.add_mul_emod_self_left, Int.ediv_eq_zero_of_lt h.r0 h.r1, Int.emod_eq_of_lt h.r0 h.r1]
  exact ⟨by omega, rfl⟩

/-! ### comparing -/
theorem val_lt_of {a b : List Int} {i : Nat} (ha : lims a) (hb : lims b) (hl : a.length = b.length) (hi : i < a.length) (he : a.drop (i + 1) = b.drop (i + 1)) (hlt : a[i] < b[i]'(by omega)) : val a < val b := by
  have e1 := val_append (a.take i) (a.drop i)
  have e2 := val_append (b.take i) (b.drop i)
  rw [List.take_append_drop] at e1 e2
  rw [val_drop hi] at e1
  rw [val_drop (show i < b.length by omega), ← he] at e2
  have v1 := val_range (ha.take i)
  have v2 := val_range (hb.take i)
  rw [List.length_take, Nat.min_eq_left (by omega)] at v1 e1
  rw [List.length_take, Nat.min_eq_left (by omega)] at v2 e2
  have m : pw i * (a[i] + 1) ≤ pw i * b[i]'(by omega) := Int.mul_le_mul_of_nonneg_left (by omega) (Int.le_of_lt (pw_pos _))
  rw [Int.mul_add] at m e1 e2
  omega
/-- What compareNaturals answers. -/
def cmpF (m n : Nat) : Int := if m < n then -1 else if m = n then 0 else 1
theorem cmpF_len {m n : Nat} (h : (natL m).length < (natL n).length) : m < n := by
  rcases Nat.lt_or_ge m n with h1 | h1
  · exact h1
  · have := natL_len_mono h1; omega

/-! ### roots -/
def isRoot (s n : Nat) : Prop := s * s ≤ n ∧ n < (s + 1) * (s + 1)
theorem isRoot.unique {s t n : Nat} (h : isRoot s n) (k : isRoot t n) : s = t := by
  rcases Nat.lt_trichotomy s t with h1 | h1 | h1
  · have h2 : (s + 1) * (s + 1) ≤ t * t := Nat.mul_le_mul h1 h1
    have := h.2; have := k.1; omega
  · exact h1
  · have h2 : (t + 1) * (t + 1) ≤ s * s := Nat.mul_le_mul h1 h1
    have := k.2; have := h.1; omega
/-- Limbs from i on are found: the rest is 0, and the number is the greatest multiple of pw i whose square is at most n. -/
structure RootS (n : Nat) (i : Nat) (root : List Int) : Prop where
  lim : lims root
  low : ∀ j, j < i → (hj : j < root.length) → root[j] = 0
  sq : val root * val root ≤ n
  next : (n : Int) < (val root + pw i) * (val root + pw i)
theorem RootS.start {n L : Nat} (h : (natL n).length ≤ 2 * L) : RootS n L (List.replicate L 0) := by
  refine ⟨lims_zeros _, fun j _ hj => by simp, by rw [val_zeros]; omega, ?_⟩
  rw [val_zeros, Int.zero_add, ← pw_add]
  have h1 := natL_lt n
  have h2 := pw_mono h
  rw [show L + L = 2 * L by omega]; omega
theorem RootS.set_val {n i : Nat} {root : List Int} (h : RootS n (i + 1) root) (hi : i < root.length) (d : Int) : val (root.set i d) = val root + d * pw i := by
  rw [val_set _ _ _ hi, h.low i (by omega) hi, Int.sub_zero]
theorem RootS.step {n i : Nat} {root : List Int} (h : RootS n (i + 1) root) (hi : i < root.length) {d : Int} (hd : 0 ≤ d ∧ d < 1000000) (h1 : val (root.set i d) * val (root.set i d) ≤ n)
    (h2 : d + 1 < 1000000 → (n : Int) < val (root.set i (d + 1)) * val (root.set i (d + 1))) : RootS n i (root.set i d) := by
  refine ⟨h.lim.set hd, fun j h3 hj => ?_, h1, ?_⟩
  · rw [List.getElem_set_ne (by omega)]; exact h.low j (by omega) (by simpa using hj)
  · rw [h.set_val hi]
    by_cases h3 : d + 1 < 1000000
    · have := h2 h3
      have e : val root + (d + 1) * pw i = val root + d * pw i + pw i := by rw [Int.add_mul d 1, Int.one_mul, ← Int.add_assoc]
      rw [h.set_val hi, e] at this
      exact this
    · have e : d * pw i + pw i = pw (i + 1) := by rw [pw_succ, show d = 999999 by omega]; omega
      rw [Int.add_assoc, e]; exact h.next
theorem RootS.end_ {n : Nat} {root : List Int} (h : RootS n 0 root) : isRoot (val root).toNat n := by
  have v := val_range h.lim
  have h1 := h.sq
  have h2 := h.next
  obtain ⟨s, hs⟩ : ∃ s : Nat, val root = (s : Int) := ⟨(val root).toNat, by omega⟩
  rw [hs] at h1 h2 ⊢
  rw [Int.toNat_natCast]
  refine ⟨by exact_mod_cast h1, ?_⟩
  have e : pw 0 = ((1 : Nat) : Int) := rfl
  rw [e] at h2
  exact_mod_cast h2
end Go.Proofs.Ytpleclmlcojkdaa

/-
  Pairs, tuples and sequences of naturals: plain laws.
-/
namespace Go.Proofs.Ytpleclmlcojkdaa
open Go.RowKit

def tri : Nat → Nat
  | 0 => 0
  | n + 1 => tri n + (n + 1)
theorem tri_two : ∀ n, tri n * 2 = n * (n + 1)
  | 0 => rfl
  | n + 1 => by
    show (tri n + (n + 1)) * 2 = (n + 1) * (n + 1 + 1)
    rw [Nat.add_mul, tri_two n, Nat.mul_comm n (n + 1), ← Nat.mul_add]
theorem tri_half (n : Nat) : n * (n + 1) / 2 = tri n := by rw [← tri_two]; omega
theorem tri_sq (n : Nat) : (2 * n + 1) * (2 * n + 1) = 8 * tri n + 1 := by
  have h := tri_two n
  have e : (2 * n + 1) * (2 * n + 1) = 4 * (n * (n + 1)) + 1 := by
    rw [Nat.add_mul, Nat.mul_add (2 * n), Nat.mul_add n n 1, Nat.mul_assoc 2 n, Nat.mul_left_comm n 2 n]; omega
  rw [e, ← h]; omega
theorem tri_mono {m n : Nat} (h : m ≤ n) : tri m ≤ tri n := by
  induction n with
  | zero => obtain rfl : m = 0 := by omega
            exact Nat.le_refl _
  | succ n ih =>
    rcases Nat.lt_or_ge m (n + 1) with h1 | h1
    · have := ih (by omega); show tri m ≤ tri n + (n + 1); omega
    · obtain rfl : m = n + 1 := by omega
      exact Nat.le_refl _
theorem tri_unique {s t n : Nat} (h1 : tri s ≤ n) (h2 : n < tri (s + 1)) (h3 : tri t ≤ n) (h4 : n < tri (t + 1)) : s = t := by
  rcases Nat.lt_trichotomy s t with h | h | h
  · have := tri_mono (show s + 1 ≤ t from h); omega
  · exact h
  · have := tri_mono (show t + 1 ≤ s from h); omega
def pairN (x y : Nat) : Nat := tri (x + y) + y
theorem root_tri {s n : Nat} (h : isRoot s (8 * n + 1)) : 1 ≤ s ∧ tri ((s - 1) / 2) ≤ n ∧ n < tri ((s - 1) / 2 + 1) := by
  obtain ⟨h1, h2⟩ := h
  have hs : 1 ≤ s := by
    rcases Nat.eq_zero_or_pos s with h | h
    · subst h; omega
    · exact h
  obtain ⟨m, hm⟩ : ∃ m, m = (s - 1) / 2 := ⟨_, rfl⟩
  rw [← hm]
  have h3 : (2 * m + 1) * (2 * m + 1) ≤ s * s := Nat.mul_le_mul (by omega) (by omega)
  have h4 : (s + 1) * (s + 1) ≤ (2 * (m + 1) + 1) * (2 * (m + 1) + 1) := Nat.mul_le_mul (by omega) (by omega)
  rw [tri_sq] at h3 h4
  exact ⟨hs, by omega, by omega⟩
/-- The parts of a pair. -/
theorem unpair_of {s n : Nat} (h : isRoot s (8 * n + 1)) : ∃ x y, n = pairN x y ∧ (s - 1) / 2 = x + y ∧ n - tri ((s - 1) / 2) = y := by
  obtain ⟨h1, h2, h3⟩ := root_tri h
  obtain ⟨m, hm⟩ : ∃ m, m = (s - 1) / 2 := ⟨_, rfl⟩
  rw [← hm] at h2 h3 ⊢
  have e : tri (m + 1) = tri m + (m + 1) := rfl
  refine ⟨m - (n - tri m), n - tri m, ?_, by omega, rfl⟩
  unfold pairN
  rw [show m - (n - tri m) + (n - tri m) = m by omega]; omega
theorem pairN_inj {x y x' y' : Nat} (h : pairN x y = pairN x' y') : x = x' ∧ y = y' := by
  unfold pairN at h
  have e1 : tri (x + y + 1) = tri (x + y) + (x + y + 1) := rfl
  have e2 : tri (x' + y' + 1) = tri (x' + y') + (x' + y' + 1) := rfl
  have e := tri_unique (s := x + y) (t := x' + y') (n := tri (x + y) + y) (by omega) (by omega) (by omega) (by omega)
  rw [e] at h
  omega
theorem pairN_lt {x y M : Nat} (hx : x ≤ 39) (hy : y ≤ M) : pairN x y + 1 ≤ (M + 40) * (M + 40) := by
  have h1 := tri_mono (show x + y ≤ M + 39 by omega)
  have h2 := tri_two (M + 39)
  have h3 : (M + 39) * (M + 39 + 1) ≤ (M + 40) * (M + 40) := Nat.mul_le_mul (by omega) (by omega)
  have h4 : (M + 40) * (M + 40) = (M + 40) * M + (M + 40) * 40 := by rw [← Nat.mul_add]
  unfold pairN
  omega
def tupN : List Nat → Nat
  | [] => 0
  | [x] => x
  | x :: y :: t => pairN x (tupN (y :: t))
def seqN : List Nat → Nat
  | [] => 0
  | x :: t => pairN x (seqN t) + 1
theorem tupN_cons {x : Nat} {t : List Nat} (h : t ≠ []) : tupN (x :: t) = pairN x (tupN t) := by
  cases t with
  | nil => exact absurd rfl h
  | cons y t => rfl
def bigN : Nat → Nat
  | 0 => 40
  | n + 1 => (bigN n + 40) * (bigN n + 40)
theorem tupN_lt : ∀ (l : List Nat), (∀ x ∈ l, x ≤ 39) → tupN l ≤ bigN l.length
  | [], _ => Nat.zero_le _
  | [x], h => by
    have := h x (by simp)
    show x ≤ (40 + 40) * (40 + 40)
    omega
  | x :: y :: t, h => by
    have ih := tupN_lt (y :: t) (fun z hz => h z (List.mem_cons_of_mem _ hz))
    have := pairN_lt (h x (by simp)) ih
    show pairN x (tupN (y :: t)) ≤ (bigN (y :: t).length + 40) * (bigN (y :: t).length + 40)
    omega
theorem seqN_lt : ∀ (l : List Nat), (∀ x ∈ l, x ≤ 39) → seqN l ≤ bigN l.length
  | [], _ => Nat.zero_le _
  | x :: t, h => by
    have ih := seqN_lt t (fun z hz => h z (List.mem_cons_of_mem _ hz))
    have := pairN_lt (h x (by simp)) ih
    show pairN x (seqN t) + 1 ≤ (bigN t.length + 40) * (bigN t.length + 40)
    omega
theorem bigN_mono : ∀ {m n : Nat}, m ≤ n → bigN m ≤ bigN n := by
  intro m n h
  obtain ⟨k, rfl⟩ : ∃ k, n = m + k := ⟨n - m, by omega⟩
  clear h
  induction k with
  | zero => exact Nat.le_refl _
  | succ k ih =>
    refine Nat.le_trans ih ?_
    show bigN (m + k) ≤ (bigN (m + k) + 40) * (bigN (m + k) + 40)
    have : (bigN (m + k) + 40) * 1 ≤ (bigN (m + k) + 40) * (bigN (m + k) + 40) := Nat.mul_le_mul_left _ (by omega)
    omega
theorem bigN_five : bigN 5 < 1000000 ^ 12 := by decide
theorem pw_eq : ∀ n : Nat, pw n = ((1000000 ^ n : Nat) : Int)
  | 0 => rfl
  | n + 1 => by rw [pw_succ, pw_eq n, Nat.pow_succ]; omega
theorem small_len {n k : Nat} (h : n ≤ bigN k) (hk : k ≤ 5) : (natL n).length ≤ 12 := natL_len_le (by
  have h1 := bigN_mono hk
  have h2 := bigN_five
  rw [pw_eq]
  have : n < 1000000 ^ 12 := by omega
  exact_mod_cast this)
end Go.Proofs.Ytpleclmlcojkdaa

/-
  Contracts of the laws' helpers over [][]int64: szInt64SS, toInt64SS, eqInt64SS, markInt64SS.
-/
namespace Go.Proofs.Ytpleclmlcojkdaa
open Go.RowKit

theorem elII : Elem Try.prog 48 25 1 24 (.slice none 0 0) := ⟨Try.underlying48, by kernel_rfl, rfl, by decide⟩

def ToII (w : World) (n : Nat) (xss : List (List Int)) (e : Ending) (w' : World) : Prop :=
  ∃ A us, e = .returned (.slice A n n) ∧ OII w' w.heap.size 25 2 A n n us ∧ nums us = xss ∧ (∀ u ∈ us, u.c = u.xs.length) ∧ Below w.heap.size w w'

theorem total_take {ts : List Sl} {t : Sl} {k : Nat} (hT : ts[k]? = some t) : total (ts.take (k + 1)) = total (ts.take k) + t.xs.length := by
  obtain ⟨h, rfl⟩ := List.getElem?_eq_some_iff.1 hT
  unfold total; rw [List.take_succ_eq_append_getElem h, List.map_append, List.sum_append]; simp
theorem total_take_le (ts : List Sl) (k : Nat) : total (ts.take k) ≤ total ts := by
  have e : total ts = total (ts.take k) + total (ts.drop k) := by unfold total; rw [← List.sum_append, ← List.map_append, List.take_append_drop]
  omega

end Go.Proofs.Ytpleclmlcojkdaa

/-
  Contracts of impl's functions over naturals by limbs: IsNatural, trimmed, carried, naturalOf, compareNaturals, limited.
-/
namespace Go.Proofs.Ytpleclmlcojkdaa
open Go.RowKit

theorem allIn_natL (x : Nat) : allIn (natL x) 0 999999 = true := by
  unfold allIn
  rw [List.all_eq_true]
  intro y hy
  have := lims_natL x y hy
  exact (inB_iff _ _ _).2 (by omega)
theorem allWithin_ok {xs : List Int} {lo hi : Int} {v : Bool} (h : allIn xs lo hi = v) (A : Option Addr) (n c : Nat) (w : World) (hx : SI w A n xs) (hn : n ≤ 9223372036854775807) :
    Calls Try.prog 113 #[.slice A n c, .int .i64 lo, .int .i64 hi] w fun e w' => e = .returned (.bool v) ∧ w = w' := h ▸ allWithin_any A n c xs lo hi w hx hn
set_option maxHeartbeats 1000000 in
theorem isNatural_any (A : Option Addr) (n c x : Nat) (w : World) (hx : SI w A n (natL x)) (hn : n ≤ 1048576) :
    Calls Try.prog 95 #[.slice A n c] w fun e w' => e = .returned (.bool (decide (n ≤ 40))) ∧ w = w' := by
  have HA := Lib.hid (allWithin_ok (allIn_natL x) A n c w hx (by omega))
  by_cases h40 : n ≤ 40
  · have i1 : (n : Int) ≤ 40 := by omega
    have HD : Hid (decide (n ≤ 40) = true) := Lib.hid (decide_eq_true h40)
    rcases Nat.eq_zero_or_pos n with h0 | h0
    · subst h0
      go_enter Try.func95, Try.ntmps95
      go_wp2_with (go_at_call 113; refine HA.out.mono ?_; rintro e w' ⟨rfl, rfl⟩)
      go_ret
      exact ⟨ret_bool (by rw [HD.out]), rfl⟩
    · obtain ⟨i, hi⟩ : ∃ i, i = n - 1 := ⟨_, rfl⟩
      have wi : IntKind.i64.wrap ((n : Int) - 1) = (i : Int) := by rw [show (n : Int) - 1 = (i : Int) by omega]; exact IntWalk.i64_in _ (by omega)
      obtain ⟨b, off, rfl, _, hc⟩ := hx.at_ (k := i) (by omega)
      have hl := hx.len
      obtain ⟨y, hy⟩ : ∃ y, (natL x)[i]'(by omega) = y := ⟨_, rfl⟩
      have hy0 : (y != 0) = true := by
        have h1 := tight_natL x (by intro h; rw [h] at hl; simp at hl; omega)
        rw [List.getLast_eq_getElem] at h1
        have e : (natL x)[(natL x).length - 1]'(by omega) = y := by rw [← hy]; congr 1; omega
        rw [e] at h1
        simpa using h1
      rw [hy] at hc
      have i2 : (0 : Int) ≤ (i : Int) := by omega
      have i3 : (i : Int) < (n : Int) := by omega
      have i4 : ((n : Int) == 0) = false := by simp; omega
      clear hy hl hi
      go_enter Try.func95, Try.ntmps95
      go_wp2_with (go_at_call 113; refine HA.out.mono ?_; rintro e w' ⟨rfl, rfl⟩)
      go_ret
      exact ⟨ret_bool (by first | exact HD.out.symm | (rw [HD.out]; exact hy0)), rfl⟩
  · have i1 : ¬ (n : Int) ≤ 40 := by omega
    have HD : Hid (decide (n ≤ 40) = false) := Lib.hid (decide_eq_false h40)
    go_enter Try.func95, Try.ntmps95
    go_wp2_with fail
    go_ret
    exact ⟨ret_bool (by first | rfl | exact HD.out.symm), rfl⟩
set_option maxHeartbeats 1000000 in
theorem limited_any (A : Option Addr) (n c : Nat) (w : World) (hn : n ≤ 40) :
    Calls Try.prog 98 #[.slice A n c] w fun e w' => e = .returned (.tuple #[.slice A n c, .int .i64 0]) ∧ w = w' := by
  have i1 : ¬ (40 : Int) < (n : Int) := by omega
  go_enter Try.func98, Try.ntmps98
  go_wp2_with fail
  exact bodyPost_ret (v := .tuple #[.slice A n c, .int .i64 0]) (by simp [results, Try.results98, go_sem]) rfl ⟨rfl, rfl⟩
set_option maxHeartbeats 2000000 in
theorem trimmed_any (A : Option Addr) (n c lo : Nat) (xs : List Int) (w : World) (h : Own w lo 2 1 A n c (ints xs)) (hl : lims xs) (hn : n ≤ 1048576) :
    Calls Try.prog 183 #[.slice A n c] w fun e w' => e = .returned (.slice A (natL (val xs).toNat).length c) ∧ Own w lo 2 1 A (natL (val xs).toNat).length c (ints (natL (val xs).toNat)) ∧ w = w' := by
  have HO := Lib.hid h
  have HC : Hid (n ≤ c) := Lib.hid h.le
  have hlen : xs.length = n := (show SI w A n xs from h.rd).len
  have HL := Lib.hid hlen
  have hx : SI w A n xs := h.rd
  clear h
  go_enter Try.func183, Try.ntmps183
  go_wp2_with fail
  go_loop [0] (fun s => ∃ k : Nat, k ≤ n ∧ s = .slice A k c ∧ Hid (∀ j, k ≤ j → (hj : j < xs.length) → xs[j] = 0)) (fun s => match s with | .slice _ k _ => k | _ => 0)
  case atStart => exact ⟨n, Nat.le_refl _, rfl, Lib.hid (fun j h1 h2 => by rw [hlen] at h2; omega)⟩
  case round =>
    obtain ⟨k, hk, rfl, HZ⟩ := hrel
    rcases Nat.eq_zero_or_pos k with h0 | h0
    · subst h0
      have HE : Hid (natL (val xs).toNat = []) := Lib.hid (by
        have := nat_trim_take hl (k := 0) (Nat.zero_le _) HZ.out (fun hj => by omega)
        rw [← this]; rfl)
      go_wp2_with fail
      go_ret
      rw [HE.out]
      exact ⟨rfl, by
        have := HO.out.cut (i := 0) (j := 0) (Nat.le_refl _) (Nat.zero_le _) (fun e => e) (fun b off e => .inl (by rw [e]; rfl))
        simpa [ints] using this, rfl⟩
    · obtain ⟨i, hi⟩ : ∃ i, i = k - 1 := ⟨_, rfl⟩
      have wi : IntKind.i64.wrap ((k : Int) - 1) = (i : Int) := by rw [show (k : Int) - 1 = (i : Int) by omega]; exact IntWalk.i64_in _ (by omega)
      obtain ⟨b, off, rfl, _, hc⟩ := hx.at_ (k := i) (by omega)
      obtain ⟨y, hy⟩ : ∃ y, xs[i]'(by omega) = y := ⟨_, rfl⟩
      rw [hy] at hc
      have i1 : (0 : Int) < (k : Int) := by omega
      have i2 : (0 : Int) ≤ (i : Int) := by omega
      have i3 : (i : Int) < (k : Int) := by omega
      have i4 : ¬ (c : Int) < (i : Int) := by have := HC.out; omega
      have i5 : ¬ (i : Int) < 0 := by omega
      by_cases hy0 : y = 0
      · have e0 : (y == 0) = true := by simpa using hy0
        have HZ2 : Hid (∀ j, i ≤ j → (hj : j < xs.length) → xs[j] = 0) := Lib.hid (fun j h1 h2 => by
          by_cases h3 : j = i
          · subst h3; rw [hy]; exact hy0
          · exact HZ.out j (by omega) h2)
        have hik : i ≤ n ∧ i < k := by omega
        clear hy hy0 hi
        go_wp2_with fail
        go_round
        case rel => exact ⟨i, by omega, by first | rfl | simp, HZ2⟩
        case measure => dsimp only; omega
      · have e0 : (y == 0) = false := by simpa using hy0
        have HE : Hid (natL (val xs).toNat = xs.take k) := Lib.hid (nat_trim_take hl (by omega) HZ.out (fun hj => by
          have e : xs[k - 1]'(by omega) = y := by rw [← hy]; congr 1; omega
          rw [e]; exact hy0)).symm
        have HLK : Hid ((xs.take k).length = k) := Lib.hid (by rw [List.length_take]; omega)
        clear hy hy0 hi
        go_wp2_with fail
        go_ret
        rw [HE.out, HLK.out]
        exact ⟨rfl, by
          have := HO.out.cut (i := 0) (j := k) (Nat.zero_le _) hk (fun e => e) (fun b off e => .inl (by rw [e]; rfl))
          simpa [ints_take] using this, rfl⟩
/-- A natural in new memory. -/
def NewN (w : World) (x : Nat) (e : Ending) (w' : World) : Prop := NewI w (natL x) e w'
set_option maxHeartbeats 4000000 in
theorem carried_any (A : Option Addr) (n c : Nat) (xs : List Int) (w : World) (hx : SI w A n xs) (hn : n ≤ 1000000) (hr : ∀ x ∈ xs, 0 ≤ x ∧ x ≤ 1000000000000000000) :
    Calls Try.prog 184 #[.slice A n c] w (NewN w (val xs).toNat) := by
  have hlen := hx.len
  have HLEN := Lib.hid hlen
  have HR := Lib.hid hr
  clear hr
  go_enter Try.func184, Try.ntmps184
  obtain ⟨W1, hW_⟩ : ∃ W_, W_ = w.alloc (.cells #[] 2) := ⟨_, rfl⟩
  have b1 : Blk W1 w.heap.size 2 #[] := by rw [hW_]; exact Blk.new w _ _
  have z1 : Below w.heap.size w W1 := by rw [hW_]; exact (Below.refl _ _).alloc (Nat.le_refl _) _
  have HW1 := Lib.hid hW_
  clear hW_
  have o1 : Own W1 w.heap.size 2 1 (some ⟨w.heap.size, 0, none⟩) 0 0 (ints []) := by rw [HW1.out]; exact Own.lit0 w _ 1
  go_upto_region 2 with fail
  rw [← HW1.out]
  go_wp2_with fail
  go_loopw [3, 4, 5] (fun v cc i wr => ∃ (j : Nat) (D : Option Addr) (d : Nat) (out : List Int) (cy : Int), i = .int .i64 (j : Int) ∧ cc = .int .i64 cy ∧ v = .slice D j d ∧ Own wr w.heap.size 2 1 D j d (ints out) ∧ Below w.heap.size w wr ∧ Hid (CarS xs j out cy) ∧ Hid (j ≤ n ∨ (j = n + 1 ∧ cy ≤ 2000000) ∨ (j = n + 2 ∧ cy ≤ 2) ∨ (j = n + 3 ∧ cy = 0))) (fun _ cc i _ => (n - (intOf i).toNat) * 10000000000000 + (intOf cc).toNat)
  case atStart => exact ⟨0, _, 0, [], 0, rfl, rfl, rfl, o1, z1, Lib.hid (CarS.start xs), Lib.hid (.inl (Nat.zero_le _))⟩
  case round =>
    obtain ⟨j, D, d, out, cy, rfl, rfl, rfl, ho, hz, HS, HB⟩ := hrel
    clear o1 z1 b1
    have hc0 := HS.out.c0
    have hc1 := HS.out.c1
    have hjn : j ≤ n + 3 := by have := HB.out; omega
    by_cases hlt : j < n
    · have i1 : (j : Int) < (n : Int) := by omega
      have i2 : (0 : Int) ≤ (j : Int) := by omega
      obtain ⟨b, off, rfl, _, hcell⟩ := (hx.below hz).at_ hlt
      obtain ⟨y, hy⟩ : ∃ y, xs[j]'(by omega) = y := ⟨_, rfl⟩
      have hyr := HR.out _ (List.getElem_mem (show j < xs.length by omega))
      have HS2 := HS.out.step1 (show j < xs.length by omega) hyr
      rw [hy] at hcell hyr HS2
      obtain ⟨t, ht⟩ : ∃ t, cy + y = t := ⟨_, rfl⟩
      rw [ht] at HS2
      have HS2 := Lib.hid HS2
      have wt : IntKind.i64.wrap (cy + y) = t := by rw [ht]; exact IntWalk.i64_in _ (by omega)
      have ht0 : 0 ≤ t := by omega
      have ht1 : t ≤ 1000002000000000000 := by omega
      have wq : IntKind.i64.wrap (Int.tdiv t 1000000) = t / 1000000 := by rw [Int.tdiv_eq_ediv_of_nonneg ht0]; exact IntWalk.i64_in _ (by omega)
      have wm : IntKind.i64.wrap (Int.tmod t 1000000) = t % 1000000 := by rw [Int.tmod_eq_emod_of_nonneg ht0]; exact IntWalk.i64_in _ (by omega)
      have wj : IntKind.i64.wrap ((j : Int) + 1) = (j : Int) + 1 := IntWalk.i64_in _ (by omega)
      clear hy ht hyr
      go_wp2_with (at_builtin; refine wpList_append_Own rfl (.tmp 27) (.tmp 30) rfl elI (lo := w.heap.size) rfl (ho.alloc _) rfl (Rd.new1 wr _ _) (ints_one [t % 1000000]) (by omega) (by simp only [maxLen]; omega) (by have := hz.size; simp; omega) ?_; intro A2 c2 w2 ho2 hg2 _)
      have hz2 := (ho.alloc _).below_of (hz.alloc hz.size _) hg2 (by have := hz.size; simp; omega)
      go_wp2_with fail
      go_roundw
      case rel =>
        exact ⟨j + 1, A2, c2, out ++ [t % 1000000], t / 1000000, by go_num, by first | rfl | rw [wq], rfl, by simpa [ints] using ho2, hz2, HS2, Lib.hid (.inl (by omega))⟩
      case measure => simp [intOf]; omega
    · have i1 : ¬ (j : Int) < (n : Int) := by omega
      by_cases hcy : 0 < cy
      · have HS2 := Lib.hid (HS.out.step2 (show xs.length ≤ j by omega))
        have HB2 : Hid (j + 1 ≤ n ∨ (j + 1 = n + 1 ∧ cy / 1000000 ≤ 2000000) ∨ (j + 1 = n + 2 ∧ cy / 1000000 ≤ 2) ∨ (j + 1 = n + 3 ∧ cy / 1000000 = 0)) := Lib.hid (by have := HB.out; omega)
        have wq : IntKind.i64.wrap (Int.tdiv cy 1000000) = cy / 1000000 := by rw [Int.tdiv_eq_ediv_of_nonneg hc0]; exact IntWalk.i64_in _ (by omega)
        have wm : IntKind.i64.wrap (Int.tmod cy 1000000) = cy % 1000000 := by rw [Int.tmod_eq_emod_of_nonneg hc0]; exact IntWalk.i64_in _ (by omega)
        have wj : IntKind.i64.wrap ((j : Int) + 1) = (j : Int) + 1 := IntWalk.i64_in _ (by omega)
        go_wp2_with (at_builtin; refine wpList_append_Own rfl (.tmp 27) (.tmp 30) rfl elI (lo := w.heap.size) rfl (ho.alloc _) rfl (Rd.new1 wr _ _) (ints_one [cy % 1000000]) (by omega) (by simp only [maxLen]; omega) (by have := hz.size; simp; omega) ?_; intro A2 c2 w2 ho2 hg2 _)
        have hz2 := (ho.alloc _).below_of (hz.alloc hz.size _) hg2 (by have := hz.size; simp; omega)
        go_wp2_with fail
        go_roundw
        case rel =>
          exact ⟨j + 1, A2, c2, out ++ [cy % 1000000], cy / 1000000, by go_num, by first | rfl | rw [wq], rfl, by simpa [ints] using ho2, hz2, HS2, HB2⟩
        case measure => simp [intOf]; omega
      · obtain rfl : cy = 0 := by omega
        have HV : Hid (val out = val xs) := Lib.hid (HS.out.end_ (show xs.length ≤ j by omega))
        have HL := Lib.hid HS.out.lim
        go_wp2_with fail
        refine (trimmed_any D j d w.heap.size out wr ho HL.out (by omega)).mono ?_
        rintro e w' ⟨rfl, ho2, rfl⟩
        rw [HV.out] at ho2 ⊢
        go_wp2_with fail
        go_ret
        exact ⟨D, d, rfl, ho2, hz⟩
set_option maxHeartbeats 1000000 in
theorem naturalOf_any (x : Int) (w : World) (h0 : 0 ≤ x) (h1 : x ≤ 1000000000000000000) : Calls Try.prog 116 #[.int .i64 x] w (NewN w x.toNat) := by
  have hv : (val [x]).toNat = x.toNat := by show (x + 1000000 * 0).toNat = _; simp
  have HC := Lib.hid (fun (A : Option Addr) (c : Nat) (W : World) (hx : SI W A 1 [x]) => carried_any A 1 c [x] W hx (by omega) (fun y hy => by simp at hy; subst hy; exact ⟨h0, h1⟩))
  rw [hv] at HC
  clear hv
  obtain ⟨W1, hW_⟩ : ∃ W_, W_ = w.alloc (.cells #[.int .i64 x] 2) := ⟨_, rfl⟩
  have b1 : Blk W1 w.heap.size 2 #[.int .i64 x] := by rw [hW_]; exact Blk.new w _ _
  have z1 : Below w.heap.size w W1 := by rw [hW_]; exact (Below.refl _ _).alloc (Nat.le_refl _) _
  have HW1 := Lib.hid hW_
  clear hW_
  have hr : SI W1 (some ⟨w.heap.size, 0, none⟩) 1 [x] := by rw [HW1.out]; exact Rd.new1 w (.int .i64 x) _
  go_enter Try.func116, Try.ntmps116
  go_wp2_with fail
  rw [← HW1.out]
  refine (HC.out _ _ _ hr).mono ?_
  rintro e w' ⟨A, c, rfl, ho, hz⟩
  go_wp2_with fail
  go_ret
  exact ⟨A, c, rfl, ho.mono z1.size, z1.trans (hz.mono z1.size)⟩
set_option maxRecDepth 100000 in
set_option maxHeartbeats 2000000 in
theorem compare_any (A : Option Addr) (n c x : Nat) (B : Option Addr) (m d y : Nat) (w : World) (hx : SI w A n (natL x)) (hy : SI w B m (natL y)) (hn : n ≤ 1048576) (hm : m ≤ 1048576) :
    Calls Try.prog 120 #[.slice A n c, .slice B m d] w fun e w' => e = .returned (.int .i64 (cmpF x y)) ∧ ∃ k, w' = w.drewN k := by
  have hlx := hx.len
  have hly := hy.len
  by_cases hne : n = m
  rotate_left
  · have i0 : ((n : Int) != (m : Int)) = true := by simp; omega
    by_cases hlt : n < m
    · have i1 : (n : Int) < (m : Int) := by omega
      have HE : Hid (cmpF x y = -1) := Lib.hid (by unfold cmpF; rw [if_pos (cmpF_len (by omega))])
      go_enter Try.func120, Try.ntmps120
      go_wp2_with fail
      go_ret
      exact ⟨by rw [HE.out] <;> rfl, 0, rfl⟩
    · have i1 : ¬ (n : Int) < (m : Int) := by omega
      have HE : Hid (cmpF x y = 1) := Lib.hid (by have := cmpF_len (m := y) (n := x) (by omega); unfold cmpF; rw [if_neg (by omega), if_neg (by omega)])
      go_enter Try.func120, Try.ntmps120
      go_wp2_with fail
      go_ret
      exact ⟨by rw [HE.out] <;> rfl, 0, rfl⟩
  subst hne
  have i0 : ((n : Int) != (n : Int)) = false := by simp
  have HLX := Lib.hid hlx
  have HLY := Lib.hid hly
  have wn : IntKind.i64.wrap ((n : Int) - 1) = (n : Int) - 1 := IntWalk.i64_in _ (by omega)
  clear hlx hly
  go_enter Try.func120, Try.ntmps120
  go_upto_region 6 with fail
  go_loopw [5] (fun s wr => ∃ (j k : Nat), j ≤ n ∧ s = .int .i64 ((j : Int) - 1) ∧ Hid ((natL x).drop j = (natL y).drop j) ∧ wr = w.drewN k) (fun s _ => (intOf s + 1).toNat)
  case atStart => exact ⟨n, 0, Nat.le_refl _, rfl, Lib.hid (by rw [List.drop_eq_nil_of_le (by rw [HLX.out]; exact Nat.le_refl _), List.drop_eq_nil_of_le (by rw [HLY.out]; exact Nat.le_refl _)]), rfl⟩
  case round =>
    obtain ⟨j, k, hj, rfl, HD, rfl⟩ := hrel
    rcases Nat.eq_zero_or_pos j with h0 | h0
    · subst h0
      have HE : Hid (cmpF x y = 0) := Lib.hid (by
        have := HD.out
        rw [List.drop_zero, List.drop_zero] at this
        have e := natL_inj this
        unfold cmpF; rw [if_neg (by omega), if_pos e])
      have i1 : ¬ (0 : Int) ≤ ((0 : Nat) : Int) - 1 := by omega
      go_wp2_with fail
      go_ret
      exact ⟨by rw [HE.out] <;> rfl, k, rfl⟩
    · obtain ⟨i, rfl⟩ : ∃ i, j = i + 1 := ⟨j - 1, by omega⟩
      have ei : ((i + 1 : Nat) : Int) - 1 = (i : Int) := by omega
      rw [ei]
      have i1 : (0 : Int) ≤ (i : Int) := by omega
      have i2 : (i : Int) < (n : Int) := by omega
      obtain ⟨b, off, rfl, _, hca⟩ := hx.at_ (k := i) (by omega)
      obtain ⟨b', off', rfl, _, hcb⟩ := hy.at_ (k := i) (by omega)
      obtain ⟨p, hp⟩ : ∃ p, (natL x)[i]'(by rw [HLX.out]; omega) = p := ⟨_, rfl⟩
      obtain ⟨q, hq⟩ : ∃ q, (natL y)[i]'(by rw [HLY.out]; omega) = q := ⟨_, rfl⟩
      rw [hp] at hca
      rw [hq] at hcb
      have wi : IntKind.i64.wrap ((i : Int) - 1) = (i : Int) - 1 := IntWalk.i64_in _ (by omega)
      have HLE : Hid ((natL x).length = (natL y).length) := Lib.hid (by rw [HLX.out, HLY.out])
      by_cases hpq : p = q
      · have e0 : (p != q) = false := by simpa using hpq
        have HD2 : Hid ((natL x).drop i = (natL y).drop i) := Lib.hid (by
          rw [List.drop_eq_getElem_cons (by rw [HLX.out]; omega), List.drop_eq_getElem_cons (l := natL y) (by rw [HLY.out]; omega), hp, hq, hpq, HD.out])
        clear hp hq hpq
        go_upto_region 8 with fail
        go_quiet (fail)
        go_wp2_with fail
        go_roundw
        case rel => exact ⟨i, _, by omega, rfl, HD2, rfl⟩
        case measure => simp [intOf]
      · have e0 : (p != q) = true := by simpa using hpq
        by_cases hlt : p < q
        · have HE : Hid (cmpF x y = -1) := Lib.hid (by
            have := val_lt_of (lims_natL x) (lims_natL y) HLE.out (i := i) (by rw [HLX.out]; omega) HD.out (by rw [hp, hq]; exact hlt)
            rw [val_natL, val_natL] at this
            unfold cmpF; rw [if_pos (by omega)])
          clear hp hq hpq
          go_upto_region 8 with fail
          go_quiet (fail)
          go_upto_region 9 with fail
          go_quiet (fail)
          go_wp2_with fail
          go_ret
          refine ⟨by rw [HE.out] <;> rfl, ?_⟩
          (try simp only [World.drewN_drewN])
          exact ⟨_, rfl⟩
        · have HE : Hid (cmpF x y = 1) := Lib.hid (by
            have := val_lt_of (lims_natL y) (lims_natL x) HLE.out.symm (i := i) (by rw [HLY.out]; omega) HD.out.symm (by rw [hp, hq]; omega)
            rw [val_natL, val_natL] at this
            unfold cmpF; rw [if_neg (by omega), if_neg (by omega)])
          clear hp hq hpq
          go_upto_region 8 with fail
          go_quiet (fail)
          go_upto_region 9 with fail
          go_quiet (fail)
          go_wp2_with fail
          go_ret
          refine ⟨by rw [HE.out] <;> rfl, ?_⟩
          (try simp only [World.drewN_drewN])
          exact ⟨_, rfl⟩
end Go.Proofs.Ytpleclmlcojkdaa
