/-
  Contracts of impl's small functions that the tag systems use.
-/
import Derived.Test.YthipbeggaeogcaaHelpB
import Derived.Test.YthipbeggaeogcaaBase
import Derived.BigGuardPart
import Derived.Test.YthipbeggaeogcaaFirst
namespace Go.Proofs.Ythipbeggaeogcaa
open Go.RowKit

theorem sizeII_any (A : Option Addr) (n c : Nat) (w : World) (h : n ≤ 9223372036854775807) :
    Calls Try.prog 96 #[.slice A n c] w fun e w' => e = .returned (.int .i64 n) ∧ w = w' := by
  go_enter Try.func96, Try.ntmps96
  go_wp2
  go_ret
  exact ⟨rfl, rfl⟩
def tagWordB (xs : List Int) (letters : Int) : Bool := decide (xs.length ≤ 1000) && allIn xs 0 (letters - 1)
set_option maxHeartbeats 400000 in
theorem isTagWord_any (A : Option Addr) (n c : Nat) (xs : List Int) (letters : Int) (w : World) (hx : SI w A n xs) (hn : n ≤ 9223372036854775807) (h1 : 0 ≤ letters) (h2 : letters ≤ 9223372036854775807) :
    Calls Try.prog 147 #[.slice A n c, .int .i64 letters] w fun e w' => e = .returned (.bool (tagWordB xs letters)) ∧ w = w' := by
  have hl := Lib.hid hx.len
  by_cases h3 : n ≤ 1000
  · have h4 : (n : Int) ≤ 1000 := by omega
    go_enter Try.func147, Try.ntmps147
    go_wp2_with (go_at_call 103; refine (allWithin_any _ _ _ _ _ _ _ hx hn).mono ?_; rintro e w' ⟨rfl, rfl⟩)
    go_ret
    exact ⟨ret_bool (by unfold tagWordB; rw [hl.out]; simp [h3]), rfl⟩
  · have h4 : ¬ (n : Int) ≤ 1000 := by omega
    go_enter Try.func147, Try.ntmps147
    go_wp2
    go_ret
    exact ⟨ret_bool (by unfold tagWordB; rw [hl.out]; simp; omega), rfl⟩

def risesB (xs : List Int) : Bool := decide (xs.Pairwise (· < ·))
theorem rises_next {xs : List Int} {k : Nat} (h : (xs.take k).Pairwise (· < ·)) (h0 : 1 ≤ k) (hk : k < xs.length) (hlt : xs[k - 1] < xs[k]) : (xs.take (k + 1)).Pairwise (· < ·) := by
  rw [List.take_succ_eq_append_getElem hk, List.pairwise_append]
  refine ⟨h, by simp, fun a ha b hb => ?_⟩
  simp at hb; subst hb
  obtain ⟨j, hj, rfl⟩ := List.getElem_of_mem ha
  simp at hj
  rw [List.getElem_take]
  by_cases hjk : j = k - 1
  · subst hjk; exact hlt
  · have h2 := List.pairwise_iff_getElem.1 h j (k - 1) (by simp; omega) (by simp; omega) (by omega)
    rw [List.getElem_take, List.getElem_take] at h2
    omega
theorem rises_not {xs : List Int} {k : Nat} (h0 : 1 ≤ k) (hk : k < xs.length) (hge : xs[k] ≤ xs[k - 1]) : false = risesB xs := by
  symm; unfold risesB; rw [decide_eq_false_iff_not]; intro h
  have := List.pairwise_iff_getElem.1 h (k - 1) k (by omega) hk (by omega)
  omega
theorem rises_end {xs : List Int} {k n : Nat} (hk : n ≤ k) (hl : xs.length = n) (h : (xs.take k).Pairwise (· < ·)) : true = risesB xs := by
  rw [List.take_of_length_le (by omega)] at h
  symm; unfold risesB; rw [decide_eq_true_iff]; exact h
set_option maxHeartbeats 400000 in
theorem rising_any (A : Option Addr) (n c : Nat) (xs : List Int) (w : World) (hx : SI w A n xs) (hn : n ≤ 9223372036854775800) :
    Calls Try.prog 158 #[.slice A n c] w fun e w' => e = .returned (.bool (risesB xs)) ∧ ∃ q, w' = w.drewN q := by
  go_enter Try.func158, Try.ntmps158
  go_wp2
  go_loopw [3] (fun i wr => ∃ k q : Nat, 1 ≤ k ∧ k ≤ n + 1 ∧ i = .int .i64 k ∧ Hid ((xs.take k).Pairwise (· < ·)) ∧ wr = w.drewN q) (fun i _ => n + 1 - (intOf i).toNat)
  case atStart => exact ⟨1, 0, by omega, by omega, rfl, by rcases xs with _ | ⟨a, r⟩ <;> simp [Hid], rfl⟩
  case round =>
    obtain ⟨k, q, hk1, hk, rfl, he, rfl⟩ := hrel
    by_cases hlt : k < n
    · obtain ⟨b, off, rfl, _, hc⟩ := hx.at_ hlt
      obtain ⟨b', off', he', _, hc'⟩ := hx.at_ (k := k - 1) (by omega)
      simp only [Option.some.injEq, Addr.mk.injEq, and_true] at he'
      obtain ⟨rfl, rfl⟩ := he'
      have i1 : (0 : Int) ≤ (k : Int) - 1 := by omega
      have i2 : ((k : Int) - 1).toNat = k - 1 := by omega
      go_wp2
      go_quiet (fail)
      clear i2
      have HXL := Lib.hid hx.len
      go_wp2
      · go_ret
        exact ⟨ret_bool (rises_not hk1 (by have := HXL.out; omega) (by assumption)), _, World.drewN_drewN _ _ _⟩
      · exact ⟨⟨k + 1, _, by omega, by omega, by go_num, rises_next he.out hk1 (by have := HXL.out; omega) (by omega), rfl⟩, by simp [intOf]; omega⟩
    · go_wp2
      go_ret
      exact ⟨ret_bool (rises_end (by omega) hx.len he.out), _, rfl⟩

/-- The closure of wordsOk: its parameter, then the captured number's place. -/
theorem wordsOk1_any (A : Option Addr) (n c : Nat) (xs : List Int) (letters : Int) (b off : Nat) (w : World) (hx : SI w A n xs) (hn : n ≤ 9223372036854775807) (h1 : 0 ≤ letters) (h2 : letters ≤ 9223372036854775807)
    (hc : w.cell? ⟨b, off, none⟩ = some (.int .i64 letters)) :
    Calls Try.prog 195 #[.slice A n c, .pointer (some ⟨b, off, none⟩)] w fun e w' => e = .returned (.bool (!tagWordB xs letters)) ∧ w = w' := by
  go_enter Try.func195, Try.ntmps195
  go_wp2_with (go_at_call 147; refine (isTagWord_any _ _ _ _ _ _ hx hn h1 h2).mono ?_; rintro e w' ⟨rfl, rfl⟩)
  go_ret
  exact ⟨rfl, rfl⟩

set_option maxHeartbeats 400000 in
theorem indexFuncII_any (A : Option Addr) (n c : Nat) (ts : List Sl) (f : FuncId) (cp : Value) (p : List Int → Bool) (w : World) (hx : SII w A n ts) (hn : n ≤ 9223372036854775807) (hcall : ∀ (args : Array Value) (w : World), (callFunc f args).run Try.prog w = .ok (.enter f args) w)
    (hf : Hid (∀ t ∈ ts, Calls Try.prog f #[.slice t.A t.xs.length t.c, cp] w fun e w' => e = .returned (.bool (p t.xs)) ∧ w = w')) :
    Calls Try.prog 217 #[.slice A n c, .func (.func f) #[] #[cp]] w fun e w' => e = .returned (.int .i64 (firstB p (nums ts))) ∧ w = w' := by
  go_enter Try.func217, Try.ntmps217
  go_wp2
  go_loop [8] (fun i => ∃ k : Nat, k ≤ n ∧ i = .int .i64 k ∧ Hid (((nums ts).take k).any p = false)) (fun i => n - (intOf i).toNat)
  case atStart => exact ⟨0, by omega, rfl, rfl⟩
  case round =>
    obtain ⟨k, hk, rfl, he⟩ := hrel
    by_cases hlt : k < n
    · obtain ⟨t, b, off, hT, htm, rfl, _, hc, hr⟩ := hx.pick hlt
      go_wp2_with fail
      refine (hf.out t htm).mono ?_
      rintro e w' ⟨rfl, rfl⟩
      cases hp : p t.xs
      · have HP := Lib.hid hp
        clear hp
        go_wp2
        exact ⟨⟨k + 1, by omega, by go_num, firstB_next hT.out HP.out he.out⟩, by simp [intOf]; omega⟩
      · have HP := Lib.hid hp
        clear hp
        go_wp2
        go_ret
        exact ⟨ret_int (firstB_at hT.out HP.out he.out), rfl⟩
    · go_wp2
      go_ret
      exact ⟨ret_int (firstB_none (by omega) hx.len he.out), rfl⟩

set_option maxHeartbeats 400000 in
theorem containsFuncII_any (A : Option Addr) (n c : Nat) (ts : List Sl) (f : FuncId) (cp : Value) (p : List Int → Bool) (w : World) (hx : SII w A n ts) (hn : n ≤ 9223372036854775807) (hcall : ∀ (args : Array Value) (w : World), (callFunc f args).run Try.prog w = .ok (.enter f args) w)
    (hf : Hid (∀ t ∈ ts, Calls Try.prog f #[.slice t.A t.xs.length t.c, cp] w fun e w' => e = .returned (.bool (p t.xs)) ∧ w = w')) :
    Calls Try.prog 194 #[.slice A n c, .func (.func f) #[] #[cp]] w fun e w' => e = .returned (.bool ((nums ts).any p)) ∧ w = w' := by
  go_enter Try.func194, Try.ntmps194
  go_wp2_with (go_at_call 217; refine (indexFuncII_any _ _ _ ts _ _ p _ hx hn hcall hf).mono ?_; rintro e w' ⟨rfl, rfl⟩)
  go_ret
  exact ⟨ret_bool (firstB_ge p (nums ts)), rfl⟩

def wordsB (xss : List (List Int)) (letters : Int) : Bool := xss.all (fun xs => tagWordB xs letters)
theorem wordsB_not (xss : List (List Int)) (letters : Int) : (!xss.any (fun xs => !tagWordB xs letters)) = wordsB xss letters := by
  unfold wordsB; rw [List.not_any_eq_all_not]; simp

set_option maxHeartbeats 400000 in
theorem wordsOk_any (A : Option Addr) (n c : Nat) (ts : List Sl) (letters : Int) (w : World) (hx : SII w A n ts) (hn : n ≤ 9223372036854775807) (hns : ∀ t ∈ ts, t.xs.length ≤ 9223372036854775807) (h1 : 0 ≤ letters) (h2 : letters ≤ 9223372036854775807) :
    Calls Try.prog 157 #[.slice A n c, .int .i64 letters] w fun e w' => e = .returned (.bool (wordsB (nums ts) letters)) ∧ Below w.heap.size w w' := by
  have hw1 : (w.alloc (.cells #[.int .i64 letters] 2)).cell? ⟨w.heap.size, 0, none⟩ = some (.int .i64 letters) := by rw [cell_of_row _ w.heap.size 0 #[.int .i64 letters] 2 (0, 0) (heap_alloc_new w _)]; rfl
  have HW := Lib.hid hw1
  clear hw1
  go_enter Try.func157, Try.ntmps157
  go_wp2_with fail
  refine (containsFuncII_any _ _ _ ts _ _ (fun xs => !tagWordB xs letters) _ (hx.alloc _) hn Try.call195 (fun t ht => wordsOk1_any _ _ _ _ _ _ _ _ ((hx.alloc _).2 t ht) (hns t ht) h1 h2 HW.out)).mono ?_
  rintro e w' ⟨rfl, rfl⟩
  go_wp2
  go_ret
  exact ⟨ret_bool (wordsB_not _ _), (Below.refl _ _).alloc (Nat.le_refl _) _⟩

/-- Tag values: the struct as the walk has it. -/
abbrev tagV (d : Int) (A : Option Addr) (n c : Nat) (B : Option Addr) (m k : Nat) : Value := .agg #[.int .i64 d, .slice A n c, .slice B m k]

def validTagB (d : Int) (words : List (List Int)) (halting : List Int) : Bool :=
  inB d 1 4 && inB words.length 1 200 && wordsB words words.length && risesB halting && allIn halting 0 (words.length - 1)

set_option maxHeartbeats 1000000 in
theorem validTag_any (d : Int) (A : Option Addr) (n c : Nat) (ts : List Sl) (B : Option Addr) (m k : Nat) (hs : List Int) (w : World) (hx : SII w A n ts) (hy : SI w B m hs) (hn : n ≤ 1048576) (hm : m ≤ 1048576) (hns : ∀ t ∈ ts, t.xs.length ≤ 9223372036854775807) :
    Calls Try.prog 115 #[.agg #[.int .i64 d, .slice A n c, .slice B m k]] w fun e w' => e = .returned (.bool (validTagB d (nums ts) hs)) ∧ Below w.heap.size w w' := by
  have HL : Hid ((nums ts).length = n) := by show _ = _; have := hx.len; simpa [nums] using this
  have hx1 := hx.alloc (.cells #[.int .i64 d, .slice A n c, .slice B m k] 51)
  have hy1 := hy.alloc (.cells #[.int .i64 d, .slice A n c, .slice B m k] 51)
  have hb1 : Below w.heap.size w (w.alloc (.cells #[.int .i64 d, .slice A n c, .slice B m k] 51)) := (Below.refl _ _).alloc (Nat.le_refl _) _
  go_enter Try.func115, Try.ntmps115
  go_wp2_with (first
    | (go_at_call 96; refine (sizeII_any _ _ _ _ (by omega)).mono ?_; rintro e w' ⟨rfl, rfl⟩)
    | (go_at_call 85; refine (within_any _ _ _ _).mono ?_; rintro e w' ⟨rfl, rfl⟩))
  · refine (wordsOk_any _ _ _ ts _ _ hx1 (by omega) hns (by omega) (by omega)).mono ?_
    rintro e w2 ⟨rfl, hb2⟩
    have q2 : w2.cell? ⟨w.heap.size, 2, none⟩ = some (.slice B m k) := box_at hb2 2
    have hz2 : w.heap.size < w2.heap.size := by have := hb2.size; simp at this; omega
    have hy2 := hy1.below hb2
    have hbb := below_box hb2
    cases hw : wordsB (nums ts) n
    · have HW := Lib.hid hw
      clear hw
      go_wp2_with fail
      go_ret
      exact ⟨ret_bool (by unfold validTagB; rw [HL.out, HW.out]; simp), hbb⟩
    · have HW := Lib.hid hw
      clear hw
      go_wp2_with (first
        | (go_at_call 158; refine (rising_any _ _ _ _ _ hy2 (by omega)).mono ?_; rintro e w' ⟨rfl, q, rfl⟩)
        | (go_at_call 103; refine (allWithin_any _ _ _ _ _ _ _ (hy2.drewN _) (by omega)).mono ?_; rintro e w' ⟨rfl, rfl⟩))
      all_goals go_ret
      · exact ⟨ret_bool (by unfold validTagB; rw [HL.out, HW.out]; simp [*]), below_drewN hbb _⟩
      · exact ⟨ret_bool (by unfold validTagB; rw [HL.out, HW.out]; simp [*]), below_drewN hbb _⟩
  · go_ret
    exact ⟨ret_bool (by unfold validTagB; rw [HL.out]; simp [*]), hb1⟩
  · go_ret
    exact ⟨ret_bool (by unfold validTagB; rw [HL.out]; simp [*]), hb1⟩
def tagCodeF (d : Int) (words : List (List Int)) (halting xs : List Int) : Int := if validTagB d words halting && tagWordB xs words.length then 0 else 1
def haltsB (d : Int) (halting xs : List Int) : Bool := decide ((xs.length : Int) < d) || decide (xs.headD 0 ∈ halting)
end Go.Proofs.Ythipbeggaeogcaa
