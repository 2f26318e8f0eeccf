/-
  Contracts of the laws' helpers over []int64: szInt64S, toInt64S, eqInt64S, markInt64S, heldInt64S.
-/
import Derived.Test.YtbpofkggoolmpaaPkMeasures0
import Derived.Test.YtbpofkggoolmpaaProg
import Derived.BigQuiet
import Derived.Deep.QuietTactic
import Derived.KernelRfl
import Derived.BigGuardPart
import Derived.ProofKit
import Derived.OpenShut
import Derived.ChangeOld
import Derived.Deep.Slices
import Derived.Lib.SmallJoins
import Derived.Deep.Strs
import Derived.Deep.RegionHeld3
import Derived.Deep.DeepCutAuto
namespace Go.Proofs.Ytbpofkggoolmpaa
open Go.RowKit

theorem elI : Elem Try.prog 26 2 1 8 (.int .i64 0) := ⟨Try.underlying26, by kernel_rfl, rfl, by decide⟩

def szF (left n : Int) : Int := if left < n then -1 else left - n

set_option maxHeartbeats 400000 in
theorem szI (A : Option Addr) (n c : Nat) (left : Int) (w : World) (hn : n ≤ 9223372036854775807) (h0 : 0 ≤ left) (h1 : left ≤ 1048576) :
    Calls Try.prog 84 #[.slice A n c, .int .i64 left] w fun e w' => e = .returned (.int .i64 (szF left n)) ∧ w = w' := by
  by_cases h : left < n
  · have h2 : left - n < 0 := by omega
    go_enter Try.func84, Try.ntmps84
    go_wp2
    go_ret
    exact ⟨ret_int (by unfold szF; rw [if_pos h]), rfl⟩
  · have h2 : ¬ left - n < 0 := by omega
    go_enter Try.func84, Try.ntmps84
    go_wp2
    go_ret
    exact ⟨ret_int (by unfold szF; rw [if_neg (by omega)]), rfl⟩

set_option maxHeartbeats 400000 in
theorem eqI (A B : Option Addr) (n m c d : Nat) (xs ys : List Int) (w : World) (hx : SI w A n xs) (hy : SI w B m ys) (hn : n ≤ 9223372036854775807) :
    Calls Try.prog 95 #[.slice A n c, .slice B m d] w fun e w' => e = .returned (.bool (sameI xs ys)) ∧ ∃ q, w' = w.drewN q := by
  by_cases hnm : n = m
  · subst hnm
    go_enter Try.func95, Try.ntmps95
    go_wp2
    go_loopw [5] (fun i wr => ∃ k q : Nat, k ≤ n ∧ i = .int .i64 k ∧ Hid (xs.take k = ys.take k) ∧ wr = w.drewN q) (fun i _ => n - (intOf i).toNat)
    case atStart => exact ⟨0, 0, by omega, rfl, rfl, rfl⟩
    case round =>
      obtain ⟨k, q, hk, rfl, he, rfl⟩ := hrel
      by_cases hlt : k < n
      · obtain ⟨b, off, rfl, _, hc⟩ := hx.at_ hlt
        obtain ⟨b', off', rfl, _, hc'⟩ := hy.at_ hlt
        go_wp2
        go_quiet (fail)
        go_wp2
        · go_ret
          exact ⟨ret_bool (sameI_ne hlt hx.len hy.len (by assumption)), _, World.drewN_drewN _ _ _⟩
        · exact ⟨⟨k + 1, _, by omega, by go_num, take_next hlt hx.len hy.len he.out (by assumption), rfl⟩, by simp [intOf]; omega⟩
      · go_wp2
        go_ret
        exact ⟨ret_bool (sameI_eq (by omega) hx.len hy.len he.out), _, rfl⟩
  · have hne : ((n : Int) != (m : Int)) = true := by simp; omega
    go_enter Try.func95, Try.ntmps95
    go_wp2
    go_ret
    exact ⟨ret_bool (sameI_len hnm hx.len hy.len), 0, rfl⟩

set_option maxHeartbeats 400000 in
theorem heldI (A : Option Addr) (n c : Nat) (xs : List Int) (m : Int) (w : World) (hx : SI w A n xs) (h0 : 0 ≤ m) (h1 : m + n ≤ 9223372036854775807) :
    Calls Try.prog 101 #[.slice A n c, .int .i64 m] w fun e w' => e = .returned (.int .i64 (heldF m xs)) ∧ w = w' := by
  go_enter Try.func101, Try.ntmps101
  go_wp2
  go_loop [1, 5] (fun q i => ∃ k : Nat, k ≤ n ∧ i = .int .i64 k ∧ q = .int .i64 (m + k) ∧ Hid (xs.take k = (marks m n).take k)) (fun _ i => n - (intOf i).toNat)
  case atStart => exact ⟨0, by omega, rfl, by simp, rfl⟩
  case round =>
    obtain ⟨k, hk, rfl, rfl, he⟩ := hrel
    by_cases hlt : k < n
    · obtain ⟨b, off, rfl, _, hc⟩ := hx.at_ hlt
      go_wp2
      · go_ret
        exact ⟨ret_int (heldF_ne hlt hx.len (by assumption)), rfl⟩
      · exact ⟨⟨k + 1, by omega, by go_num, by go_num, held_next hlt hx.len he.out (by assumption)⟩, by simp [intOf]; omega⟩
    · go_wp2
      go_ret
      exact ⟨ret_int (heldF_eq (by omega) hx.len he.out (by omega)), rfl⟩

def MarkI (w : World) (lo hi : Nat) (A : Option Addr) (n c : Nat) (m : Int) (e : Ending) (w' : World) : Prop :=
  e = .returned (.int .i64 (m + n)) ∧ OwnE w' lo 2 A n c (marks m n) ∧ Tch lo hi w w' ∧ ∀ b, blk A ≠ some b → w'.heap[b]? = w.heap[b]?

set_option maxHeartbeats 400000 in
theorem markI (A : Option Addr) (n c : Nat) (xs : List Int) (m : Int) (w : World) (lo hi : Nat) (hx : OwnE w lo 2 A n c xs) (hh : ∀ b, blk A = some b → b < hi) (h0 : 0 ≤ m) (h1 : m + n ≤ 9223372036854775807) :
    Calls Try.prog 99 #[.slice A n c, .int .i64 m] w (MarkI w lo hi A n c m) := by
  have hl : xs.length = n := by have := hx.si.len; omega
  have HL := Lib.hid hl
  have hxl : n ≤ xs.length := by omega
  clear hl
  go_enter Try.func99, Try.ntmps99
  go_wp2
  go_loopw [1, 5] (fun q i wr => ∃ k : Nat, k ≤ n ∧ i = .int .i64 k ∧ q = .int .i64 (m + k) ∧ OwnE wr lo 2 A n c (marked m xs k) ∧ Tch lo hi w wr ∧ Hid (∀ b, blk A ≠ some b → wr.heap[b]? = w.heap[b]?)) (fun _ i _ => n - (intOf i).toNat)
  case atStart => exact ⟨0, by omega, rfl, by simp, by rw [marked_zero]; exact hx, Tch.refl _ _ _, fun _ _ => rfl⟩
  case round =>
    obtain ⟨k, hk, rfl, rfl, ho, ht, hfar⟩ := hrel
    by_cases hlt : k < n
    · have hml : k < (ints (marked m xs k)).length := by rw [length_ints, length_marked _ _ _ (by omega)]; omega
      have ho := ho.resolve_left (fun h => by omega)
      obtain ⟨b, off, rfl, hlo, _, hc, hf⟩ := ho.at_ hml
      have hbh := hh b rfl
      have ho2 := ho.set_ hml (.int .i64 (m + k))
      rw [ints_set, marked_next _ _ _ (by omega)] at ho2
      have ht2 := ht.setCell (p := ⟨b, off + k, none⟩) hlo hbh (.int .i64 (m + k))
      have hfar2 : Hid (∀ b', blk (some ⟨b, off, none⟩) ≠ some b' → (wr.setCell ⟨b, off + k, none⟩ (.int .i64 (m + k))).heap[b']? = w.heap[b']?) := fun b' hb' => (Below.heap_setCell _ _ _ _ (fun e => hb' (by rw [e]; rfl))).trans (hfar.out b' hb')
      go_wp2
      exact ⟨⟨k + 1, by omega, by go_num, by go_num, .inr ho2, ht2, hfar2⟩, by simp [intOf]; omega⟩
    · go_wp2
      go_ret
      obtain rfl : k = n := by omega
      have hoo := ho
      have e2 : marked m xs k = marks m k := by rw [← HL.out, marked_end]
      rw [e2] at hoo
      exact ⟨rfl, hoo, ht, hfar.out⟩

def ToI (w : World) (n : Nat) (xs : List Int) (e : Ending) (w' : World) : Prop :=
  ∃ A, e = .returned (.slice A n n) ∧ Own w' w.heap.size 2 1 A n n (ints xs) ∧ Below w.heap.size w w'

set_option maxHeartbeats 400000 in
theorem toI (A : Option Addr) (n c : Nat) (xs : List Int) (w : World) (hx : SI w A n xs) (hn : n ≤ 1048576) :
    Calls Try.prog 90 #[.slice A n c] w (ToI w n xs) := by
  have HL := Lib.hid hx.len
  have hxl : n ≤ xs.length := by have := hx.len; omega
  have hxl' : xs.length ≤ n := by have := hx.len; omega
  go_enter Try.func90, Try.ntmps90
  go_wp2_with (at_make; refine wpList_make_Own rfl (.tmp 6) (.tmp 6) rfl elI (n := n) (lo := w.heap.size) rfl rfl (by omega) (by unfold maxLen; omega) (Nat.le_refl _) ?_; intro w2 ho2 hb2 hs2)
  rw [made_ints n xs HL.out] at ho2
  have HS := Lib.hid hs2
  clear hs2
  go_loopw [4] (fun i wr => ∃ k : Nat, k ≤ n ∧ i = .int .i64 k ∧ Own wr w.heap.size 2 1 (some ⟨w.heap.size, 0, none⟩) n n (ints (copied xs k)) ∧ Below w.heap.size w wr) (fun i _ => n - (intOf i).toNat)
  case atStart => exact ⟨0, by omega, rfl, ho2, hb2⟩
  case round =>
    obtain ⟨k, hk, rfl, ho, hb⟩ := hrel
    by_cases hlt : k < n
    · obtain ⟨b, off, rfl, hbl, hc⟩ := (hx.below hb).at_ hlt
      have hml : k < (ints (copied xs k)).length := by rw [length_ints, length_copied _ _ (by omega)]; omega
      obtain ⟨b', off', he, hlo, _, hc', hf'⟩ := ho.at_ hml
      simp only [Option.some.injEq, Addr.mk.injEq, and_true] at he
      obtain ⟨rfl, rfl⟩ := he
      have ho3 := ho.set_ hml (.int .i64 (xs[k]'(by omega)))
      rw [ints_set, copied_next _ _ (by omega)] at ho3
      have hb3 := hb.setCell (p := ⟨w.heap.size, 0 + k, none⟩) (Nat.le_refl _) (.int .i64 (xs[k]'(by omega)))
      simp only [Nat.zero_add] at hc' hf' ho3 hb3
      go_wp2
      exact ⟨⟨k + 1, by omega, by go_num, ho3, hb3⟩, by simp [intOf]; omega⟩
    · go_wp2
      go_ret
      have hoo := ho
      rw [copied_end xs (by omega)] at hoo
      exact ⟨_, rfl, hoo, hb⟩

/-- A slice in new memory. -/
def NewI (w : World) (xs : List Int) (e : Ending) (w' : World) : Prop :=
  ∃ A c, e = .returned (.slice A xs.length c) ∧ Own w' w.heap.size 2 1 A xs.length c (ints xs) ∧ Below w.heap.size w w'

/-- A slice in new memory and a number. -/
def NewI2 (w : World) (r : List Int × Int) (e : Ending) (w' : World) : Prop :=
  ∃ A c, e = .returned (.tuple #[.slice A r.1.length c, .int .i64 r.2]) ∧ Own w' w.heap.size 2 1 A r.1.length c (ints r.1) ∧ Below w.heap.size w w'


/-- What marking a copy does: the number goes on, the memory is as it was but for the copies' cells. -/
def MarkP (T : List TypeId) (w : World) (lo hi : Nat) (t : Nat) (m : Int) (e : Ending) (w' : World) : Prop := e = .returned (.int .i64 (m + t)) ∧ MkF T lo hi w w'

set_option maxHeartbeats 400000 in
theorem markI_m (T : List TypeId) (A : Option Addr) (n c : Nat) (m : Int) (w : World) (lo hi : Nat) (hx : Mk w lo hi 2 1 A n) (hT : 2 ∈ T) (h0 : 0 ≤ m) (h1 : m + n ≤ 9223372036854775807) :
    Calls Try.prog 99 #[.slice A n c, .int .i64 m] w (MarkP T w lo hi n m) := by
  have HT := Lib.hid hT
  clear hT
  go_enter Try.func99, Try.ntmps99
  go_wp2
  go_loopw [1, 5] (fun q i wr => ∃ k : Nat, k ≤ n ∧ i = .int .i64 k ∧ q = .int .i64 (m + k) ∧ Mk wr lo hi 2 1 A n ∧ MkF T lo hi w wr) (fun _ i _ => n - (intOf i).toNat)
  case atStart => exact ⟨0, by omega, rfl, by simp, hx, MkF.refl _ _ _ _⟩
  case round =>
    obtain ⟨k, hk, rfl, rfl, ho, ht⟩ := hrel
    by_cases hlt : k < n
    · obtain ⟨b, off, cur, v, rfl, hlo, hhi, hg, hc, hf⟩ := ho.at_ (k := k) (by omega)
      have ht2 := ht.setCell (i := off + k) hg HT.out hlo hhi (.int .i64 (m + k))
      have ho2 := ho.mkf ((MkF.refl T lo hi wr).setCell (i := off + k) hg HT.out hlo hhi (.int .i64 (m + k)))
      have HG := Lib.hid hg
      clear hg
      go_wp2
      exact ⟨⟨k + 1, by omega, by go_num, by go_num, ho2, ht2⟩, by simp [intOf]; omega⟩
    · go_wp2
      go_ret
      obtain rfl : k = n := by omega
      exact ⟨rfl, ht⟩
end Go.Proofs.Ytbpofkggoolmpaa

/-
  Contracts of impl's smallest functions: within, size, allWithin; slices.Clone.
-/
namespace Go.Proofs.Ytbpofkggoolmpaa
open Go.RowKit

def inB (n lo hi : Int) : Bool := decide (lo ≤ n) && decide (n ≤ hi)
def allIn (xs : List Int) (lo hi : Int) : Bool := xs.all (fun x => inB x lo hi)
theorem inB_iff (n lo hi : Int) : inB n lo hi = true ↔ lo ≤ n ∧ n ≤ hi := by simp [inB]

set_option maxHeartbeats 400000 in
theorem within_any (n lo hi : Int) (w : World) :
    Calls Try.prog 104 #[.int .i64 n, .int .i64 lo, .int .i64 hi] w fun e w' => e = .returned (.bool (inB n lo hi)) ∧ w = w' := by
  by_cases h1 : lo ≤ n <;> by_cases h2 : n ≤ hi
  all_goals
    go_enter Try.func104, Try.ntmps104
    go_wp2
    go_ret
    exact ⟨ret_bool (by simp [inB]; omega), rfl⟩

theorem sizeI_any (A : Option Addr) (n c : Nat) (w : World) (_h : n ≤ 9223372036854775807) :
    Calls Try.prog 258 #[.slice A n c] w fun e w' => e = .returned (.int .i64 n) ∧ w = w' := by
  go_enter Try.func258, Try.ntmps258
  go_wp2
  go_ret
  exact ⟨rfl, rfl⟩

theorem allIn_at {xs : List Int} {lo hi : Int} {k n : Nat} (hk : k < n) (hl : xs.length = n) (h : (!inB (xs[k]'(by omega)) lo hi) = true) : false = allIn xs lo hi := by
  symm; unfold allIn; rw [List.all_eq_false]
  exact ⟨_, List.getElem_mem (by omega : k < xs.length), by simpa using h⟩
theorem allIn_next {xs : List Int} {lo hi : Int} {k n : Nat} (hk : k < n) (hl : xs.length = n) (h : (!inB (xs[k]'(by omega)) lo hi) = false) (he : allIn (xs.take k) lo hi = true) : allIn (xs.take (k + 1)) lo hi = true := by
  rw [List.take_succ_eq_append_getElem (by omega)]
  simp only [allIn, List.all_append, Bool.and_eq_true] at he ⊢
  exact ⟨he, by simpa using h⟩
theorem allIn_end {xs : List Int} {lo hi : Int} {k n : Nat} (hk : n ≤ k) (hl : xs.length = n) (he : allIn (xs.take k) lo hi = true) : true = allIn xs lo hi := by
  rw [List.take_of_length_le (by omega)] at he; exact he.symm

set_option maxHeartbeats 400000 in
theorem allWithin_any (A : Option Addr) (n c : Nat) (xs : List Int) (lo hi : Int) (w : World) (hx : SI w A n xs) (hn : n ≤ 9223372036854775807) :
    Calls Try.prog 239 #[.slice A n c, .int .i64 lo, .int .i64 hi] w fun e w' => e = .returned (.bool (allIn xs lo hi)) ∧ w = w' := by
  go_enter Try.func239, Try.ntmps239
  go_wp2
  go_loop [11] (fun i => ∃ k : Nat, k ≤ n ∧ i = .int .i64 k ∧ Hid (allIn (xs.take k) lo hi = true)) (fun i => n - (intOf i).toNat)
  case atStart => exact ⟨0, by omega, rfl, rfl⟩
  case round =>
    obtain ⟨k, hk, rfl, he⟩ := hrel
    by_cases hlt : k < n
    · obtain ⟨b, off, rfl, _, hc⟩ := hx.at_ hlt
      go_wp2_with (go_at_call 104; refine (within_any _ _ _ _).mono ?_; rintro e w' ⟨rfl, rfl⟩)
      · go_ret
        exact ⟨ret_bool (allIn_at hlt hx.len (by assumption)), rfl⟩
      · exact ⟨⟨k + 1, by omega, by go_num, allIn_next hlt hx.len (by assumption) he.out⟩, by simp [intOf]; omega⟩
    · go_wp2
      go_ret
      exact ⟨ret_bool (allIn_end (by omega) hx.len he.out), rfl⟩

set_option maxHeartbeats 400000 in
theorem cloneI_any (A : Option Addr) (n c : Nat) (xs : List Int) (w : World) (hx : SI w A n xs) (hn : n ≤ 1048576) :
    Calls Try.prog 175 #[.slice A n c] w (NewI w xs) := by
  have HL := Lib.hid hx.len
  have hnil := fun (w : World) (a : Option Addr) (n c : Nat) => Lib.run_eql_slice_nil (P := Try.prog) w 26 2 a n c 0 0 Try.underlying26
  rcases A with _ | ad
  · have hn0 : n = 0 := by
      rcases Nat.eq_zero_or_pos n with h | h
      · exact h
      · obtain ⟨b, off, e, _⟩ := hx.at_ h; cases e
    subst hn0
    have hx0 : xs = [] := List.eq_nil_of_length_eq_zero HL.out
    subst hx0
    go_enter Try.func175, Try.ntmps175
    go_wp2
    go_ret
    exact ⟨none, 0, rfl, Own.nil, Below.refl _ _⟩
  · go_enter Try.func175, Try.ntmps175
    go_wp2_with (at_builtin; refine wpList_append_Own rfl (.tmp 5) (.tmp 6) rfl elI (lo := w.heap.size) rfl (Own.lit0 w _ 1) rfl (Rd.alloc hx _) (ints_one xs) (by omega) (by simp only [maxLen]; omega) (by simp) ?_; intro A2 c2 w2 ho2 hg2 _)
    go_ret
    have hbb := (Own.lit0 w 2 1).below_of ((Below.refl _ _).alloc (Nat.le_refl _) _) hg2 (by simp)
    simp only [List.nil_append] at ho2
    refine ⟨A2, c2, ?_, ?_, hbb⟩
    · rw [HL.out]; simp
    · rw [HL.out]; simpa using ho2

theorem within_is {n lo hi : Int} {b : Bool} (h : inB n lo hi = b) (w : World) :
    Calls Try.prog 104 #[.int .i64 n, .int .i64 lo, .int .i64 hi] w fun e w' => e = .returned (.bool b) ∧ w = w' := h ▸ within_any n lo hi w
end Go.Proofs.Ytbpofkggoolmpaa

/-
  From the reading of an argument to the words of the walks, and from a walk to a row's post. No program is in sight.
-/
namespace Go.Proofs.Ytbpofkggoolmpaa
open Go.ChangeShapes Go.WideShapes Go.ChangeAt Go.RowKit Go.Deep

section
variable {H : Type} {enc : TypeId × Value → H} {P : Program} {w : World} {base : Nat} {spare : Nat → Bool} {held : Bool}

theorem addr_none {w : World} {a : Addr} {k : Nat} {v : Value} (h : w.cell? (a.add k) = some v) : a = ⟨a.block, a.off, none⟩ ∨ 0 < k := by
  by_cases hk : k = 0
  · subst hk
    have h1 : (a.add 0) = a := by simp [Addr.add]
    rw [h1] at h
    have := World.cell?_spot h
    left; cases a; simp_all
  · right; omega

/-- A slice of numbers that came in. -/
theorem si_of_trod {t e : TypeId} {fuel : Nat} {v : Value} {x : DataW H × List MemPlace} (ht : P.underlying t = some (.slice e)) (he : P.underlying e = some (.int .i64)) (hc : P.cellsOf e = 1) (h : DataW.trod enc P w base (fun _ => true) held fuel t [v] = some x) :
    ∃ A n c xs, v = .slice A n c ∧ SI w A n xs ∧ n ≤ c ∧ c ≤ 9223372036854775807 ∧ ∀ z ∈ xs, -9223372036854775808 ≤ z ∧ z ≤ 9223372036854775807 := by
  rcases open_ints ht he hc h with ⟨hcs, _⟩ | ⟨a, len, cap, zs, hcs, _, hl, hm, hz, _, hcell, hwf⟩
  · simp at hcs; subst hcs
    exact ⟨none, 0, 0, [], rfl, Rd.nil, by omega, by omega, by simp⟩
  · simp at hcs; subst hcs
    simp at hz
    have hm' : cap ≤ 9223372036854775807 := by simp only [maxLen] at hm; omega
    refine ⟨some a, len, cap, zs.take len, rfl, ⟨by rw [length_ints]; simp; omega, fun hn => ?_⟩, hl, hm', fun z hz' => ?_⟩
    · rw [length_ints] at hn
      simp at hn
      have h0 := hcell 0 (by omega)
      have hs : a = ⟨a.block, a.off, none⟩ := by
        rcases addr_none h0 with h1 | h1
        · exact h1
        · omega
      refine ⟨a.block, a.off, by rw [← hs], fun k hk => ?_⟩
      rw [length_ints] at hk
      simp at hk
      have hk' := hcell k (by omega)
      rw [hs, add_lit] at hk'
      rw [ints_get, hk']
      simp [List.getD, List.getElem?_eq_getElem (show k < zs.length by omega)]
    · have := hwf z (List.mem_of_mem_take hz')
      simpa [Lit.wf, IntKind.min, IntKind.max, IntKind.signed, IntKind.bits] using this

/-- A slice of slices of numbers that came in. -/
theorem sii_of_trod {t e q : TypeId} {fuel : Nat} {v : Value} {x : DataW H × List MemPlace} (ht : P.underlying t = some (.slice e)) (he : P.underlying e = some (.slice q)) (hq : P.underlying q = some (.int .i64)) (ce : P.cellsOf e = 1) (cq : P.cellsOf q = 1)
    (h : DataW.trod enc P w base (fun _ => true) held fuel t [v] = some x) :
    ∃ A n c ts, v = .slice A n c ∧ SII w A n ts ∧ n ≤ c ∧ c ≤ 9223372036854775807 ∧ (∀ t ∈ ts, t.xs.length ≤ t.c ∧ t.c ≤ 9223372036854775807) ∧ ∀ t ∈ ts, ∀ z ∈ t.xs, -9223372036854775808 ≤ z ∧ z ≤ 9223372036854775807 := by
  rcases open_slice1 ht ce h with ⟨hcs, _⟩ | ⟨a, len, cap, m, n, V, D, Pl, hcs, _, hl, hm, hmm, _, hi⟩
  · simp at hcs; subst hcs
    exact ⟨none, 0, 0, [], rfl, ⟨Rd.nil, by simp⟩, by omega, by omega, by simp, by simp⟩
  · simp at hcs; subst hcs
    simp at hmm; subst hmm
    have hm' : m ≤ 9223372036854775807 := by simp only [maxLen] at hm; omega
    have each : ∀ i, i < m → ∃ t : Sl, V i = t.val ∧ SI w t.A t.xs.length t.xs ∧ (t.xs.length ≤ t.c ∧ t.c ≤ 9223372036854775807) ∧ ∀ z ∈ t.xs, -9223372036854775808 ≤ z ∧ z ≤ 9223372036854775807 := by
      intro i him
      obtain ⟨A, k, c, xs, hV, hS, h1, h2, h3⟩ := si_of_trod he hq cq (hi i him).2
      have hk : xs.length = k := hS.len
      subst hk
      exact ⟨⟨A, c, xs⟩, hV, hS, ⟨h1, h2⟩, h3⟩
    have hall : ∃ T : Nat → Sl, ∀ i, i < m → V i = (T i).val ∧ SI w (T i).A (T i).xs.length (T i).xs ∧ ((T i).xs.length ≤ (T i).c ∧ (T i).c ≤ 9223372036854775807) ∧ ∀ z ∈ (T i).xs, -9223372036854775808 ≤ z ∧ z ≤ 9223372036854775807 :=
      ⟨fun i => if h : i < m then (each i h).choose else ⟨none, 0, []⟩, fun i him => by simp only [him, dif_pos]; exact (each i him).choose_spec⟩
    obtain ⟨T, hT⟩ := hall
    refine ⟨some a, len, m, (List.range len).map T, rfl, ⟨⟨by simp, fun hn => ?_⟩, fun t ht' => ?_⟩, hl, hm', fun t ht' => ?_, fun t ht' => ?_⟩
    · simp at hn
      have h0 := (hi 0 (by omega)).1
      have hs : a = ⟨a.block, a.off, none⟩ := by
        rcases addr_none h0 with h1 | h1
        · exact h1
        · omega
      refine ⟨a.block, a.off, by rw [← hs], fun k hk => ?_⟩
      simp at hk
      have hk' := (hi k (by omega)).1
      rw [hs, add_lit, (hT k (by omega)).1] at hk'
      rw [hk']; simp
    · obtain ⟨i, hi', rfl⟩ := List.mem_map.1 ht'
      exact (hT i (by have := List.mem_range.1 hi'; omega)).2.1
    · obtain ⟨i, hi', rfl⟩ := List.mem_map.1 ht'
      exact (hT i (by have := List.mem_range.1 hi'; omega)).2.2.1
    · obtain ⟨i, hi', rfl⟩ := List.mem_map.1 ht'
      exact (hT i (by have := List.mem_range.1 hi'; omega)).2.2.2
end

section
variable {H : Type} {enc : TypeId × Value → H} {P : Program}
theorem trodAll_stays (hl : laidOutB P = true) {W W' : World} {sp : Nat → Bool} (hb : Below W.heap.size W W') : ∀ {ts : List TypeId} {vs : List Value} {ds : List (DataW H)} {ps : List MemPlace}, (∀ t ∈ ts, P.readableRec t = true ∧ t < P.types.size) →
    DataW.TrodAll enc P W 0 (fun _ => true) true ts vs ds ps → (∀ x ∈ ps, x.block < W.heap.size) → (∀ x ∈ ps, sp x.block = true) → DataW.TrodAll enc P W' 0 sp true ts vs ds ps
  | [], vs, ds, ps, _, h, _, _ => by
    obtain ⟨rfl, rfl, rfl⟩ := trodAll_nil h
    exact trodAll_mk0
  | t :: ts, vs, ds, ps, hr, h, hlt, hs => by
    obtain ⟨v, vs', d, ds', p, q, rfl, rfl, rfl, h0, h1⟩ := trodAll_cons h
    exact trodAll_cons_mk (WideElems.Trod_stays hl (hr t (by simp)).1 (hr t (by simp)).2 h0 (fun x hx => hb.same (hlt x (by simp [hx]))) (fun x hx => hs x (by simp [hx])))
      (trodAll_stays hl hb (fun t' ht' => hr t' (by simp [ht'])) h1 (fun x hx => hlt x (by simp [hx])) (fun x hx => hs x (by simp [hx])))

/-- A law's post: it returned true, nothing that was there has turned. -/
theorem law_post {f : Func} {s : ChangeSpec} {b : TypeId} {W W' : World} {args : Array Value} {ds : List (DataW H)} {before : List MemPlace} (hl : laidOutB P = true) (hr : ∀ t ∈ f.params.toList, P.readableRec t = true ∧ t < P.types.size)
    (hvars : s.vars = []) (hres : f.resultTypes = #[b]) (hbool : P.underlying b = some .bool) (h1 : (s.fn H (ds ++ [])).results = [.lit (.bool true)]) (h2 : (s.fn H (ds ++ [])).args = ds) (h3 : (s.fn H (ds ++ [])).vars = [])
    (hW : DataW.Whole enc P f.params.toList s.vars false W args.toList ds [] before) (hb : Below W.heap.size W W') :
    s.post enc P f false true false false W args (.bool true) W' := by
  have hlt : ∀ p ∈ before, p.block < W.heap.size := fun p hp => hW.lt p hp
  have hold : ∀ p ∈ before, (fun b => decide (b < W.heap.size)) p.block = true := fun p hp => by simpa using hlt p hp
  obtain ⟨p, q, hA, hV, hps, hfz, hnd⟩ := id hW
  rw [hvars] at hV
  obtain ⟨_, rfl⟩ := trodVars_none hV
  simp only [List.append_nil] at hps
  subst hps
  refine ⟨ds, [], before, [], before, [], hW, ?_, ?_, ?_, World.keptBut_mono (fun p hp => ⟨hp, ?_⟩) (hb.frame (· ∈ before)), fun h => by cases h⟩
  · rw [h1, hres]
    exact trodAll_mk1 (shut_bool hbool true)
  · rw [h2]
    exact trodAll_stays hl hb hr hA hlt hold
  · rw [h3, hvars]; rfl
  · simp [hp]
end
end Go.Proofs.Ytbpofkggoolmpaa

/-
  Slices of structs of three numbers.
-/
namespace Go.Proofs.Ytbpofkggoolmpaa
open Go.RowKit

/-- Three numbers. -/
structure R3 where
  a : Int
  b : Int
  c : Int
  deriving DecidableEq
def R3.cells (r : R3) : List Value := [.int .i64 r.a, .int .i64 r.b, .int .i64 r.c]
def cells3 (rs : List R3) : List Value := rs.flatMap R3.cells
theorem length_cells3 (rs : List R3) : (cells3 rs).length = rs.length * 3 := by
  induction rs with
  | nil => rfl
  | cons r rs ih => simp [cells3, R3.cells] at ih ⊢; omega
theorem cells3_get : ∀ (rs : List R3) (k : Nat) (r : R3), rs[k]? = some r → (cells3 rs)[k * 3]? = some (.int .i64 r.a) ∧ (cells3 rs)[k * 3 + 1]? = some (.int .i64 r.b) ∧ (cells3 rs)[k * 3 + 2]? = some (.int .i64 r.c)
  | [], k, r, h => by simp at h
  | s :: rs, 0, r, h => by simp at h; subst h; simp [cells3, R3.cells]
  | s :: rs, k + 1, r, h => by
    have ih := cells3_get rs k r (by simpa using h)
    have e : cells3 (s :: rs) = .int .i64 s.a :: .int .i64 s.b :: .int .i64 s.c :: cells3 rs := by simp [cells3, R3.cells]
    rw [e, show (k + 1) * 3 = k * 3 + 3 from by omega]
    simpa using ih
theorem cells3_one (rs : List R3) : ∀ u ∈ cells3 rs, u.oneCell' = true := by
  intro u hu
  simp [cells3, R3.cells] at hu
  obtain ⟨r, _, h | h | h⟩ := hu <;> subst h <;> rfl
theorem cells3_set : ∀ (rs : List R3) (k : Nat) (r : R3), k < rs.length → (((cells3 rs).set (k * 3) (.int .i64 r.a)).set (k * 3 + 1) (.int .i64 r.b)).set (k * 3 + 2) (.int .i64 r.c) = cells3 (rs.set k r)
  | [], k, r, h => by simp at h
  | s :: rs, 0, r, h => by simp [cells3, R3.cells]
  | s :: rs, k + 1, r, h => by
    have ih := cells3_set rs k r (by simpa using h)
    have e : cells3 (s :: rs) = .int .i64 s.a :: .int .i64 s.b :: .int .i64 s.c :: cells3 rs := by simp [cells3, R3.cells]
    have e2 : cells3 ((s :: rs).set (k + 1) r) = .int .i64 s.a :: .int .i64 s.b :: .int .i64 s.c :: cells3 (rs.set k r) := by simp [cells3, R3.cells]
    rw [e, e2, ← ih, show (k + 1) * 3 = k * 3 + 3 from by omega]
    simp
theorem cells3_append (xs ys : List R3) : cells3 xs ++ cells3 ys = cells3 (xs ++ ys) := by simp [cells3]

/-- A slice that reads as a list of triples. -/
def S3 (w : World) (A : Option Addr) (n : Nat) (rs : List R3) : Prop := Rd w 3 A n (cells3 rs)
section
variable {w w' : World} {A : Option Addr} {n : Nat} {rs : List R3}
theorem S3.len (h : S3 w A n rs) : rs.length = n := by have := h.1; rw [length_cells3] at this; omega
theorem S3.pick (h : S3 w A n rs) {k : Nat} (hk : k < n) : ∃ r b off, Hid (rs[k]? = some r) ∧ r ∈ rs ∧ A = some ⟨b, off, none⟩ ∧ b < w.heap.size ∧
    w.cell? ⟨b, off + k * 3, none⟩ = some (.int .i64 r.a) ∧ w.cell? ⟨b, off + k * 3 + 1, none⟩ = some (.int .i64 r.b) ∧ w.cell? ⟨b, off + k * 3 + 2, none⟩ = some (.int .i64 r.c) := by
  have hl := h.len
  have hr : rs[k]? = some (rs[k]'(by omega)) := List.getElem?_eq_getElem (by omega)
  obtain ⟨h0, h1, h2⟩ := cells3_get rs k _ hr
  obtain ⟨b, off, e, hc⟩ := h.2 (by rw [length_cells3]; omega)
  obtain ⟨l0, g0⟩ := List.getElem?_eq_some_iff.1 h0
  obtain ⟨l1, g1⟩ := List.getElem?_eq_some_iff.1 h1
  obtain ⟨l2, g2⟩ := List.getElem?_eq_some_iff.1 h2
  have k0 := hc _ l0
  have k1 := hc _ l1
  have k2 := hc _ l2
  rw [g0] at k0
  rw [g1] at k1
  rw [g2] at k2
  exact ⟨_, b, off, hr, List.getElem_mem _, e, World.block_lt_of_cell? w _ k0, k0, by rw [Nat.add_assoc]; exact k1, by rw [Nat.add_assoc]; exact k2⟩
theorem S3.below (h : S3 w A n rs) (hb : Below w.heap.size w w') : S3 w' A n rs := Rd.below h hb
theorem S3.drewN (h : S3 w A n rs) (k : Nat) : S3 (w.drewN k) A n rs := h
theorem S3.alloc (h : S3 w A n rs) (o : Obj) : S3 (w.alloc o) A n rs := Rd.alloc h o
end
/-- After k copies into a list of zeros. -/
def copied3 (rs : List R3) (k : Nat) : List R3 := rs.take k ++ List.replicate (rs.length - k) ⟨0, 0, 0⟩
theorem copied3_end (rs : List R3) {k : Nat} (h : rs.length ≤ k) : copied3 rs k = rs := by
  unfold copied3
  rw [List.take_of_length_le h, show rs.length - k = 0 from by omega]; simp
theorem length_copied3 (rs : List R3) (k : Nat) (h : k ≤ rs.length) : (copied3 rs k).length = rs.length := by simp [copied3]; omega
theorem copied3_next (rs : List R3) (k : Nat) (r : R3) (h : rs[k]? = some r) : (copied3 rs k).set k r = copied3 rs (k + 1) := by
  obtain ⟨hk, rfl⟩ := List.getElem?_eq_some_iff.1 h
  unfold copied3
  have e1 : (rs.take k).length = k := by simp; omega
  rw [List.set_append_right _ _ (by omega), e1, Nat.sub_self, List.take_succ_eq_append_getElem hk, show rs.length - k = (rs.length - (k + 1)) + 1 from by omega, List.replicate_succ]
  simp only [List.set_cons_zero, List.append_assoc, List.singleton_append]
theorem made_cells3 (n : Nat) (rs : List R3) (h : rs.length = n) : (madeCells (Value.agg #[.int .i64 0, .int .i64 0, .int .i64 0]).cells (n * 3)).toList = cells3 (copied3 rs 0) := by
  show (madeCells #[Value.int .i64 0, .int .i64 0, .int .i64 0] (n * 3)).toList = _
  have e : copied3 rs 0 = List.replicate n ⟨0, 0, 0⟩ := by simp [copied3, h]
  rw [e]
  apply List.ext_getElem?
  intro j
  by_cases hj : j < n * 3
  · obtain ⟨q, r, rfl, hr⟩ : ∃ q r, j = q * 3 + r ∧ r < 3 := ⟨j / 3, j % 3, by omega, by omega⟩
    have hq : (List.replicate n (⟨0, 0, 0⟩ : R3))[q]? = some ⟨0, 0, 0⟩ := by rw [List.getElem?_replicate, if_pos (by omega)]
    obtain ⟨h0, h1, h2⟩ := cells3_get _ q _ hq
    have hm : (q * 3 + r) % 3 = r := by omega
    match r, hr with
    | 0, _ => simp only [Nat.add_zero] at hj hm ⊢; rw [h0]; simp [madeCells, hj]
    | 1, _ => rw [h1]; simp [madeCells, hj, hm]
    | 2, _ => rw [h2]; simp [madeCells, hj, hm]
  · have hl : (cells3 (List.replicate n (⟨0, 0, 0⟩ : R3))).length = n * 3 := by rw [length_cells3]; simp
    rw [List.getElem?_eq_none (by simp [size_madeCells]; omega), List.getElem?_eq_none (by omega)]
def same3 (xs ys : List R3) : Bool := decide (xs = ys)
theorem same3_self (xs : List R3) : same3 xs xs = true := by simp [same3]
def sameR (x y : R3) : Bool := decide (x = y)
theorem same3_ne {xs ys : List R3} {x y : R3} {k : Nat} (hx : xs[k]? = some x) (hy : ys[k]? = some y) (h : (!sameR x y) = true) : false = same3 xs ys := by
  unfold same3; symm; rw [decide_eq_false_iff_not]; rintro rfl
  rw [hx] at hy
  simp at hy
  simp [sameR, hy] at h
theorem same3_len {xs ys : List R3} {n m : Nat} (h : ¬ n = m) (hx : xs.length = n) (hy : ys.length = m) : false = same3 xs ys := by
  unfold same3; symm; rw [decide_eq_false_iff_not]; rintro rfl; omega
theorem same3_eq {xs ys : List R3} {n k : Nat} (hk : n ≤ k) (hx : xs.length = n) (hy : ys.length = n) (h : xs.take k = ys.take k) : true = same3 xs ys := by
  rw [List.take_of_length_le (by omega), List.take_of_length_le (by omega)] at h
  unfold same3; symm; rw [decide_eq_true_iff]; exact h
theorem same3_next {xs ys : List R3} {x y : R3} {k : Nat} (hx : xs[k]? = some x) (hy : ys[k]? = some y) (h : xs.take k = ys.take k) (h1 : (!sameR x y) = false) : xs.take (k + 1) = ys.take (k + 1) := by
  obtain ⟨hk, rfl⟩ := List.getElem?_eq_some_iff.1 hx
  obtain ⟨hk', rfl⟩ := List.getElem?_eq_some_iff.1 hy
  rw [List.take_succ_eq_append_getElem hk, List.take_succ_eq_append_getElem hk', h]
  simp [sameR] at h1
  rw [h1]
end Go.Proofs.Ytbpofkggoolmpaa

/-
  From the reading of an argument that is a slice of triples to the words of the walks. No program is in sight.
-/
namespace Go.Proofs.Ytbpofkggoolmpaa
open Go.ChangeShapes Go.WideShapes Go.ChangeAt Go.RowKit Go.Deep

theorem addr_add_add (a : Addr) (i j : Nat) (w : World) (v : Value) (h : w.cell? ((a.add i).add j) = some v) : w.cell? (a.add (i + j)) = some v := by
  rw [← h]
  congr 1
  unfold Addr.add
  by_cases hi : i = 0 <;> by_cases hj : j = 0 <;> simp_all <;> omega

section
variable {H : Type} {enc : TypeId × Value → H} {P : Program} {w : World} {base : Nat} {held : Bool}
/-- A slice of triples that came in. -/
theorem s3_of_trod {t e q : TypeId} {f0 f1 f2 : Field} {fuel : Nat} {v : Value} {x : DataW H × List MemPlace} (ht : P.underlying t = some (.slice e)) (he : P.underlying e = some (.struct #[f0, f1, f2])) (t0 : f0.type = q) (t1 : f1.type = q) (t2 : f2.type = q) (o0 : f0.offset = 0) (o1 : f1.offset = 1) (o2 : f2.offset = 2) (hq : P.underlying q = some (.int .i64)) (ce : P.cellsOf e = 3) (cq : P.cellsOf q = 1)
    (h : DataW.trod enc P w base (fun _ => true) held fuel t [v] = some x) :
    ∃ A n c rs, v = .slice A n c ∧ S3 w A n rs ∧ n ≤ c ∧ c ≤ 9223372036854775807 := by
  rcases open_slice ht h with ⟨hcs, _⟩ | ⟨a, len, cap, m, n, D, Pl, hcs, _, hl, hm, hmm, _, hi⟩
  · simp at hcs; subst hcs
    exact ⟨none, 0, 0, [], rfl, Rd.nil, by omega, by omega⟩
  · simp at hcs; subst hcs
    simp at hmm; subst hmm
    have hm' : m ≤ 9223372036854775807 := by simp only [maxLen] at hm; omega
    have each : ∀ i, i < m → ∃ r : R3, w.cell? (a.add (i * 3 + 0)) = some (.int .i64 r.a) ∧ w.cell? (a.add (i * 3 + 1)) = some (.int .i64 r.b) ∧ w.cell? (a.add (i * 3 + 2)) = some (.int .i64 r.c) := by
      intro i him
      obtain ⟨cs', hc, htr⟩ := hi i him
      rw [ce] at hc
      obtain ⟨_, hlen, hcell⟩ := World.cells?_some hc
      obtain ⟨y0, y1, y2, n', _, _, h0, h1, h2⟩ := trod_struct3 he htr
      rw [t0, o0, cq] at h0
      rw [t1, o1, cq] at h1
      rw [t2, o2, cq] at h2
      match cs', hlen, hcell, h0, h1, h2 with
      | [c0, c1, c2], _, hcell, h0, h1, h2 =>
        simp at h0 h1 h2
        obtain ⟨z0, e0, _, _⟩ := DataW.trod_int hq h0
        obtain ⟨z1, e1, _, _⟩ := DataW.trod_int hq h1
        obtain ⟨z2, e2, _, _⟩ := DataW.trod_int hq h2
        simp only [List.cons.injEq, and_true] at e0 e1 e2
        subst e0 e1 e2
        exact ⟨⟨z0, z1, z2⟩, addr_add_add _ _ _ _ _ (by simpa using hcell 0 (by omega)), addr_add_add _ _ _ _ _ (by simpa using hcell 1 (by omega)), addr_add_add _ _ _ _ _ (by simpa using hcell 2 (by omega))⟩
    have hall : ∃ T : Nat → R3, ∀ i, i < m → w.cell? (a.add (i * 3 + 0)) = some (.int .i64 (T i).a) ∧ w.cell? (a.add (i * 3 + 1)) = some (.int .i64 (T i).b) ∧ w.cell? (a.add (i * 3 + 2)) = some (.int .i64 (T i).c) :=
      ⟨fun i => if h : i < m then (each i h).choose else ⟨0, 0, 0⟩, fun i him => by simp only [him, dif_pos]; exact (each i him).choose_spec⟩
    obtain ⟨T, hT⟩ := hall
    refine ⟨some a, len, m, (List.range len).map T, rfl, ⟨by rw [length_cells3]; simp, fun hn => ?_⟩, hl, hm'⟩
    rw [length_cells3] at hn
    simp at hn
    have h0 := (hT 0 (by omega)).1
    have hs : a = ⟨a.block, a.off, none⟩ := by
      rcases addr_none h0 with h1 | h1
      · exact h1
      · omega
    refine ⟨a.block, a.off, by rw [← hs], fun k hk => ?_⟩
    have hk2 := hk
    rw [length_cells3] at hk2
    simp at hk2
    obtain ⟨i, j, hj, rfl⟩ : ∃ i j, j < 3 ∧ k = i * 3 + j := ⟨k / 3, k % 3, by omega, by omega⟩
    have hg : ((List.range len).map T)[i]? = some (T i) := by simp [show i < len by omega]
    obtain ⟨g0, g1, g2⟩ := cells3_get _ _ _ hg
    obtain ⟨q0, q1, q2⟩ := hT i (by omega)
    rw [hs, add_lit] at q0 q1 q2
    match j, hj with
    | 0, _ => rw [q0, ← g0]; exact List.getElem?_eq_getElem _
    | 1, _ => rw [q1, ← g1]; exact List.getElem?_eq_getElem _
    | 2, _ => rw [q2, ← g2]; exact List.getElem?_eq_getElem _
end
end Go.Proofs.Ytbpofkggoolmpaa

/-
  A struct of one field, by value, opened. No program is in sight.
-/
namespace Go.Proofs.Ytbpofkggoolmpaa
open Go.ChangeShapes Go.WideShapes Go.ChangeAt Go.RowKit Go.Joins Go.Deep

section
variable {H : Type} {enc : TypeId × Value → H} {P : Program} {w : World} {base : Nat} {spare : Nat → Bool} {held : Bool}
theorem array1 {α : Type} {cs : Array α} (h : cs.size = 1) : ∃ c0, cs = #[c0] := by
  obtain ⟨l⟩ := cs
  match l, h with
  | [c0], _ => exact ⟨c0, rfl⟩
theorem trod_struct1 {t : TypeId} {f0 : Field} {fuel : Nat} {cs : List Value} {x : DataW H × List MemPlace} (ht : P.underlying t = some (.struct #[f0])) (h : DataW.trod enc P w base spare held fuel t cs = some x) :
    ∃ y0 n, x = (.agg [y0.1], y0.2) ∧ cs.length = P.cellsOf t ∧ DataW.trod enc P w base spare held n f0.type ((cs.drop f0.offset).take (P.cellsOf f0.type)) = some y0 := by
  obtain ⟨xs, n, _, rfl, hl, hlen, hf⟩ := DataW.trod_struct ht h
  match xs, hlen with
  | [y0], _ => exact ⟨y0, n, by simp, hl, by simpa using hf 0 f0 rfl⟩
theorem open_agg1 {r : Reach} {b0 : Nat} {t : TypeId} {f0 : Field} {v : Value} {d : DataW H} {p : List MemPlace} (hs : P.underlying t = some (.struct #[f0])) (hone : oneCellFields P #[f0] = true) (hC : P.cellsOf t = 1)
    (hv : Value.okWide P w r b0 t v) (h : DataW.Trod enc P w base spare held t v d p) :
    ∃ (v0 : Value) (y0 : DataW H × List MemPlace) (n : Nat), v = .agg #[v0] ∧ d = .agg [y0.1] ∧ p = y0.2 ∧ DataW.trod enc P w base spare held n f0.type [v0] = some y0 := by
  obtain ⟨cs, rfl, hsz⟩ := okWide_struct hs hv
  obtain ⟨c0, rfl⟩ := array1 (hsz.trans hC)
  obtain ⟨fuel, hf⟩ := h
  obtain ⟨y0, n, hx, _, h0⟩ := trod_struct1 hs hf
  obtain ⟨o0, k0⟩ := hone_of hone 0 f0 rfl
  simp only [Prod.mk.injEq] at hx
  exact ⟨c0, y0, n, rfl, hx.1, hx.2, by simpa [Value.cells, o0, k0] using h0⟩
end
end Go.Proofs.Ytbpofkggoolmpaa

/-
  Slices of bytes that came in; the numbers that an input chooses (r8Long, r8At).
-/
namespace Go.Proofs.Ytbpofkggoolmpaa
open Go.ChangeShapes Go.WideShapes Go.ChangeAt Go.RowKit Go.Joins Go.Deep

def byts (xs : List Int) : List Value := xs.map (Value.int .u8)
theorem length_byts (xs : List Int) : (byts xs).length = xs.length := by simp [byts]
/-- A slice of bytes. -/
def SB (w : World) (A : Option Addr) (n : Nat) (xs : List Int) : Prop := Rd w 1 A n (byts xs) ∧ ∀ x ∈ xs, 0 ≤ x ∧ x ≤ 255
section
variable {w w' : World} {A : Option Addr} {n : Nat} {xs : List Int}
theorem SB.len (h : SB w A n xs) : xs.length = n := by have := h.1.1; rw [length_byts] at this; omega
theorem SB.below (h : SB w A n xs) (z : Below w.heap.size w w') : SB w' A n xs := ⟨h.1.below z, h.2⟩
theorem SB.drewN (h : SB w A n xs) (k : Nat) : SB (w.drewN k) A n xs := ⟨h.1.drewN k, h.2⟩
theorem SB.alloc (h : SB w A n xs) (o : Obj) : SB (w.alloc o) A n xs := ⟨h.1.alloc o, h.2⟩
theorem SB.at_ (h : SB w A n xs) {k : Nat} (hk : k < n) : ∃ b off, A = some ⟨b, off, none⟩ ∧ b < w.heap.size ∧ w.cell? ⟨b, off + k, none⟩ = some (.int .u8 (xs[k]'(by rw [h.len]; exact hk))) := by
  have hl := h.len
  obtain ⟨b, off, e, hb, hc⟩ := h.1.at_ (k := k) (by rw [length_byts]; omega)
  exact ⟨b, off, e, hb, by rw [hc]; simp [byts]⟩
end
section
variable {H : Type} {enc : TypeId × Value → H} {P : Program} {w : World} {base : Nat} {held : Bool}
/-- A slice of bytes that came in. -/
theorem sb_of_trod {t e : TypeId} {fuel : Nat} {v : Value} {x : DataW H × List MemPlace} (ht : P.underlying t = some (.slice e)) (he : P.underlying e = some (.int .u8)) (hc : P.cellsOf e = 1) (h : DataW.trod enc P w base (fun _ => true) held fuel t [v] = some x) :
    ∃ A n c xs, v = .slice A n c ∧ SB w A n xs ∧ n ≤ c ∧ c ≤ 9223372036854775807 := by
  rcases open_ints ht he hc h with ⟨hcs, _⟩ | ⟨a, len, cap, zs, hcs, _, hl, hm, hz, _, hcell, hwf⟩
  · simp at hcs; subst hcs
    exact ⟨none, 0, 0, [], rfl, ⟨Rd.nil, by simp⟩, by omega, by omega⟩
  · simp at hcs; subst hcs
    simp at hz
    have hm' : cap ≤ 9223372036854775807 := by simp only [maxLen] at hm; omega
    refine ⟨some a, len, cap, zs.take len, rfl, ⟨⟨by rw [length_byts]; simp; omega, fun hn => ?_⟩, fun z hz' => ?_⟩, hl, hm'⟩
    · rw [length_byts] at hn
      simp at hn
      have h0 := hcell 0 (by omega)
      have hs : a = ⟨a.block, a.off, none⟩ := by
        rcases addr_none h0 with h1 | h1
        · exact h1
        · omega
      refine ⟨a.block, a.off, by rw [← hs], fun k hk => ?_⟩
      rw [length_byts] at hk
      simp at hk
      have hk' := hcell k (by omega)
      rw [hs, add_lit] at hk'
      rw [hk']
      simp [byts, List.getD, List.getElem?_eq_getElem (show k < zs.length by omega)]
    · have := hwf z (List.mem_of_mem_take hz')
      simpa [Lit.wf, IntKind.min, IntKind.max, IntKind.signed, IntKind.bits] using this
end

def longB (n m : Nat) : Bool := decide (1048576 < n) || decide (1048576 < m)
set_option maxHeartbeats 400000 in
theorem r8Long_any (A B : Option Addr) (n c m d : Nat) (w : World) (hn : n ≤ 9223372036854775807) (hm : m ≤ 9223372036854775807) :
    Calls Try.prog 57 #[.slice A n c, .slice B m d] w fun e w' => e = .returned (.bool (longB n m)) ∧ w = w' := by
  go_enter Try.func57, Try.ntmps57
  go_wp2
  all_goals
    go_ret
    exact ⟨ret_bool (by unfold longB; rw [Bool.eq_iff_iff]; simp; omega), rfl⟩
/-- The number below n that an input chooses at place k. -/
def r8AtF (xs : List Int) (k : Nat) (n : Int) : Int := if n ≤ 1 ∨ xs.length ≤ k then 0 else (xs.getD k 0) % n
theorem r8AtF_range (xs : List Int) (k : Nat) (n : Int) (_h : ∀ x ∈ xs, 0 ≤ x ∧ x ≤ 255) : 0 ≤ r8AtF xs k n ∧ (1 ≤ n → r8AtF xs k n < n) := by
  unfold r8AtF
  split
  · omega
  · rename_i h1
    have h2 : 1 < n := by omega
    exact ⟨Int.emod_nonneg _ (by omega), fun _ => Int.emod_lt_of_pos _ (by omega)⟩
end Go.Proofs.Ytbpofkggoolmpaa

/-
  Whether two lists are equal (r8Same).
-/
namespace Go.Proofs.Ytbpofkggoolmpaa
open Go.RowKit

/-- A slice that came in lies in a block that is there. -/
theorem okWide_blk {P : Program} {w : World} {r : Reach} {base : Nat} {t e : TypeId} {A : Option Addr} {n c : Nat} (ht : P.underlying t = some (.slice e)) (h : Value.okWide P w r base t (.slice A n c)) : ∀ k, blk A = some k → k < w.heap.size := by
  intro k hk
  cases A with
  | none => cases hk
  | some a =>
    simp only [Value.okWide, ht, Cell.okWide, Cell.ok] at h
    obtain ⟨_, _, _, _, row, cells, hs, _⟩ := h
    have hk' : a.block = k := by simpa [blk] using hk
    subst hk'
    refine Nat.lt_of_not_le fun hle => ?_
    unfold World.shape? at hs
    rw [Array.getElem?_eq_none hle] at hs
    cases hs
end Go.Proofs.Ytbpofkggoolmpaa

/-
  Contracts of the laws' helpers over []Rule: szRuleS, toRule, toRuleS, eqRule, eqRuleS, markRuleS.
-/
namespace Go.Proofs.Ytbpofkggoolmpaa
open Go.RowKit

theorem elR : Elem Try.prog 34 229 3 24 (.agg #[.int .i64 0, .int .i64 0, .int .i64 0]) := ⟨Try.underlying34, by kernel_rfl, rfl, by decide⟩

set_option maxHeartbeats 400000 in
theorem szR (A : Option Addr) (n c : Nat) (left : Int) (w : World) (hn : n ≤ 9223372036854775807) (h0 : 0 ≤ left) (h1 : left ≤ 1048576) :
    Calls Try.prog 82 #[.slice A n c, .int .i64 left] w fun e w' => e = .returned (.int .i64 (szF left n)) ∧ w = w' := by
  by_cases h : left < n
  · have h2 : left - n < 0 := by omega
    go_enter Try.func82, Try.ntmps82
    go_wp2
    go_ret
    exact ⟨ret_int (by unfold szF; rw [if_pos h]), rfl⟩
  · have h2 : ¬ left - n < 0 := by omega
    go_enter Try.func82, Try.ntmps82
    go_wp2
    go_ret
    exact ⟨ret_int (by unfold szF; rw [if_neg (by omega)]), rfl⟩

set_option maxHeartbeats 400000 in
theorem toRule_any (a b c : Int) (w : World) :
    Calls Try.prog 182 #[.agg #[.int .i64 a, .int .i64 b, .int .i64 c]] w fun e w' => e = .returned (.agg #[.int .i64 a, .int .i64 b, .int .i64 c]) ∧ Below w.heap.size w w' := by
  go_enter Try.func182, Try.ntmps182
  go_wp2
  exact bodyPost_ret (v := .agg #[.int .i64 a, .int .i64 b, .int .i64 c]) (by simp [results, Try.results182, go_sem]) rfl ⟨rfl, (((Below.refl _ _).alloc (Nat.le_refl _) _).alloc (by simp) _).alloc (by simp; omega) _⟩

set_option maxHeartbeats 400000 in
theorem eqRule_any (a b c a' b' c' : Int) (w : World) :
    Calls Try.prog 191 #[.agg #[.int .i64 a, .int .i64 b, .int .i64 c], .agg #[.int .i64 a', .int .i64 b', .int .i64 c']] w fun e w' => e = .returned (.bool (sameR ⟨a, b, c⟩ ⟨a', b', c'⟩)) ∧ Below w.heap.size w w' := by
  have hb : Below w.heap.size w ((w.alloc (.cells #[.int .i64 a, .int .i64 b, .int .i64 c] 229)).alloc (.cells #[.int .i64 a', .int .i64 b', .int .i64 c'] 229)) := ((Below.refl _ _).alloc (Nat.le_refl _) _).alloc (by simp) _
  go_enter Try.func191, Try.ntmps191
  go_wp2
  all_goals go_ret
  all_goals exact ⟨ret_bool (by simp_all [sameR]), hb⟩

def ToR (w : World) (n : Nat) (rs : List R3) (e : Ending) (w' : World) : Prop :=
  ∃ A, e = .returned (.slice A n n) ∧ Own w' w.heap.size 229 3 A n n (cells3 rs) ∧ Below w.heap.size w w'

set_option maxHeartbeats 1000000 in
theorem toR (A : Option Addr) (n c : Nat) (rs : List R3) (w : World) (hx : S3 w A n rs) (hn : n ≤ 1048576) :
    Calls Try.prog 88 #[.slice A n c] w (ToR w n rs) := by
  have HL := Lib.hid hx.len
  have hxl : n ≤ rs.length := by have := hx.len; omega
  have hxl' : rs.length ≤ n := by have := hx.len; omega
  go_enter Try.func88, Try.ntmps88
  go_wp2_with (at_make; refine wpList_make_Own rfl (.tmp 6) (.tmp 6) rfl elR (n := n) (lo := w.heap.size) rfl rfl (by omega) (by unfold maxLen; omega) (Nat.le_refl _) ?_; intro w2 ho2 hb2 hs2)
  rw [made_cells3 n rs HL.out] at ho2
  have HS := Lib.hid hs2
  clear hs2
  go_loopw [4] (fun i wr => ∃ k : Nat, k ≤ n ∧ i = .int .i64 k ∧ Own wr w.heap.size 229 3 (some ⟨w.heap.size, 0, none⟩) n n (cells3 (copied3 rs k)) ∧ Below w.heap.size w wr) (fun i _ => n - (intOf i).toNat)
  case atStart => exact ⟨0, by omega, rfl, ho2, hb2⟩
  case round =>
    obtain ⟨k, hk, rfl, ho, hb⟩ := hrel
    by_cases hlt : k < n
    · obtain ⟨r, b, off, hr, _, rfl, hbl, q0, q1, q2⟩ := (hx.below hb).pick hlt
      go_wp2_with fail
      refine (toRule_any _ _ _ _).mono ?_
      rintro e w3 ⟨rfl, hb3⟩
      have ho3 := ho.below hb3
      have hll : n * 3 ≤ (cells3 (copied3 rs k)).length := by rw [length_cells3, length_copied3 _ _ (by omega)]; omega
      obtain ⟨b0, off0, he, hlo, hlt0, hc0, hf0⟩ := ho3.at_ (k := k * 3) (by omega)
      obtain ⟨b1, off1, he1, _, _, hc1, hf1⟩ := ho3.at_ (k := k * 3 + 1) (by omega)
      obtain ⟨b2, off2, he2, _, _, hc2, hf2⟩ := ho3.at_ (k := k * 3 + 2) (by omega)
      simp only [Option.some.injEq, Addr.mk.injEq, and_true] at he he1 he2
      obtain ⟨rfl, rfl⟩ := he
      obtain ⟨rfl, rfl⟩ := he1
      obtain ⟨rfl, rfl⟩ := he2
      have ho4 := ((ho3.set_ (k := k * 3) (by omega) (.int .i64 r.a)).set_ (k := k * 3 + 1) (by rw [List.length_set]; omega) (.int .i64 r.b)).set_ (k := k * 3 + 2) (by rw [List.length_set, List.length_set]; omega) (.int .i64 r.c)
      rw [cells3_set _ _ r (by rw [length_copied3 _ _ (by omega)]; omega), copied3_next _ _ _ hr.out] at ho4
      simp only [Nat.zero_add] at hc0 hc1 hc2 hf0 hf1 hf2 ho4
      have hb4 := (((hb.trans (hb3.mono hb.size)).setCell (p := ⟨w.heap.size, k * 3, none⟩) (Nat.le_refl _) (.int .i64 r.a)).setCell (p := ⟨w.heap.size, k * 3 + 1, none⟩) (Nat.le_refl _) (.int .i64 r.b)).setCell (p := ⟨w.heap.size, k * 3 + 2, none⟩) (Nat.le_refl _) (.int .i64 r.c)
      clear q0 q1 q2
      go_wp2_with fail
      exact ⟨⟨k + 1, by omega, by go_num, ho4, hb4⟩, by simp [intOf]; omega⟩
    · go_wp2
      go_ret
      have hoo := ho
      rw [copied3_end rs (by omega)] at hoo
      exact ⟨_, rfl, hoo, hb⟩

set_option maxHeartbeats 1000000 in
theorem eqR (A B : Option Addr) (n m c d : Nat) (xs ys : List R3) (w : World) (hx : S3 w A n xs) (hy : S3 w B m ys) (hn : n ≤ 9223372036854775807) :
    Calls Try.prog 96 #[.slice A n c, .slice B m d] w fun e w' => e = .returned (.bool (same3 xs ys)) ∧ Below w.heap.size w w' := by
  by_cases hnm : n = m
  · subst hnm
    go_enter Try.func96, Try.ntmps96
    go_wp2
    go_loopw [5] (fun i wr => ∃ k : Nat, k ≤ n ∧ i = .int .i64 k ∧ Hid (xs.take k = ys.take k) ∧ Below w.heap.size w wr) (fun i _ => n - (intOf i).toNat)
    case atStart => exact ⟨0, by omega, rfl, rfl, Below.refl _ _⟩
    case round =>
      obtain ⟨k, hk, rfl, he, hb⟩ := hrel
      by_cases hlt : k < n
      · obtain ⟨x, b, off, hX, _, rfl, hbl, q0, q1, q2⟩ := (hx.below hb).pick hlt
        obtain ⟨y, b', off', hY, _, rfl, hbl', q0', q1', q2'⟩ := (hy.below hb).pick hlt
        go_upto_region 6 with fail
        go_cut [26] (fun s26 wx => s26 = .bool (!sameR x y) ∧ Below w.heap.size w wx)
        case first =>
          go_region_held3 (fun w' => w'.cell? ⟨b, off + k * 3, none⟩ = some (.int .i64 x.a) ∧ w'.cell? ⟨b, off + k * 3 + 1, none⟩ = some (.int .i64 x.b) ∧ w'.cell? ⟨b, off + k * 3 + 2, none⟩ = some (.int .i64 x.c) ∧
              w'.cell? ⟨b', off' + k * 3, none⟩ = some (.int .i64 y.a) ∧ w'.cell? ⟨b', off' + k * 3 + 1, none⟩ = some (.int .i64 y.b) ∧ w'.cell? ⟨b', off' + k * 3 + 2, none⟩ = some (.int .i64 y.c))
            (first
              | (go_keep; done)
              | (exact ⟨(hb2.cell (p := ⟨b, off + k * 3, none⟩) hbl).trans q0, (hb2.cell (p := ⟨b, off + k * 3 + 1, none⟩) hbl).trans q1, (hb2.cell (p := ⟨b, off + k * 3 + 2, none⟩) hbl).trans q2, (hb2.cell (p := ⟨b', off' + k * 3, none⟩) hbl').trans q0', (hb2.cell (p := ⟨b', off' + k * 3 + 1, none⟩) hbl').trans q1', (hb2.cell (p := ⟨b', off' + k * 3 + 2, none⟩) hbl').trans q2'⟩))
            (first
              | (go_at_call 191; refine (eqRule_any _ _ _ _ _ _ _).mono ?_; rintro e w2 ⟨rfl, hb2'⟩; have hb2 : Below wr.heap.size wr w2 := below_undrew hb2'))
          go_wp2_with fail
          go_meet
          exact ⟨rfl, hb.trans (hb2.mono hb.size)⟩
        case rest =>
          obtain ⟨rfl, hb3⟩ := hcut
          clear q0 q1 q2 q0' q1' q2'
          go_wp2_with fail
          · go_ret
            exact ⟨ret_bool (same3_ne hX.out hY.out (by assumption)), hb3⟩
          · exact ⟨⟨k + 1, by omega, by go_num, same3_next hX.out hY.out he.out (by assumption), hb3⟩, by simp [intOf]; omega⟩
      · go_wp2
        go_ret
        exact ⟨ret_bool (same3_eq (by omega) hx.len hy.len he.out), hb⟩
  · have hne : ((n : Int) != (m : Int)) = true := by simp; omega
    go_enter Try.func96, Try.ntmps96
    go_wp2
    go_ret
    exact ⟨ret_bool (same3_len hnm hx.len hy.len), Below.refl _ _⟩

set_option maxHeartbeats 1000000 in
theorem markR_m (T : List TypeId) (A : Option Addr) (n c : Nat) (m : Int) (w : World) (lo hi : Nat) (hx : Mk w lo hi 229 3 A n) (hT : 229 ∈ T) (h0 : 0 ≤ m) (h1 : m + n * 3 ≤ 9223372036854775807) :
    Calls Try.prog 97 #[.slice A n c, .int .i64 m] w (MarkP T w lo hi (n * 3) m) := by
  have HT := Lib.hid hT
  clear hT
  go_enter Try.func97, Try.ntmps97
  go_wp2
  go_loopw [1, 5] (fun q i wr => ∃ k : Nat, k ≤ n ∧ i = .int .i64 k ∧ q = .int .i64 (m + k * 3) ∧ Mk wr lo hi 229 3 A n ∧ MkF T lo hi w wr) (fun _ i _ => n - (intOf i).toNat)
  case atStart => exact ⟨0, by omega, rfl, by simp, hx, MkF.refl _ _ _ _⟩
  case round =>
    obtain ⟨k, hk, rfl, rfl, ho, ht⟩ := hrel
    by_cases hlt : k < n
    · obtain ⟨b, off, cur, v, rfl, hlo, hhi, hg, hc, hf⟩ := ho.at_ (k := k * 3) (by omega)
      obtain ⟨b1, off1, _, v1, he1, _, _, _, hc1, hf1⟩ := ho.at_ (k := k * 3 + 1) (by omega)
      obtain ⟨b2, off2, _, v2, he2, _, _, _, hc2, hf2⟩ := ho.at_ (k := k * 3 + 2) (by omega)
      simp only [Option.some.injEq, Addr.mk.injEq, and_true] at he1 he2
      obtain ⟨rfl, rfl⟩ := he1
      obtain ⟨rfl, rfl⟩ := he2
      have f1 := (MkF.refl T lo hi wr).setCell (i := off + k * 3) hg HT.out hlo hhi (.int .i64 (m + k * 3))
      have g1 := heap_setCell_same wr b (off + k * 3) cur _ (.int .i64 (m + k * 3)) hg
      have f2 := f1.setCell (i := off + k * 3 + 1) g1 HT.out hlo hhi (.int .i64 (m + k * 3 + 1))
      have g2 := heap_setCell_same _ b (off + k * 3 + 1) _ _ (.int .i64 (m + k * 3 + 1)) g1
      have f3 := f2.setCell (i := off + k * 3 + 2) g2 HT.out hlo hhi (.int .i64 (m + k * 3 + 1 + 1))
      have HG := Lib.hid hg
      clear hg g1 g2 f1 f2
      rw [← Nat.add_assoc] at hc1 hf1 hc2 hf2
      have i1 : m + (k : Int) * 3 + 1 ≤ 9223372036854775806 := by omega
      go_wp2
      exact ⟨⟨k + 1, by omega, by go_num, by go_num, ho.mkf f3, ht.trans f3⟩, by simp [intOf]; omega⟩
    · go_wp2
      go_ret
      obtain rfl : k = n := by omega
      exact ⟨ret_int (by omega), ht⟩
end Go.Proofs.Ytbpofkggoolmpaa
