/-
  Contracts of the laws' helpers over []int64: szInt64S, toInt64S, eqInt64S, markInt64S, heldInt64S.
-/
import Derived.Test.YtbpofkggoolmpaaPbFmAll0
import Derived.Test.YtbpofkggoolmpaaProg
import Derived.BigQuiet
import Derived.Deep.QuietTactic
import Derived.KernelRfl
import Derived.BigGuardPart
import Derived.Deep.RegionHeld3
import Derived.Deep.DeepCutAuto
namespace Go.Proofs.Ytbpofkggoolmpaa
open Go.RowKit

theorem elI : Elem Try.prog 26 2 1 8 (.int .i64 0) := ⟨Try.underlying26, by kernel_rfl, rfl, by decide⟩

def szF (left n : Int) : Int := if left < n then -1 else left - n

set_option maxHeartbeats 400000 in
theorem szI (A : Option Addr) (n c : Nat) (left : Int) (w : World) (hn : n ≤ 9223372036854775807) (h0 : 0 ≤ left) (h1 : left ≤ 1048576) :
    Calls Try.prog 84 #[.slice A n c, .int .i64 left] w fun e w' => e = .returned (.int .i64 (szF left n)) ∧ w = w' := by
  by_cases h : left < n
  · have h2 : left - n < 0 := by omega
    go_enter Try.func84, Try.ntmps84
    go_wp2
    go_ret
    exact ⟨ret_int (by unfold szF; rw [if_pos h]), rfl⟩
  · have h2 : ¬ left - n < 0 := by omega
    go_enter Try.func84, Try.ntmps84
    go_wp2
    go_ret
    exact ⟨ret_int (by unfold szF; rw [if_neg (by omega)]), rfl⟩

set_option maxHeartbeats 400000 in
theorem eqI (A B : Option Addr) (n m c d : Nat) (xs ys : List Int) (w : World) (hx : SI w A n xs) (hy : SI w B m ys) (hn : n ≤ 9223372036854775807) :
    Calls Try.prog 95 #[.slice A n c, .slice B m d] w fun e w' => e = .returned (.bool (sameI xs ys)) ∧ ∃ q, w' = w.drewN q := by
  by_cases hnm : n = m
  · subst hnm
    go_enter Try.func95, Try.ntmps95
    go_wp2
    go_loopw [5] (fun i wr => ∃ k q : Nat, k ≤ n ∧ i = .int .i64 k ∧ Hid (xs.take k = ys.take k) ∧ wr = w.drewN q) (fun i _ => n - (intOf i).toNat)
    case atStart => exact ⟨0, 0, by omega, rfl, rfl, rfl⟩
    case round =>
      obtain ⟨k, q, hk, rfl, he, rfl⟩ := hrel
      by_cases hlt : k < n
      · obtain ⟨b, off, rfl, _, hc⟩ := hx.at_ hlt
        obtain ⟨b', off', rfl, _, hc'⟩ := hy.at_ hlt
        go_wp2
        go_quiet (fail)
        go_wp2
        · go_ret
          exact ⟨ret_bool (sameI_ne hlt hx.len hy.len (by assumption)), _, World.drewN_drewN _ _ _⟩
        · exact ⟨⟨k + 1, _, by omega, by go_num, take_next hlt hx.len hy.len he.out (by assumption), rfl⟩, by simp [intOf]; omega⟩
      · go_wp2
        go_ret
        exact ⟨ret_bool (sameI_eq (by omega) hx.len hy.len he.out), _, rfl⟩
  · have hne : ((n : Int) != (m : Int)) = true := by simp; omega
    go_enter Try.func95, Try.ntmps95
    go_wp2
    go_ret
    exact ⟨ret_bool (sameI_len hnm hx.len hy.len), 0, rfl⟩

set_option maxHeartbeats 400000 in
theorem heldI (A : Option Addr) (n c : Nat) (xs : List Int) (m : Int) (w : World) (hx : SI w A n xs) (h0 : 0 ≤ m) (h1 : m + n ≤ 9223372036854775807) :
    Calls Try.prog 101 #[.slice A n c, .int .i64 m] w fun e w' => e = .returned (.int .i64 (heldF m xs)) ∧ w = w' := by
  go_enter Try.func101, Try.ntmps101
  go_wp2
  go_loop [1, 5] (fun q i => ∃ k : Nat, k ≤ n ∧ i = .int .i64 k ∧ q = .int .i64 (m + k) ∧ Hid (xs.take k = (marks m n).take k)) (fun _ i => n - (intOf i).toNat)
  case atStart => exact ⟨0, by omega, rfl, by simp, rfl⟩
  case round =>
    obtain ⟨k, hk, rfl, rfl, he⟩ := hrel
    by_cases hlt : k < n
    · obtain ⟨b, off, rfl, _, hc⟩ := hx.at_ hlt
      go_wp2
      · go_ret
        exact ⟨ret_int (heldF_ne hlt hx.len (by assumption)), rfl⟩
      · exact ⟨⟨k + 1, by omega, by go_num, by go_num, held_next hlt hx.len he.out (by assumption)⟩, by simp [intOf]; omega⟩
    · go_wp2
      go_ret
      exact ⟨ret_int (heldF_eq (by omega) hx.len he.out (by omega)), rfl⟩

def MarkI (w : World) (lo hi : Nat) (A : Option Addr) (n c : Nat) (m : Int) (e : Ending) (w' : World) : Prop :=
  e = .returned (.int .i64 (m + n)) ∧ OwnE w' lo 2 A n c (marks m n) ∧ Tch lo hi w w' ∧ ∀ b, blk A ≠ some b → w'.heap[b]? = w.heap[b]?

set_option maxHeartbeats 400000 in
theorem markI (A : Option Addr) (n c : Nat) (xs : List Int) (m : Int) (w : World) (lo hi : Nat) (hx : OwnE w lo 2 A n c xs) (hh : ∀ b, blk A = some b → b < hi) (h0 : 0 ≤ m) (h1 : m + n ≤ 9223372036854775807) :
    Calls Try.prog 99 #[.slice A n c, .int .i64 m] w (MarkI w lo hi A n c m) := by
  have hl : xs.length = n := by have := hx.si.len; omega
  have HL := Lib.hid hl
  have hxl : n ≤ xs.length := by omega
  clear hl
  go_enter Try.func99, Try.ntmps99
  go_wp2
  go_loopw [1, 5] (fun q i wr => ∃ k : Nat, k ≤ n ∧ i = .int .i64 k ∧ q = .int .i64 (m + k) ∧ OwnE wr lo 2 A n c (marked m xs k) ∧ Tch lo hi w wr ∧ Hid (∀ b, blk A ≠ some b → wr.heap[b]? = w.heap[b]?)) (fun _ i _ => n - (intOf i).toNat)
  case atStart => exact ⟨0, by omega, rfl, by simp, by rw [marked_zero]; exact hx, Tch.refl _ _ _, fun _ _ => rfl⟩
  case round =>
    obtain ⟨k, hk, rfl, rfl, ho, ht, hfar⟩ := hrel
    by_cases hlt : k < n
    · have hml : k < (ints (marked m xs k)).length := by rw [length_ints, length_marked _ _ _ (by omega)]; omega
      have ho := ho.resolve_left (fun h => by omega)
      obtain ⟨b, off, rfl, hlo, _, hc, hf⟩ := ho.at_ hml
      have hbh := hh b rfl
      have ho2 := ho.set_ hml (.int .i64 (m + k))
      rw [ints_set, marked_next _ _ _ (by omega)] at ho2
      have ht2 := ht.setCell (p := ⟨b, off + k, none⟩) hlo hbh (.int .i64 (m + k))
      have hfar2 : Hid (∀ b', blk (some ⟨b, off, none⟩) ≠ some b' → (wr.setCell ⟨b, off + k, none⟩ (.int .i64 (m + k))).heap[b']? = w.heap[b']?) := fun b' hb' => (Below.heap_setCell _ _ _ _ (fun e => hb' (by rw [e]; rfl))).trans (hfar.out b' hb')
      go_wp2
      exact ⟨⟨k + 1, by omega, by go_num, by go_num, .inr ho2, ht2, hfar2⟩, by simp [intOf]; omega⟩
    · go_wp2
      go_ret
      obtain rfl : k = n := by omega
      have hoo := ho
      have e2 : marked m xs k = marks m k := by rw [← HL.out, marked_end]
      rw [e2] at hoo
      exact ⟨rfl, hoo, ht, hfar.out⟩

def ToI (w : World) (n : Nat) (xs : List Int) (e : Ending) (w' : World) : Prop :=
  ∃ A, e = .returned (.slice A n n) ∧ Own w' w.heap.size 2 1 A n n (ints xs) ∧ Below w.heap.size w w'

set_option maxHeartbeats 400000 in
theorem toI (A : Option Addr) (n c : Nat) (xs : List Int) (w : World) (hx : SI w A n xs) (hn : n ≤ 1048576) :
    Calls Try.prog 90 #[.slice A n c] w (ToI w n xs) := by
  have HL := Lib.hid hx.len
  have hxl : n ≤ xs.length := by have := hx.len; omega
  have hxl' : xs.length ≤ n := by have := hx.len; omega
  go_enter Try.func90, Try.ntmps90
  go_wp2_with (at_make; refine wpList_make_Own rfl (.tmp 6) (.tmp 6) rfl elI (n := n) (lo := w.heap.size) rfl rfl (by omega) (by unfold maxLen; omega) (Nat.le_refl _) ?_; intro w2 ho2 hb2 hs2)
  rw [made_ints n xs HL.out] at ho2
  have HS := Lib.hid hs2
  clear hs2
  go_loopw [4] (fun i wr => ∃ k : Nat, k ≤ n ∧ i = .int .i64 k ∧ Own wr w.heap.size 2 1 (some ⟨w.heap.size, 0, none⟩) n n (ints (copied xs k)) ∧ Below w.heap.size w wr) (fun i _ => n - (intOf i).toNat)
  case atStart => exact ⟨0, by omega, rfl, ho2, hb2⟩
  case round =>
    obtain ⟨k, hk, rfl, ho, hb⟩ := hrel
    by_cases hlt : k < n
    · obtain ⟨b, off, rfl, hbl, hc⟩ := (hx.below hb).at_ hlt
      have hml : k < (ints (copied xs k)).length := by rw [length_ints, length_copied _ _ (by omega)]; omega
      obtain ⟨b', off', he, hlo, _, hc', hf'⟩ := ho.at_ hml
      simp only [Option.some.injEq, Addr.mk.injEq, and_true] at he
      obtain ⟨rfl, rfl⟩ := he
      have ho3 := ho.set_ hml (.int .i64 (xs[k]'(by omega)))
      rw [ints_set, copied_next _ _ (by omega)] at ho3
      have hb3 := hb.setCell (p := ⟨w.heap.size, 0 + k, none⟩) (Nat.le_refl _) (.int .i64 (xs[k]'(by omega)))
      simp only [Nat.zero_add] at hc' hf' ho3 hb3
      go_wp2
      exact ⟨⟨k + 1, by omega, by go_num, ho3, hb3⟩, by simp [intOf]; omega⟩
    · go_wp2
      go_ret
      have hoo := ho
      rw [copied_end xs (by omega)] at hoo
      exact ⟨_, rfl, hoo, hb⟩

/-- A slice in new memory. -/
def NewI (w : World) (xs : List Int) (e : Ending) (w' : World) : Prop :=
  ∃ A c, e = .returned (.slice A xs.length c) ∧ Own w' w.heap.size 2 1 A xs.length c (ints xs) ∧ Below w.heap.size w w'

/-- A slice in new memory and a number. -/
def NewI2 (w : World) (r : List Int × Int) (e : Ending) (w' : World) : Prop :=
  ∃ A c, e = .returned (.tuple #[.slice A r.1.length c, .int .i64 r.2]) ∧ Own w' w.heap.size 2 1 A r.1.length c (ints r.1) ∧ Below w.heap.size w w'


/-- What marking a copy does: the number goes on, the memory is as it was but for the copies' cells. -/
def MarkP (T : List TypeId) (w : World) (lo hi : Nat) (t : Nat) (m : Int) (e : Ending) (w' : World) : Prop := e = .returned (.int .i64 (m + t)) ∧ MkF T lo hi w w'

set_option maxHeartbeats 400000 in
theorem markI_m (T : List TypeId) (A : Option Addr) (n c : Nat) (m : Int) (w : World) (lo hi : Nat) (hx : Mk w lo hi 2 1 A n) (hT : 2 ∈ T) (h0 : 0 ≤ m) (h1 : m + n ≤ 9223372036854775807) :
    Calls Try.prog 99 #[.slice A n c, .int .i64 m] w (MarkP T w lo hi n m) := by
  have HT := Lib.hid hT
  clear hT
  go_enter Try.func99, Try.ntmps99
  go_wp2
  go_loopw [1, 5] (fun q i wr => ∃ k : Nat, k ≤ n ∧ i = .int .i64 k ∧ q = .int .i64 (m + k) ∧ Mk wr lo hi 2 1 A n ∧ MkF T lo hi w wr) (fun _ i _ => n - (intOf i).toNat)
  case atStart => exact ⟨0, by omega, rfl, by simp, hx, MkF.refl _ _ _ _⟩
  case round =>
    obtain ⟨k, hk, rfl, rfl, ho, ht⟩ := hrel
    by_cases hlt : k < n
    · obtain ⟨b, off, cur, v, rfl, hlo, hhi, hg, hc, hf⟩ := ho.at_ (k := k) (by omega)
      have ht2 := ht.setCell (i := off + k) hg HT.out hlo hhi (.int .i64 (m + k))
      have ho2 := ho.mkf ((MkF.refl T lo hi wr).setCell (i := off + k) hg HT.out hlo hhi (.int .i64 (m + k)))
      have HG := Lib.hid hg
      clear hg
      go_wp2
      exact ⟨⟨k + 1, by omega, by go_num, by go_num, ho2, ht2⟩, by simp [intOf]; omega⟩
    · go_wp2
      go_ret
      obtain rfl : k = n := by omega
      exact ⟨rfl, ht⟩
end Go.Proofs.Ytbpofkggoolmpaa

/-
  Contracts of impl's smallest functions: within, size, allWithin; slices.Clone.
-/
namespace Go.Proofs.Ytbpofkggoolmpaa
open Go.RowKit

def inB (n lo hi : Int) : Bool := decide (lo ≤ n) && decide (n ≤ hi)
def allIn (xs : List Int) (lo hi : Int) : Bool := xs.all (fun x => inB x lo hi)
theorem inB_iff (n lo hi : Int) : inB n lo hi = true ↔ lo ≤ n ∧ n ≤ hi := by simp [inB]

set_option maxHeartbeats 400000 in
theorem within_any (n lo hi : Int) (w : World) :
    Calls Try.prog 104 #[.int .i64 n, .int .i64 lo, .int .i64 hi] w fun e w' => e = .returned (.bool (inB n lo hi)) ∧ w = w' := by
  by_cases h1 : lo ≤ n <;> by_cases h2 : n ≤ hi
  all_goals
    go_enter Try.func104, Try.ntmps104
    go_wp2
    go_ret
    exact ⟨ret_bool (by simp [inB]; omega), rfl⟩

theorem sizeI_any (A : Option Addr) (n c : Nat) (w : World) (_h : n ≤ 9223372036854775807) :
    Calls Try.prog 258 #[.slice A n c] w fun e w' => e = .returned (.int .i64 n) ∧ w = w' := by
  go_enter Try.func258, Try.ntmps258
  go_wp2
  go_ret
  exact ⟨rfl, rfl⟩

theorem allIn_at {xs : List Int} {lo hi : Int} {k n : Nat} (hk : k < n) (hl : xs.length = n) (h : (!inB (xs[k]'(by omega)) lo hi) = true) : false = allIn xs lo hi := by
  symm; unfold allIn; rw [List.all_eq_false]
  exact ⟨_, List.getElem_mem (by omega : k < xs.length), by simpa using h⟩
theorem allIn_next {xs : List Int} {lo hi : Int} {k n : Nat} (hk : k < n) (hl : xs.length = n) (h : (!inB (xs[k]'(by omega)) lo hi) = false) (he : allIn (xs.take k) lo hi = true) : allIn (xs.take (k + 1)) lo hi = true := by
  rw [List.take_succ_eq_append_getElem (by omega)]
  simp only [allIn, List.all_append, Bool.and_eq_true] at he ⊢
  exact ⟨he, by simpa using h⟩
theorem allIn_end {xs : List Int} {lo hi : Int} {k n : Nat} (hk : n ≤ k) (hl : xs.length = n) (he : allIn (xs.take k) lo hi = true) : true = allIn xs lo hi := by
  rw [List.take_of_length_le (by omega)] at he; exact he.symm

set_option maxHeartbeats 400000 in
theorem allWithin_any (A : Option Addr) (n c : Nat) (xs : List Int) (lo hi : Int) (w : World) (hx : SI w A n xs) (hn : n ≤ 9223372036854775807) :
    Calls Try.prog 239 #[.slice A n c, .int .i64 lo, .int .i64 hi] w fun e w' => e = .returned (.bool (allIn xs lo hi)) ∧ w = w' := by
  go_enter Try.func239, Try.ntmps239
  go_wp2
  go_loop [11] (fun i => ∃ k : Nat, k ≤ n ∧ i = .int .i64 k ∧ Hid (allIn (xs.take k) lo hi = true)) (fun i => n - (intOf i).toNat)
  case atStart => exact ⟨0, by omega, rfl, rfl⟩
  case round =>
    obtain ⟨k, hk, rfl, he⟩ := hrel
    by_cases hlt : k < n
    · obtain ⟨b, off, rfl, _, hc⟩ := hx.at_ hlt
      go_wp2_with (go_at_call 104; refine (within_any _ _ _ _).mono ?_; rintro e w' ⟨rfl, rfl⟩)
      · go_ret
        exact ⟨ret_bool (allIn_at hlt hx.len (by assumption)), rfl⟩
      · exact ⟨⟨k + 1, by omega, by go_num, allIn_next hlt hx.len (by assumption) he.out⟩, by simp [intOf]; omega⟩
    · go_wp2
      go_ret
      exact ⟨ret_bool (allIn_end (by omega) hx.len he.out), rfl⟩

set_option maxHeartbeats 400000 in
theorem cloneI_any (A : Option Addr) (n c : Nat) (xs : List Int) (w : World) (hx : SI w A n xs) (hn : n ≤ 1048576) :
    Calls Try.prog 175 #[.slice A n c] w (NewI w xs) := by
  have HL := Lib.hid hx.len
  have hnil := fun (w : World) (a : Option Addr) (n c : Nat) => Lib.run_eql_slice_nil (P := Try.prog) w 26 2 a n c 0 0 Try.underlying26
  rcases A with _ | ad
  · have hn0 : n = 0 := by
      rcases Nat.eq_zero_or_pos n with h | h
      · exact h
      · obtain ⟨b, off, e, _⟩ := hx.at_ h; cases e
    subst hn0
    have hx0 : xs = [] := List.eq_nil_of_length_eq_zero HL.out
    subst hx0
    go_enter Try.func175, Try.ntmps175
    go_wp2
    go_ret
    exact ⟨none, 0, rfl, Own.nil, Below.refl _ _⟩
  · go_enter Try.func175, Try.ntmps175
    go_wp2_with (at_builtin; refine wpList_append_Own rfl (.tmp 5) (.tmp 6) rfl elI (lo := w.heap.size) rfl (Own.lit0 w _ 1) rfl (Rd.alloc hx _) (ints_one xs) (by omega) (by simp only [maxLen]; omega) (by simp) ?_; intro A2 c2 w2 ho2 hg2 _)
    go_ret
    have hbb := (Own.lit0 w 2 1).below_of ((Below.refl _ _).alloc (Nat.le_refl _) _) hg2 (by simp)
    simp only [List.nil_append] at ho2
    refine ⟨A2, c2, ?_, ?_, hbb⟩
    · rw [HL.out]; simp
    · rw [HL.out]; simpa using ho2

theorem within_is {n lo hi : Int} {b : Bool} (h : inB n lo hi = b) (w : World) :
    Calls Try.prog 104 #[.int .i64 n, .int .i64 lo, .int .i64 hi] w fun e w' => e = .returned (.bool b) ∧ w = w' := h ▸ within_any n lo hi w
end Go.Proofs.Ytbpofkggoolmpaa

/-
  Slices of structs of three numbers.
-/
namespace Go.Proofs.Ytbpofkggoolmpaa
open Go.RowKit

/-- Three numbers. -/
structure R3 where
  a : Int
  b : Int
  c : Int
  deriving DecidableEq
def R3.cells (r : R3) : List Value := [.int .i64 r.a, .int .i64 r.b, .int .i64 r.c]
def cells3 (rs : List R3) : List Value := rs.flatMap R3.cells
theorem length_cells3 (rs : List R3) : (cells3 rs).length = rs.length * 3 := by
  induction rs with
  | nil => rfl
  | cons r rs ih => simp [cells3, R3.cells] at ih ⊢; omega
theorem cells3_get : ∀ (rs : List R3) (k : Nat) (r : R3), rs[k]? = some r → (cells3 rs)[k * 3]? = some (.int .i64 r.a) ∧ (cells3 rs)[k * 3 + 1]? = some (.int .i64 r.b) ∧ (cells3 rs)[k * 3 + 2]? = some (.int .i64 r.c)
  | [], k, r, h => by simp at h
  | s :: rs, 0, r, h => by simp at h; subst h; simp [cells3, R3.cells]
  | s :: rs, k + 1, r, h => by
    have ih := cells3_get rs k r (by simpa using h)
    have e : cells3 (s :: rs) = .int .i64 s.a :: .int .i64 s.b :: .int .i64 s.c :: cells3 rs := by simp [cells3, R3.cells]
    rw [e, show (k + 1) * 3 = k * 3 + 3 from by omega]
    simpa using ih
theorem cells3_one (rs : List R3) : ∀ u ∈ cells3 rs, u.oneCell' = true := by
  intro u hu
  simp [cells3, R3.cells] at hu
  obtain ⟨r, _, h | h | h⟩ := hu <;> subst h <;> rfl
theorem cells3_set : ∀ (rs : List R3) (k : Nat) (r : R3), k < rs.length → (((cells3 rs).set (k * 3) (.int .i64 r.a)).set (k * 3 + 1) (.int .i64 r.b)).set (k * 3 + 2) (.int .i64 r.c) = cells3 (rs.set k r)
  | [], k, r, h => by simp at h
  | s :: rs, 0, r, h => by simp [cells3, R3.cells]
  | s :: rs, k + 1, r, h => by
    have ih := cells3_set rs k r (by simpa using h)
    have e : cells3 (s :: rs) = .int .i64 s.a :: .int .i64 s.b :: .int .i64 s.c :: cells3 rs := by simp [cells3, R3.cells]
    have e2 : cells3 ((s :: rs).set (k + 1) r) = .int .i64 s.a :: .int .i64 s.b :: .int .i64 s.c :: cells3 (rs.set k r) := by simp [cells3, R3.cells]
    rw [e, e2, ← ih, show (k + 1) * 3 = k * 3 + 3 from by omega]
    simp
theorem cells3_append (xs ys : List R3) : cells3 xs ++ cells3 ys = cells3 (xs ++ ys) := by simp [cells3]

/-- A slice that reads as a list of triples. -/
def S3 (w : World) (A : Option Addr) (n : Nat) (rs : List R3) : Prop := Rd w 3 A n (cells3 rs)
section
variable {w w' : World} {A : Option Addr} {n : Nat} {rs : List R3}
theorem S3.len (h : S3 w A n rs) : rs.length = n := by have := h.1; rw [length_cells3] at this; omega
theorem S3.pick (h : S3 w A n rs) {k : Nat} (hk : k < n) : ∃ r b off, Hid (rs[k]? = some r) ∧ r ∈ rs ∧ A = some ⟨b, off, none⟩ ∧ b < w.heap.size ∧
    w.cell? ⟨b, off + k * 3, none⟩ = some (.int .i64 r.a) ∧ w.cell? ⟨b, off + k * 3 + 1, none⟩ = some (.int .i64 r.b) ∧ w.cell? ⟨b, off + k * 3 + 2, none⟩ = some (.int .i64 r.c) := by
  have hl := h.len
  have hr : rs[k]? = some (rs[k]'(by omega)) := List.getElem?_eq_getElem (by omega)
  obtain ⟨h0, h1, h2⟩ := cells3_get rs k _ hr
  obtain ⟨b, off, e, hc⟩ := h.2 (by rw [length_cells3]; omega)
  obtain ⟨l0, g0⟩ := List.getElem?_eq_some_iff.1 h0
  obtain ⟨l1, g1⟩ := List.getElem?_eq_some_iff.1 h1
  obtain ⟨l2, g2⟩ := List.getElem?_eq_some_iff.1 h2
  have k0 := hc _ l0
  have k1 := hc _ l1
  have k2 := hc _ l2
  rw [g0] at k0
  rw [g1] at k1
  rw [g2] at k2
  exact ⟨_, b, off, hr, List.getElem_mem _, e, World.block_lt_of_cell? w _ k0, k0, by rw [Nat.add_assoc]; exact k1, by rw [Nat.add_assoc]; exact k2⟩
theorem S3.below (h : S3 w A n rs) (hb : Below w.heap.size w w') : S3 w' A n rs := Rd.below h hb
theorem S3.drewN (h : S3 w A n rs) (k : Nat) : S3 (w.drewN k) A n rs := h
theorem S3.alloc (h : S3 w A n rs) (o : Obj) : S3 (w.alloc o) A n rs := Rd.alloc h o
end
/-- After k copies into a list of zeros. -/
def copied3 (rs : List R3) (k : Nat) : List R3 := rs.take k ++ List.replicate (rs.length - k) ⟨0, 0, 0⟩
theorem copied3_end (rs : List R3) {k : Nat} (h : rs.length ≤ k) : copied3 rs k = rs := by
  unfold copied3
  rw [List.take_of_length_le h, show rs.length - k = 0 from by omega]; simp
theorem length_copied3 (rs : List R3) (k : Nat) (h : k ≤ rs.length) : (copied3 rs k).length = rs.length := by simp [copied3]; omega
theorem copied3_next (rs : List R3) (k : Nat) (r : R3) (h : rs[k]? = some r) : (copied3 rs k).set k r = copied3 rs (k + 1) := by
  obtain ⟨hk, rfl⟩ := List.getElem?_eq_some_iff.1 h
  unfold copied3
  have e1 : (rs.take k).length = k := by simp; omega
  rw [List.set_append_right _ _ (by omega), e1, Nat.sub_self, List.take_succ_eq_append_getElem hk, show rs.length - k = (rs.length - (k + 1)) + 1 from by omega, List.replicate_succ]
  simp only [List.set_cons_zero, List.append_assoc, List.singleton_append]
theorem made_cells3 (n : Nat) (rs : List R3) (h : rs.length = n) : (madeCells (Value.agg #[.int .i64 0, .int .i64 0, .int .i64 0]).cells (n * 3)).toList = cells3 (copied3 rs 0) := by
  show (madeCells #[Value.int .i64 0, .int .i64 0, .int .i64 0] (n * 3)).toList = _
  have e : copied3 rs 0 = List.replicate n ⟨0, 0, 0⟩ := by simp [copied3, h]
  rw [e]
  apply List.ext_getElem?
  intro j
  by_cases hj : j < n * 3
  · obtain ⟨q, r, rfl, hr⟩ : ∃ q r, j = q * 3 + r ∧ r < 3 := ⟨j / 3, j % 3, by omega, by omega⟩
    have hq : (List.replicate n (⟨0, 0, 0⟩ : R3))[q]? = some ⟨0, 0, 0⟩ := by rw [List.getElem?_replicate, if_pos (by omega)]
    obtain ⟨h0, h1, h2⟩ := cells3_get _ q _ hq
    have hm : (q * 3 + r) % 3 = r := by omega
    match r, hr with
    | 0, _ => simp only [Nat.add_zero] at hj hm ⊢; rw [h0]; simp [madeCells, hj]
    | 1, _ => rw [h1]; simp [madeCells, hj, hm]
    | 2, _ => rw [h2]; simp [madeCells, hj, hm]
  · have hl : (cells3 (List.replicate n (⟨0, 0, 0⟩ : R3))).length = n * 3 := by rw [length_cells3]; simp
    rw [List.getElem?_eq_none (by simp [size_madeCells]; omega), List.getElem?_eq_none (by omega)]
def same3 (xs ys : List R3) : Bool := decide (xs = ys)
theorem same3_self (xs : List R3) : same3 xs xs = true := by simp [same3]
def sameR (x y : R3) : Bool := decide (x = y)
theorem same3_ne {xs ys : List R3} {x y : R3} {k : Nat} (hx : xs[k]? = some x) (hy : ys[k]? = some y) (h : (!sameR x y) = true) : false = same3 xs ys := by
  unfold same3; symm; rw [decide_eq_false_iff_not]; rintro rfl
  rw [hx] at hy
  simp at hy
  simp [sameR, hy] at h
theorem same3_len {xs ys : List R3} {n m : Nat} (h : ¬ n = m) (hx : xs.length = n) (hy : ys.length = m) : false = same3 xs ys := by
  unfold same3; symm; rw [decide_eq_false_iff_not]; rintro rfl; omega
theorem same3_eq {xs ys : List R3} {n k : Nat} (hk : n ≤ k) (hx : xs.length = n) (hy : ys.length = n) (h : xs.take k = ys.take k) : true = same3 xs ys := by
  rw [List.take_of_length_le (by omega), List.take_of_length_le (by omega)] at h
  unfold same3; symm; rw [decide_eq_true_iff]; exact h
theorem same3_next {xs ys : List R3} {x y : R3} {k : Nat} (hx : xs[k]? = some x) (hy : ys[k]? = some y) (h : xs.take k = ys.take k) (h1 : (!sameR x y) = false) : xs.take (k + 1) = ys.take (k + 1) := by
  obtain ⟨hk, rfl⟩ := List.getElem?_eq_some_iff.1 hx
  obtain ⟨hk', rfl⟩ := List.getElem?_eq_some_iff.1 hy
  rw [List.take_succ_eq_append_getElem hk, List.take_succ_eq_append_getElem hk', h]
  simp [sameR] at h1
  rw [h1]
end Go.Proofs.Ytbpofkggoolmpaa

/-
  Contracts of the laws' helpers over []Rule: szRuleS, toRule, toRuleS, eqRule, eqRuleS, markRuleS.
-/
namespace Go.Proofs.Ytbpofkggoolmpaa
open Go.RowKit

theorem elR : Elem Try.prog 34 229 3 24 (.agg #[.int .i64 0, .int .i64 0, .int .i64 0]) := ⟨Try.underlying34, by kernel_rfl, rfl, by decide⟩

set_option maxHeartbeats 400000 in
theorem szR (A : Option Addr) (n c : Nat) (left : Int) (w : World) (hn : n ≤ 9223372036854775807) (h0 : 0 ≤ left) (h1 : left ≤ 1048576) :
    Calls Try.prog 82 #[.slice A n c, .int .i64 left] w fun e w' => e = .returned (.int .i64 (szF left n)) ∧ w = w' := by
  by_cases h : left < n
  · have h2 : left - n < 0 := by omega
    go_enter Try.func82, Try.ntmps82
    go_wp2
    go_ret
    exact ⟨ret_int (by unfold szF; rw [if_pos h]), rfl⟩
  · have h2 : ¬ left - n < 0 := by omega
    go_enter Try.func82, Try.ntmps82
    go_wp2
    go_ret
    exact ⟨ret_int (by unfold szF; rw [if_neg (by omega)]), rfl⟩

set_option maxHeartbeats 400000 in
theorem toRule_any (a b c : Int) (w : World) :
    Calls Try.prog 182 #[.agg #[.int .i64 a, .int .i64 b, .int .i64 c]] w fun e w' => e = .returned (.agg #[.int .i64 a, .int .i64 b, .int .i64 c]) ∧ Below w.heap.size w w' := by
  go_enter Try.func182, Try.ntmps182
  go_wp2
  exact bodyPost_ret (v := .agg #[.int .i64 a, .int .i64 b, .int .i64 c]) (by simp [results, Try.results182, go_sem]) rfl ⟨rfl, (((Below.refl _ _).alloc (Nat.le_refl _) _).alloc (by simp) _).alloc (by simp; omega) _⟩

set_option maxHeartbeats 400000 in
theorem eqRule_any (a b c a' b' c' : Int) (w : World) :
    Calls Try.prog 191 #[.agg #[.int .i64 a, .int .i64 b, .int .i64 c], .agg #[.int .i64 a', .int .i64 b', .int .i64 c']] w fun e w' => e = .returned (.bool (sameR ⟨a, b, c⟩ ⟨a', b', c'⟩)) ∧ Below w.heap.size w w' := by
  have hb : Below w.heap.size w ((w.alloc (.cells #[.int .i64 a, .int .i64 b, .int .i64 c] 229)).alloc (.cells #[.int .i64 a', .int .i64 b', .int .i64 c'] 229)) := ((Below.refl _ _).alloc (Nat.le_refl _) _).alloc (by simp) _
  go_enter Try.func191, Try.ntmps191
  go_wp2
  all_goals go_ret
  all_goals exact ⟨ret_bool (by simp_all [sameR]), hb⟩

def ToR (w : World) (n : Nat) (rs : List R3) (e : Ending) (w' : World) : Prop :=
  ∃ A, e = .returned (.slice A n n) ∧ Own w' w.heap.size 229 3 A n n (cells3 rs) ∧ Below w.heap.size w w'

set_option maxHeartbeats 1000000 in
theorem toR (A : Option Addr) (n c : Nat) (rs : List R3) (w : World) (hx : S3 w A n rs) (hn : n ≤ 1048576) :
    Calls Try.prog 88 #[.slice A n c] w (ToR w n rs) := by
  have HL := Lib.hid hx.len
  have hxl : n ≤ rs.length := by have := hx.len; omega
  have hxl' : rs.length ≤ n := by have := hx.len; omega
  go_enter Try.func88, Try.ntmps88
  go_wp2_with (at_make; refine wpList_make_Own rfl (.tmp 6) (.tmp 6) rfl elR (n := n) (lo := w.heap.size) rfl rfl (by omega) (by unfold maxLen; omega) (Nat.le_refl _) ?_; intro w2 ho2 hb2 hs2)
  rw [made_cells3 n rs HL.out] at ho2
  have HS := Lib.hid hs2
  clear hs2
  go_loopw [4] (fun i wr => ∃ k : Nat, k ≤ n ∧ i = .int .i64 k ∧ Own wr w.heap.size 229 3 (some ⟨w.heap.size, 0, none⟩) n n (cells3 (copied3 rs k)) ∧ Below w.heap.size w wr) (fun i _ => n - (intOf i).toNat)
  case atStart => exact ⟨0, by omega, rfl, ho2, hb2⟩
  case round =>
    obtain ⟨k, hk, rfl, ho, hb⟩ := hrel
    by_cases hlt : k < n
    · obtain ⟨r, b, off, hr, _, rfl, hbl, q0, q1, q2⟩ := (hx.below hb).pick hlt
      go_wp2_with fail
      refine (toRule_any _ _ _ _).mono ?_
      rintro e w3 ⟨rfl, hb3⟩
      have ho3 := ho.below hb3
      have hll : n * 3 ≤ (cells3 (copied3 rs k)).length := by rw [length_cells3, length_copied3 _ _ (by omega)]; omega
      obtain ⟨b0, off0, he, hlo, hlt0, hc0, hf0⟩ := ho3.at_ (k := k * 3) (by omega)
      obtain ⟨b1, off1, he1, _, _, hc1, hf1⟩ := ho3.at_ (k := k * 3 + 1) (by omega)
      obtain ⟨b2, off2, he2, _, _, hc2, hf2⟩ := ho3.at_ (k := k * 3 + 2) (by omega)
      simp only [Option.some.injEq, Addr.mk.injEq, and_true] at he he1 he2
      obtain ⟨rfl, rfl⟩ := he
      obtain ⟨rfl, rfl⟩ := he1
      obtain ⟨rfl, rfl⟩ := he2
      have ho4 := ((ho3.set_ (k := k * 3) (by omega) (.int .i64 r.a)).set_ (k := k * 3 + 1) (by rw [List.length_set]; omega) (.int .i64 r.b)).set_ (k := k * 3 + 2) (by rw [List.length_set, List.length_set]; omega) (.int .i64 r.c)
      rw [cells3_set _ _ r (by rw [length_copied3 _ _ (by omega)]; omega), copied3_next _ _ _ hr.out] at ho4
      simp only [Nat.zero_add] at hc0 hc1 hc2 hf0 hf1 hf2 ho4
      have hb4 := (((hb.trans (hb3.mono hb.size)).setCell (p := ⟨w.heap.size, k * 3, none⟩) (Nat.le_refl _) (.int .i64 r.a)).setCell (p := ⟨w.heap.size, k * 3 + 1, none⟩) (Nat.le_refl _) (.int .i64 r.b)).setCell (p := ⟨w.heap.size, k * 3 + 2, none⟩) (Nat.le_refl _) (.int .i64 r.c)
      clear q0 q1 q2
      go_wp2_with fail
      exact ⟨⟨k + 1, by omega, by go_num, ho4, hb4⟩, by simp [intOf]; omega⟩
    · go_wp2
      go_ret
      have hoo := ho
      rw [copied3_end rs (by omega)] at hoo
      exact ⟨_, rfl, hoo, hb⟩

set_option maxHeartbeats 1000000 in
theorem eqR (A B : Option Addr) (n m c d : Nat) (xs ys : List R3) (w : World) (hx : S3 w A n xs) (hy : S3 w B m ys) (hn : n ≤ 9223372036854775807) :
    Calls Try.prog 96 #[.slice A n c, .slice B m d] w fun e w' => e = .returned (.bool (same3 xs ys)) ∧ Below w.heap.size w w' := by
  by_cases hnm : n = m
  · subst hnm
    go_enter Try.func96, Try.ntmps96
    go_wp2
    go_loopw [5] (fun i wr => ∃ k : Nat, k ≤ n ∧ i = .int .i64 k ∧ Hid (xs.take k = ys.take k) ∧ Below w.heap.size w wr) (fun i _ => n - (intOf i).toNat)
    case atStart => exact ⟨0, by omega, rfl, rfl, Below.refl _ _⟩
    case round =>
      obtain ⟨k, hk, rfl, he, hb⟩ := hrel
      by_cases hlt : k < n
      · obtain ⟨x, b, off, hX, _, rfl, hbl, q0, q1, q2⟩ := (hx.below hb).pick hlt
        obtain ⟨y, b', off', hY, _, rfl, hbl', q0', q1', q2'⟩ := (hy.below hb).pick hlt
        go_upto_region 6 with fail
        go_cut [26] (fun s26 wx => s26 = .bool (!sameR x y) ∧ Below w.heap.size w wx)
        case first =>
          go_region_held3 (fun w' => w'.cell? ⟨b, off + k * 3, none⟩ = some (.int .i64 x.a) ∧ w'.cell? ⟨b, off + k * 3 + 1, none⟩ = some (.int .i64 x.b) ∧ w'.cell? ⟨b, off + k * 3 + 2, none⟩ = some (.int .i64 x.c) ∧
              w'.cell? ⟨b', off' + k * 3, none⟩ = some (.int .i64 y.a) ∧ w'.cell? ⟨b', off' + k * 3 + 1, none⟩ = some (.int .i64 y.b) ∧ w'.cell? ⟨b', off' + k * 3 + 2, none⟩ = some (.int .i64 y.c))
            (first
              | (go_keep; done)
              | (exact ⟨(hb2.cell (p := ⟨b, off + k * 3, none⟩) hbl).trans q0, (hb2.cell (p := ⟨b, off + k * 3 + 1, none⟩) hbl).trans q1, (hb2.cell (p := ⟨b, off + k * 3 + 2, none⟩) hbl).trans q2, (hb2.cell (p := ⟨b', off' + k * 3, none⟩) hbl').trans q0', (hb2.cell (p := ⟨b', off' + k * 3 + 1, none⟩) hbl').trans q1', (hb2.cell (p := ⟨b', off' + k * 3 + 2, none⟩) hbl').trans q2'⟩))
            (first
              | (go_at_call 191; refine (eqRule_any _ _ _ _ _ _ _).mono ?_; rintro e w2 ⟨rfl, hb2'⟩; have hb2 : Below wr.heap.size wr w2 := below_undrew hb2'))
          go_wp2_with fail
          go_meet
          exact ⟨rfl, hb.trans (hb2.mono hb.size)⟩
        case rest =>
          obtain ⟨rfl, hb3⟩ := hcut
          clear q0 q1 q2 q0' q1' q2'
          go_wp2_with fail
          · go_ret
            exact ⟨ret_bool (same3_ne hX.out hY.out (by assumption)), hb3⟩
          · exact ⟨⟨k + 1, by omega, by go_num, same3_next hX.out hY.out he.out (by assumption), hb3⟩, by simp [intOf]; omega⟩
      · go_wp2
        go_ret
        exact ⟨ret_bool (same3_eq (by omega) hx.len hy.len he.out), hb⟩
  · have hne : ((n : Int) != (m : Int)) = true := by simp; omega
    go_enter Try.func96, Try.ntmps96
    go_wp2
    go_ret
    exact ⟨ret_bool (same3_len hnm hx.len hy.len), Below.refl _ _⟩

set_option maxHeartbeats 1000000 in
theorem markR_m (T : List TypeId) (A : Option Addr) (n c : Nat) (m : Int) (w : World) (lo hi : Nat) (hx : Mk w lo hi 229 3 A n) (hT : 229 ∈ T) (h0 : 0 ≤ m) (h1 : m + n * 3 ≤ 9223372036854775807) :
    Calls Try.prog 97 #[.slice A n c, .int .i64 m] w (MarkP T w lo hi (n * 3) m) := by
  have HT := Lib.hid hT
  clear hT
  go_enter Try.func97, Try.ntmps97
  go_wp2
  go_loopw [1, 5] (fun q i wr => ∃ k : Nat, k ≤ n ∧ i = .int .i64 k ∧ q = .int .i64 (m + k * 3) ∧ Mk wr lo hi 229 3 A n ∧ MkF T lo hi w wr) (fun _ i _ => n - (intOf i).toNat)
  case atStart => exact ⟨0, by omega, rfl, by simp, hx, MkF.refl _ _ _ _⟩
  case round =>
    obtain ⟨k, hk, rfl, rfl, ho, ht⟩ := hrel
    by_cases hlt : k < n
    · obtain ⟨b, off, cur, v, rfl, hlo, hhi, hg, hc, hf⟩ := ho.at_ (k := k * 3) (by omega)
      obtain ⟨b1, off1, _, v1, he1, _, _, _, hc1, hf1⟩ := ho.at_ (k := k * 3 + 1) (by omega)
      obtain ⟨b2, off2, _, v2, he2, _, _, _, hc2, hf2⟩ := ho.at_ (k := k * 3 + 2) (by omega)
      simp only [Option.some.injEq, Addr.mk.injEq, and_true] at he1 he2
      obtain ⟨rfl, rfl⟩ := he1
      obtain ⟨rfl, rfl⟩ := he2
      have f1 := (MkF.refl T lo hi wr).setCell (i := off + k * 3) hg HT.out hlo hhi (.int .i64 (m + k * 3))
      have g1 := heap_setCell_same wr b (off + k * 3) cur _ (.int .i64 (m + k * 3)) hg
      have f2 := f1.setCell (i := off + k * 3 + 1) g1 HT.out hlo hhi (.int .i64 (m + k * 3 + 1))
      have g2 := heap_setCell_same _ b (off + k * 3 + 1) _ _ (.int .i64 (m + k * 3 + 1)) g1
      have f3 := f2.setCell (i := off + k * 3 + 2) g2 HT.out hlo hhi (.int .i64 (m + k * 3 + 1 + 1))
      have HG := Lib.hid hg
      clear hg g1 g2 f1 f2
      rw [← Nat.add_assoc] at hc1 hf1 hc2 hf2
      have i1 : m + (k : Int) * 3 + 1 ≤ 9223372036854775806 := by omega
      go_wp2
      exact ⟨⟨k + 1, by omega, by go_num, by go_num, ho.mkf f3, ht.trans f3⟩, by simp [intOf]; omega⟩
    · go_wp2
      go_ret
      obtain rfl : k = n := by omega
      exact ⟨ret_int (by omega), ht⟩
end Go.Proofs.Ytbpofkggoolmpaa

/-
  Contracts of impl's functions on machines: noRule, isRule, validRule, ValidMachine, validSide, configOf, ValidConfig.
-/
namespace Go.Proofs.Ytbpofkggoolmpaa
open Go.RowKit

theorem noRule_any (w : World) : Calls Try.prog 291 #[] w fun e w' => e = .returned (.agg #[.int .i64 0, .int .i64 0, .int .i64 (-1)]) ∧ Below w.heap.size w w' := by
  go_enter Try.func291, Try.ntmps291
  go_wp2
  exact bodyPost_ret (v := .agg #[.int .i64 0, .int .i64 0, .int .i64 (-1)]) (by simp [results, Try.results291, go_sem]) rfl ⟨rfl, (Below.refl _ _).alloc (Nat.le_refl _) _⟩

def isRuleB (r : R3) : Bool := decide (r ≠ ⟨0, 0, -1⟩)

theorem isRuleB_eq (a b c : Int) : isRuleB ⟨a, b, c⟩ = !((a == 0) && (b == 0) && (c == -1)) := by
  unfold isRuleB
  by_cases h0 : a = 0 <;> by_cases h1 : b = 0 <;> by_cases h2 : c = -1 <;> simp [h0, h1, h2]

set_option maxHeartbeats 1000000 in
theorem isRule_any (a b c : Int) (w : World) : Calls Try.prog 259 #[.agg #[.int .i64 a, .int .i64 b, .int .i64 c]] w fun e w' => e = .returned (.bool (isRuleB ⟨a, b, c⟩)) ∧ Below w.heap.size w w' := by
  obtain ⟨W, hW⟩ : ∃ W, W = w.alloc (.cells #[.int .i64 a, .int .i64 b, .int .i64 c] 229) := ⟨_, rfl⟩
  have b0 : Blk W w.heap.size 229 #[.int .i64 a, .int .i64 b, .int .i64 c] := by rw [hW]; exact Blk.new w _ _
  have y0 : Below w.heap.size w W := by rw [hW]; exact (Below.refl _ _).alloc (Nat.le_refl _) _
  have HW := Lib.hid hW
  clear hW
  have q0 : W.cell? ⟨w.heap.size, 0, none⟩ = some (.int .i64 a) := b0.cell 0
  have q1 : W.cell? ⟨w.heap.size, 1, none⟩ = some (.int .i64 b) := b0.cell 1
  have q2 : W.cell? ⟨w.heap.size, 2, none⟩ = some (.int .i64 c) := b0.cell 2
  cases h0 : (a == 0) <;> cases h1 : (b == 0) <;> cases h2 : (c == -1)
  all_goals
    have HE := Lib.hid (isRuleB_eq a b c)
    have H0 := Lib.hid h0
    have H1 := Lib.hid h1
    have H2 := Lib.hid h2
    go_enter Try.func259, Try.ntmps259
    go_wp2_with fail
    rw [← HW.out]
    go_region_held3 (fun w' => w'.cell? ⟨w.heap.size, 0, none⟩ = some (.int .i64 a) ∧ w'.cell? ⟨w.heap.size, 1, none⟩ = some (.int .i64 b) ∧ w'.cell? ⟨w.heap.size, 2, none⟩ = some (.int .i64 c))
      (first
        | (go_keep; done)
        | (exact ⟨(b0.below' hb2).cell 0, (b0.below' hb2).cell 1, (b0.below' hb2).cell 2⟩))
      (first
        | (go_at_call 291; refine (noRule_any _).mono ?_; rintro e w2 ⟨rfl, hb2'⟩; have hb2 : Below W.heap.size W w2 := below_undrew hb2'))
    go_wp2_with fail
    go_ret
    exact ⟨ret_bool (by rw [HE.out, H0.out, H1.out, H2.out]; rfl), y0.trans (hb2.mono y0.size)⟩

theorem isRule_is {a b c : Int} {v : Bool} (h : isRuleB ⟨a, b, c⟩ = v) (w : World) : Calls Try.prog 259 #[.agg #[.int .i64 a, .int .i64 b, .int .i64 c]] w fun e w' => e = .returned (.bool v) ∧ Below w.heap.size w w' := h ▸ isRule_any a b c w

def validRuleB (sy st : Int) (r : R3) : Bool := !isRuleB r || (inB r.a 0 (sy - 1) && ((r.b == -1) || (r.b == 1)) && inB r.c 0 (st - 1))

set_option maxHeartbeats 1000000 in
theorem validRule_any (sy st : Int) (A : Option Addr) (n k : Nat) (a b c : Int) (w : World) (h1 : 1 ≤ sy) (h2 : sy ≤ 100000) (h3 : 1 ≤ st) (h4 : st ≤ 100000) :
    Calls Try.prog 257 #[.agg #[.int .i64 sy, .int .i64 st, .slice A n k], .agg #[.int .i64 a, .int .i64 b, .int .i64 c]] w fun e w' => e = .returned (.bool (validRuleB sy st ⟨a, b, c⟩)) ∧ Below w.heap.size w w' := by
  obtain ⟨W, hW⟩ : ∃ W, W = (w.alloc (.cells #[.int .i64 sy, .int .i64 st, .slice A n k] 36)).alloc (.cells #[.int .i64 a, .int .i64 b, .int .i64 c] 229) := ⟨_, rfl⟩
  have s1 : (w.alloc (.cells #[.int .i64 sy, .int .i64 st, .slice A n k] 36)).heap.size = w.heap.size + 1 := by simp
  have b0 : Blk W w.heap.size 36 #[.int .i64 sy, .int .i64 st, .slice A n k] := by rw [hW]; exact (Blk.new w _ _).alloc _
  have b1 : Blk W (w.heap.size + 1) 229 #[.int .i64 a, .int .i64 b, .int .i64 c] := by rw [hW, ← s1]; exact Blk.new _ _ _
  have y0 : Below w.heap.size w W := by rw [hW]; exact ((Below.refl _ _).alloc (Nat.le_refl _) _).alloc (by simp) _
  have HW := Lib.hid hW
  clear hW s1
  go_enter Try.func257, Try.ntmps257
  go_wp2_with fail
  rw [← HW.out]
  cases hr : isRuleB ⟨a, b, c⟩
  · have HR := Lib.hid hr
    clear hr
    refine (isRule_is HR.out _).mono ?_
    rintro e w2 ⟨rfl, z2⟩
    go_wp2_with fail
    go_ret
    exact ⟨ret_bool (by unfold validRuleB; rw [HR.out]; rfl), y0.trans (z2.mono y0.size)⟩
  · have HR := Lib.hid hr
    clear hr
    refine (isRule_is HR.out _).mono ?_
    rintro e w2 ⟨rfl, z2⟩
    have c0 := b0.below' z2
    have c1 := b1.below' z2
    have q0 : w2.cell? ⟨w.heap.size, 0, none⟩ = some (.int .i64 sy) := c0.cell 0
    have q1 : w2.cell? ⟨w.heap.size, 1, none⟩ = some (.int .i64 st) := c0.cell 1
    have q2 : w2.cell? ⟨w.heap.size + 1, 0, none⟩ = some (.int .i64 a) := c1.cell 0
    have q3 : w2.cell? ⟨w.heap.size + 1, 1, none⟩ = some (.int .i64 b) := c1.cell 1
    have q4 : w2.cell? ⟨w.heap.size + 1, 2, none⟩ = some (.int .i64 c) := c1.cell 2
    go_wp2_with (go_at_call 104; refine (within_any _ _ _ _).mono ?_; rintro e w' ⟨rfl, rfl⟩)
    all_goals go_ret
    all_goals exact ⟨ret_bool (by unfold validRuleB; rw [HR.out]; simp [*]), y0.trans (z2.mono y0.size)⟩

/-- A machine behind a pointer. -/
def MachAt (w : World) (g : Nat) (sy st : Int) (A : Option Addr) (n k : Nat) : Prop :=
  w.cell? ⟨g, 0, none⟩ = some (.int .i64 sy) ∧ w.cell? ⟨g, 1, none⟩ = some (.int .i64 st) ∧ w.cell? ⟨g, 2, none⟩ = some (.slice A n k)
theorem MachAt.lt {w : World} {g : Nat} {sy st : Int} {A : Option Addr} {n k : Nat} (h : MachAt w g sy st A n k) : g < w.heap.size := World.block_lt_of_cell? w _ h.1
theorem MachAt.below {w w' : World} {g : Nat} {sy st : Int} {A : Option Addr} {n k : Nat} (h : MachAt w g sy st A n k) (hb : Below w.heap.size w w') : MachAt w' g sy st A n k :=
  ⟨(hb.cell (p := ⟨g, 0, none⟩) h.lt).trans h.1, (hb.cell (p := ⟨g, 1, none⟩) h.lt).trans h.2.1, (hb.cell (p := ⟨g, 2, none⟩) h.lt).trans h.2.2⟩
theorem MachAt.drewN {w : World} {g : Nat} {sy st : Int} {A : Option Addr} {n k : Nat} (h : MachAt w g sy st A n k) (q : Nat) : MachAt (w.drewN q) g sy st A n k := h
theorem Blk.machAt {w : World} {g : Nat} {t : TypeId} {sy st : Int} {A : Option Addr} {n k : Nat} (h : Blk w g t #[.int .i64 sy, .int .i64 st, .slice A n k]) : MachAt w g sy st A n k := ⟨h.cell 0, h.cell 1, h.cell 2⟩

set_option maxHeartbeats 400000 in
theorem validMachine1_any (g : Nat) (sy st : Int) (A : Option Addr) (n k : Nat) (a b c : Int) (w : World) (hm : MachAt w g sy st A n k) (h1 : 1 ≤ sy) (h2 : sy ≤ 100000) (h3 : 1 ≤ st) (h4 : st ≤ 100000) :
    Calls Try.prog 256 #[.agg #[.int .i64 a, .int .i64 b, .int .i64 c], .pointer (some ⟨g, 0, none⟩)] w fun e w' => e = .returned (.bool (!validRuleB sy st ⟨a, b, c⟩)) ∧ Below w.heap.size w w' := by
  have y0 : Below w.heap.size w (w.alloc (.cells #[.int .i64 a, .int .i64 b, .int .i64 c] 229)) := (Below.refl _ _).alloc (Nat.le_refl _) _
  obtain ⟨k0, k1, k2⟩ := hm.below y0
  go_enter Try.func256, Try.ntmps256
  go_wp2_with fail
  refine (validRule_any _ _ _ _ _ _ _ _ _ h1 h2 h3 h4).mono ?_
  rintro e w2 ⟨rfl, z2⟩
  go_wp2_with fail
  go_ret
  exact ⟨rfl, y0.trans (z2.mono (by simp))⟩

def firstR (p : R3 → Bool) (rs : List R3) : Int := match rs.findIdx? p with | some k => k | none => -1
theorem firstR_at {p : R3 → Bool} {rs : List R3} {r : R3} {k : Nat} (hT : rs[k]? = some r) (h : p r = true) (he : (rs.take k).any p = false) : (k : Int) = firstR p rs := by
  unfold firstR
  obtain ⟨hk, rfl⟩ := List.getElem?_eq_some_iff.1 hT
  have : rs.findIdx? p = some k := by
    rw [List.findIdx?_eq_some_iff_getElem]
    refine ⟨hk, h, fun j hj => ?_⟩
    rw [List.any_eq_false] at he
    have := he (rs[j]'(by omega)) (by rw [List.mem_take_iff_getElem]; exact ⟨j, by omega, rfl⟩)
    simpa using this
  rw [this]
theorem firstR_none {p : R3 → Bool} {rs : List R3} {k n : Nat} (hk : n ≤ k) (hl : rs.length = n) (he : (rs.take k).any p = false) : -1 = firstR p rs := by
  unfold firstR
  rw [List.take_of_length_le (by omega)] at he
  have : rs.findIdx? p = none := by
    rw [List.findIdx?_eq_none_iff]
    intro x hx
    rw [List.any_eq_false] at he
    simpa using he x hx
  rw [this]
theorem firstR_next {p : R3 → Bool} {rs : List R3} {r : R3} {k : Nat} (hT : rs[k]? = some r) (h : p r = false) (he : (rs.take k).any p = false) : (rs.take (k + 1)).any p = false := by
  obtain ⟨hk, rfl⟩ := List.getElem?_eq_some_iff.1 hT
  rw [List.take_succ_eq_append_getElem hk, List.any_append, he]
  simpa using h
theorem firstR_ge (p : R3 → Bool) (rs : List R3) : decide (0 ≤ firstR p rs) = rs.any p := by
  unfold firstR
  cases h : rs.findIdx? p with
  | some k =>
    obtain ⟨hk, hp, _⟩ := List.findIdx?_eq_some_iff_getElem.1 h
    have : rs.any p = true := List.any_eq_true.2 ⟨_, List.getElem_mem hk, hp⟩
    rw [this]; simp
  | none =>
    have : rs.any p = false := by rw [List.any_eq_false]; intro x hx; simpa using List.findIdx?_eq_none_iff.1 h x hx
    rw [this]; simp

set_option maxHeartbeats 400000 in
theorem indexFuncR_any (A : Option Addr) (n c : Nat) (rs : List R3) (f : FuncId) (cp : Value) (p : R3 → Bool) (w : World) (hx : S3 w A n rs) (hn : n ≤ 9223372036854775807) (hcall : ∀ (args : Array Value) (w : World), (callFunc f args).run Try.prog w = .ok (.enter f args) w)
    (hf : Hid (∀ r ∈ rs, ∀ w1, Below w.heap.size w w1 → Calls Try.prog f #[.agg #[.int .i64 r.a, .int .i64 r.b, .int .i64 r.c], cp] w1 fun e w' => e = .returned (.bool (p r)) ∧ Below w1.heap.size w1 w')) :
    Calls Try.prog 290 #[.slice A n c, .func (.func f) #[] #[cp]] w fun e w' => e = .returned (.int .i64 (firstR p rs)) ∧ Below w.heap.size w w' := by
  go_enter Try.func290, Try.ntmps290
  go_wp2
  go_loopw [8] (fun i wr => ∃ k : Nat, k ≤ n ∧ i = .int .i64 k ∧ Hid ((rs.take k).any p = false) ∧ Below w.heap.size w wr) (fun i _ => n - (intOf i).toNat)
  case atStart => exact ⟨0, by omega, rfl, rfl, Below.refl _ _⟩
  case round =>
    obtain ⟨k, hk, rfl, he, hb⟩ := hrel
    by_cases hlt : k < n
    · obtain ⟨r, b, off, hR, hrm, rfl, hbl, q0, q1, q2⟩ := (hx.below hb).pick hlt
      go_wp2_with fail
      refine (hf.out r hrm _ hb).mono ?_
      rintro e w2 ⟨rfl, z2⟩
      have y2 : Below w.heap.size w w2 := hb.trans (z2.mono hb.size)
      cases hp : p r
      · have HP := Lib.hid hp
        clear hp
        go_wp2_with fail
        exact ⟨⟨k + 1, by omega, by go_num, firstR_next hR.out HP.out he.out, y2⟩, by simp [intOf]; omega⟩
      · have HP := Lib.hid hp
        clear hp
        go_wp2_with fail
        go_ret
        exact ⟨ret_int (firstR_at hR.out HP.out he.out), y2⟩
    · go_wp2
      go_ret
      exact ⟨ret_int (firstR_none (by omega) hx.len he.out), hb⟩

set_option maxHeartbeats 400000 in
theorem containsFuncR_any (A : Option Addr) (n c : Nat) (rs : List R3) (f : FuncId) (cp : Value) (p : R3 → Bool) (w : World) (hx : S3 w A n rs) (hn : n ≤ 9223372036854775807) (hcall : ∀ (args : Array Value) (w : World), (callFunc f args).run Try.prog w = .ok (.enter f args) w)
    (hf : Hid (∀ r ∈ rs, ∀ w1, Below w.heap.size w w1 → Calls Try.prog f #[.agg #[.int .i64 r.a, .int .i64 r.b, .int .i64 r.c], cp] w1 fun e w' => e = .returned (.bool (p r)) ∧ Below w1.heap.size w1 w')) :
    Calls Try.prog 255 #[.slice A n c, .func (.func f) #[] #[cp]] w fun e w' => e = .returned (.bool (rs.any p)) ∧ Below w.heap.size w w' := by
  go_enter Try.func255, Try.ntmps255
  go_wp2_with (go_at_call 290; refine (indexFuncR_any _ _ _ rs _ _ p _ hx hn hcall hf).mono ?_; rintro e w' ⟨rfl, hb⟩)
  go_ret
  exact ⟨ret_bool (firstR_ge p rs), hb⟩

theorem sizeR_any (A : Option Addr) (n c : Nat) (w : World) (_h : n ≤ 9223372036854775807) :
    Calls Try.prog 254 #[.slice A n c] w fun e w' => e = .returned (.int .i64 n) ∧ w = w' := by
  go_enter Try.func254, Try.ntmps254
  go_wp2
  go_ret
  exact ⟨rfl, rfl⟩

def machB (sy st : Int) (rs : List R3) : Bool := inB sy 2 6 && inB st 1 1000 && decide ((rs.length : Int) = st * sy) && rs.all (validRuleB sy st)

set_option maxHeartbeats 600000 in
theorem validMachine_any (sy st : Int) (A : Option Addr) (n k : Nat) (rs : List R3) (w : World) (hx : S3 w A n rs) (hn : n ≤ 1048576) :
    Calls Try.prog 183 #[.agg #[.int .i64 sy, .int .i64 st, .slice A n k]] w fun e w' => e = .returned (.bool (machB sy st rs)) ∧ Below w.heap.size w w' := by
  obtain ⟨W, hW⟩ : ∃ W, W = w.alloc (.cells #[.int .i64 sy, .int .i64 st, .slice A n k] 36) := ⟨_, rfl⟩
  have b0 : Blk W w.heap.size 36 #[.int .i64 sy, .int .i64 st, .slice A n k] := by rw [hW]; exact Blk.new w _ _
  have y0 : Below w.heap.size w W := by rw [hW]; exact (Below.refl _ _).alloc (Nat.le_refl _) _
  have HW := Lib.hid hW
  clear hW
  have HL := Lib.hid hx.len
  have q0 : W.cell? ⟨w.heap.size, 0, none⟩ = some (.int .i64 sy) := b0.cell 0
  have q1 : W.cell? ⟨w.heap.size, 1, none⟩ = some (.int .i64 st) := b0.cell 1
  have q2 : W.cell? ⟨w.heap.size, 2, none⟩ = some (.slice A n k) := b0.cell 2
  cases hs : inB sy 2 6
  · have HS := Lib.hid hs
    go_enter Try.func183, Try.ntmps183
    go_wp2_with fail
    rw [← HW.out]
    go_quiet ((go_at_call 104; exact quiet_left (within_any _ _ _ _)))
    go_wp2_with fail
    go_ret
    exact ⟨ret_bool (by unfold machB; rw [HS.out]; rfl), below_drewN y0 _⟩
  cases ht : inB st 1 1000
  · have HS := Lib.hid hs
    have HT := Lib.hid ht
    go_enter Try.func183, Try.ntmps183
    go_wp2_with fail
    rw [← HW.out]
    go_quiet ((go_at_call 104; exact quiet_left (within_any _ _ _ _)))
    go_wp2_with fail
    go_ret
    exact ⟨ret_bool (by unfold machB; rw [HS.out, HT.out]; rfl), below_drewN y0 _⟩
  have hs' := (inB_iff _ _ _).1 hs
  have ht' := (inB_iff _ _ _).1 ht
  have HS := Lib.hid hs
  have HT := Lib.hid ht
  obtain ⟨s1, s2⟩ := hs'
  obtain ⟨t1, t2⟩ := ht'
  have hmul : 0 ≤ st * sy ∧ st * sy ≤ 6000 := by
    constructor
    · exact Int.mul_nonneg (by omega) (by omega)
    · have h1 : st * sy ≤ 1000 * sy := Int.mul_le_mul_of_nonneg_right t2 (by omega)
      have h2 : (1000 : Int) * sy ≤ 1000 * 6 := Int.mul_le_mul_of_nonneg_left s2 (by omega)
      omega
  obtain ⟨m1, m2⟩ := hmul
  have hwr : IntKind.i64.wrap (st * sy) = st * sy := IntWalk.i64_in _ (by omega)
  cases hne : ((n : Int) != st * sy)
  · have HNE := Lib.hid hne
    go_enter Try.func183, Try.ntmps183
    go_wp2_with fail
    rw [← HW.out]
    go_quiet ((first | (go_at_call 104; exact quiet_left (within_any _ _ _ _)) | (go_at_call 254; exact quiet_left (sizeR_any _ _ _ _ (by omega)))))
    clear hwr hne
    go_wp2_with fail
    have hmA : MachAt (W.drewN nq) w.heap.size sy st A n k := b0.machAt
    have yq : Below w.heap.size w (W.drewN nq) := below_drewN y0 nq
    refine (containsFuncR_any _ _ _ rs _ _ (fun r => !validRuleB sy st r) _ ((hx.below y0).drewN nq) (by omega) Try.call256 (fun r _ w1 hb1 => validMachine1_any _ _ _ _ _ _ _ _ _ _ (hmA.below hb1) (by omega) (by omega) (by omega) (by omega))).mono ?_
    rintro e w2 ⟨rfl, z2⟩
    go_wp2_with fail
    go_ret
    refine ⟨ret_bool ?_, yq.trans (z2.mono yq.size)⟩
    have h := HNE.out
    unfold machB
    rw [HS.out, HT.out, HL.out]
    simp at h
    rw [List.not_any_eq_all_not]
    simp [h]
  · have HNE := Lib.hid hne
    go_enter Try.func183, Try.ntmps183
    go_wp2_with fail
    rw [← HW.out]
    go_quiet ((first | (go_at_call 104; exact quiet_left (within_any _ _ _ _)) | (go_at_call 254; exact quiet_left (sizeR_any _ _ _ _ (by omega)))))
    clear hwr
    go_wp2_with fail
    go_ret
    exact ⟨ret_bool (by have h := HNE.out; unfold machB; rw [HS.out, HT.out, HL.out]; simp at h; simp [h]), below_drewN y0 _⟩

/-- The last number, or 0. -/
def lastI (xs : List Int) : Int := xs.getLastD 0
/-- One side of a tape: its numbers are symbols, the last is not 0. -/
def sideB (xs : List Int) (sy most : Int) : Bool := decide ((xs.length : Int) ≤ most) && allIn xs 0 (sy - 1) && (decide (xs = []) || (lastI xs != 0))
theorem last_at {w : World} {A : Option Addr} {n : Nat} {xs : List Int} (h : SI w A n xs) (hn : 0 < n) : ∃ b off, A = some ⟨b, off, none⟩ ∧ b < w.heap.size ∧ w.cell? ⟨b, off + (n - 1), none⟩ = some (.int .i64 (lastI xs)) := by
  obtain ⟨b, off, e, hlt, hc⟩ := h.at_ (k := n - 1) (by omega)
  refine ⟨b, off, e, hlt, ?_⟩
  rw [hc]
  have hl := h.len
  subst hl
  unfold lastI
  rw [List.getLastD_eq_getLast?, List.getLast?_eq_getElem?, List.getElem?_eq_getElem (by omega)]
  rfl

set_option maxHeartbeats 1000000 in
theorem validSide_any (A : Option Addr) (n c : Nat) (xs : List Int) (sy most : Int) (w : World) (hx : SI w A n xs) (hn : n ≤ 1048576) (h1 : 0 ≤ sy) (h2 : sy ≤ 1000000) :
    Calls Try.prog 266 #[.slice A n c, .int .i64 sy, .int .i64 most] w fun e w' => e = .returned (.bool (sideB xs sy most)) ∧ w = w' := by
  have HL := Lib.hid hx.len
  by_cases hn0 : n = 0
  · subst hn0
    have hx0 : xs = [] := List.eq_nil_of_length_eq_zero HL.out
    subst hx0
    go_enter Try.func266, Try.ntmps266
    go_wp2_with (first
      | (go_at_call 258; refine (sizeI_any _ _ _ _ (by omega)).mono ?_; rintro e w' ⟨rfl, rfl⟩)
      | (go_at_call 239; refine (allWithin_any _ _ _ _ _ _ _ hx (by omega)).mono ?_; rintro e w' ⟨rfl, rfl⟩))
    all_goals go_ret
    all_goals exact ⟨ret_bool (by unfold sideB; simp_all [allIn]), rfl⟩
  · obtain ⟨b, off, rfl, _, hc⟩ := last_at hx (by omega)
    have hne : xs ≠ [] := by rintro rfl; have := HL.out; simp at this; omega
    have HNE := Lib.hid hne
    clear hne
    have g0 : ((n : Int) == 0) = false := by simp; omega
    have i1 : (0 : Int) ≤ (n : Int) - 1 := by omega
    have i2 : ((n : Int) - 1).toNat = n - 1 := by omega
    go_enter Try.func266, Try.ntmps266
    go_wp2_with (first
      | (go_at_call 258; refine (sizeI_any _ _ _ _ (by omega)).mono ?_; rintro e w' ⟨rfl, rfl⟩)
      | (go_at_call 239; refine (allWithin_any _ _ _ _ _ _ _ hx (by omega)).mono ?_; rintro e w' ⟨rfl, rfl⟩))
    all_goals go_ret
    all_goals refine ⟨ret_bool ?_, rfl⟩
    all_goals
      have h1 := HL.out
      have h2 := HNE.out
      unfold sideB
      rw [h1]
      simp [*] <;> (intros; omega)

end Go.Proofs.Ytbpofkggoolmpaa

/-
  Contracts of impl's functions on configurations: configOf, ValidConfig.
-/
namespace Go.Proofs.Ytbpofkggoolmpaa
open Go.RowKit

def confB (sy st q : Int) (xs ys : List Int) : Bool := inB q 0 (st - 1) && sideB xs sy 200 && sideB ys sy 200

set_option maxHeartbeats 1000000 in
theorem configOf_any (sy st : Int) (A : Option Addr) (n k : Nat) (q : Int) (B : Option Addr) (m c : Nat) (xs : List Int) (C : Option Addr) (l d : Nat) (ys : List Int) (w : World) (hx : SI w B m xs) (hy : SI w C l ys) (hm : m ≤ 1048576) (hl : l ≤ 1048576) (h1 : 2 ≤ sy) (h2 : sy ≤ 6) (h3 : 1 ≤ st) (h4 : st ≤ 1000) :
    Calls Try.prog 198 #[.agg #[.int .i64 sy, .int .i64 st, .slice A n k], .agg #[.int .i64 q, .slice B m c, .slice C l d]] w fun e w' => e = .returned (.bool (confB sy st q xs ys)) ∧ Below w.heap.size w w' := by
  obtain ⟨W, hW⟩ : ∃ W, W = (w.alloc (.cells #[.int .i64 sy, .int .i64 st, .slice A n k] 36)).alloc (.cells #[.int .i64 q, .slice B m c, .slice C l d] 50) := ⟨_, rfl⟩
  have y0 : Below w.heap.size w W := by rw [hW]; exact ((Below.refl _ _).alloc (Nat.le_refl _) _).alloc (by simp) _
  have hxW := hx.below y0
  have hyW := hy.below y0
  rw [hW] at hxW hyW y0
  clear hW
  go_enter Try.func198, Try.ntmps198
  go_wp2_with (go_at_call 104; refine (within_any _ _ _ _).mono ?_; rintro e w' ⟨rfl, rfl⟩)
  · have a1 : inB q 0 (st - 1) = true := by assumption
    have A1 := Lib.hid a1
    clear a1
    refine (validSide_any _ _ _ xs _ _ _ hxW hm (by omega) (by omega)).mono ?_
    rintro e w' ⟨rfl, rfl⟩
    cases a2 : sideB xs sy 200
    · have A2 := Lib.hid a2
      clear a2
      go_wp2_with fail
      go_ret
      exact ⟨ret_bool (by unfold confB; rw [A2.out]; simp), y0⟩
    · have A2 := Lib.hid a2
      clear a2
      go_wp2_with fail
      refine (validSide_any _ _ _ ys _ _ _ hyW hl (by omega) (by omega)).mono ?_
      rintro e w' ⟨rfl, rfl⟩
      go_wp2_with fail
      go_ret
      exact ⟨ret_bool (by unfold confB; rw [A1.out, A2.out]; simp), y0⟩
  · go_ret
    exact ⟨ret_bool (by unfold confB; simp [*]), y0⟩

def validConfB (sy st : Int) (rs : List R3) (q : Int) (xs ys : List Int) : Bool := machB sy st rs && confB sy st q xs ys
theorem machB_parts {sy st : Int} {rs : List R3} (h : machB sy st rs = true) : 2 ≤ sy ∧ sy ≤ 6 ∧ 1 ≤ st ∧ st ≤ 1000 ∧ (rs.length : Int) = st * sy ∧ ∀ r ∈ rs, validRuleB sy st r = true := by
  unfold machB at h
  simp only [Bool.and_eq_true, inB_iff, decide_eq_true_eq, List.all_eq_true] at h
  exact ⟨h.1.1.1.1, h.1.1.1.2, h.1.1.2.1, h.1.1.2.2, h.1.2, h.2⟩

set_option maxHeartbeats 1000000 in
theorem validConfig_any (sy st : Int) (A : Option Addr) (n k : Nat) (rs : List R3) (q : Int) (B : Option Addr) (m c : Nat) (xs : List Int) (C : Option Addr) (l d : Nat) (ys : List Int) (w : World) (hr : S3 w A n rs) (hx : SI w B m xs) (hy : SI w C l ys) (hn : n ≤ 1048576) (hm : m ≤ 1048576) (hl : l ≤ 1048576) :
    Calls Try.prog 111 #[.agg #[.int .i64 sy, .int .i64 st, .slice A n k], .agg #[.int .i64 q, .slice B m c, .slice C l d]] w fun e w' => e = .returned (.bool (validConfB sy st rs q xs ys)) ∧ Below w.heap.size w w' := by
  obtain ⟨W, hW⟩ : ∃ W, W = (w.alloc (.cells #[.int .i64 sy, .int .i64 st, .slice A n k] 36)).alloc (.cells #[.int .i64 q, .slice B m c, .slice C l d] 50) := ⟨_, rfl⟩
  have s1 : (w.alloc (.cells #[.int .i64 sy, .int .i64 st, .slice A n k] 36)).heap.size = w.heap.size + 1 := by simp
  have b0 : Blk W w.heap.size 36 #[.int .i64 sy, .int .i64 st, .slice A n k] := by rw [hW]; exact (Blk.new w _ _).alloc _
  have b1 : Blk W (w.heap.size + 1) 50 #[.int .i64 q, .slice B m c, .slice C l d] := by rw [hW, ← s1]; exact Blk.new _ _ _
  have y0 : Below w.heap.size w W := by rw [hW]; exact ((Below.refl _ _).alloc (Nat.le_refl _) _).alloc (by simp) _
  have HW := Lib.hid hW
  clear hW s1
  go_enter Try.func111, Try.ntmps111
  go_wp2_with fail
  rw [← HW.out]
  refine (validMachine_any _ _ _ _ _ rs _ (hr.below y0) hn).mono ?_
  rintro e w2 ⟨rfl, z2⟩
  have y2 : Below w.heap.size w w2 := y0.trans (z2.mono y0.size)
  cases a1 : machB sy st rs
  · have A1 := Lib.hid a1
    clear a1
    go_wp2_with fail
    go_ret
    exact ⟨ret_bool (by unfold validConfB; rw [A1.out]; simp), y2⟩
  · obtain ⟨p1, p2, p3, p4, _, _⟩ := machB_parts a1
    have A1 := Lib.hid a1
    clear a1
    have c0 := b0.below' z2
    have c1 := b1.below' z2
    have q0 : w2.cell? ⟨w.heap.size, 0, none⟩ = some (.int .i64 sy) := c0.cell 0
    have q1 : w2.cell? ⟨w.heap.size, 1, none⟩ = some (.int .i64 st) := c0.cell 1
    have q2 : w2.cell? ⟨w.heap.size, 2, none⟩ = some (.slice A n k) := c0.cell 2
    have q3 : w2.cell? ⟨w.heap.size + 1, 0, none⟩ = some (.int .i64 q) := c1.cell 0
    have q4 : w2.cell? ⟨w.heap.size + 1, 1, none⟩ = some (.slice B m c) := c1.cell 1
    have q5 : w2.cell? ⟨w.heap.size + 1, 2, none⟩ = some (.slice C l d) := c1.cell 2
    go_wp2_with fail
    refine (configOf_any _ _ _ _ _ _ _ _ _ xs _ _ _ ys _ (hx.below y2) (hy.below y2) hm hl p1 p2 p3 p4).mono ?_
    rintro e w3 ⟨rfl, z3⟩
    go_wp2_with fail
    go_ret
    exact ⟨ret_bool (by unfold validConfB; rw [A1.out]; simp), y2.trans (z3.mono y2.size)⟩
end Go.Proofs.Ytbpofkggoolmpaa

/-
  Contracts of the reference's smallest functions: l00In, l00Own.
-/
namespace Go.Proofs.Ytbpofkggoolmpaa
open Go.RowKit

set_option maxHeartbeats 400000 in
theorem l00In_any (n lo hi : Int) (w : World) :
    Calls Try.prog 102 #[.int .i64 n, .int .i64 lo, .int .i64 hi] w fun e w' => e = .returned (.bool (inB n lo hi)) ∧ w = w' := by
  by_cases h1 : lo ≤ n <;> by_cases h2 : n ≤ hi
  all_goals
    go_enter Try.func102, Try.ntmps102
    go_wp2
    go_ret
    exact ⟨ret_bool (by simp [inB]; omega), rfl⟩

theorem l00In_is {n lo hi : Int} {b : Bool} (h : inB n lo hi = b) (w : World) :
    Calls Try.prog 102 #[.int .i64 n, .int .i64 lo, .int .i64 hi] w fun e w' => e = .returned (.bool b) ∧ w = w' := h ▸ l00In_any n lo hi w

set_option maxHeartbeats 400000 in
theorem l00Own_any (A : Option Addr) (n c : Nat) (xs : List Int) (w : World) (hx : SI w A n xs) (hn : n ≤ 1048576) :
    Calls Try.prog 173 #[.slice A n c] w (NewI w xs) := by
  have HL := Lib.hid hx.len
  go_enter Try.func173, Try.ntmps173
  go_wp2_with (at_builtin; refine wpList_append_Own rfl (.tmp 3) (.tmp 4) rfl elI (lo := w.heap.size) rfl (Own.lit0 w _ 1) rfl (Rd.alloc hx _) (ints_one xs) (by omega) (by simp only [maxLen]; omega) (by simp) ?_; intro A2 c2 w2 ho2 hg2 _)
  go_ret
  have hbb := (Own.lit0 w 2 1).below_of ((Below.refl _ _).alloc (Nat.le_refl _) _) hg2 (by simp)
  simp only [List.nil_append] at ho2
  refine ⟨A2, c2, ?_, ?_, hbb⟩
  · rw [HL.out]; simp
  · rw [HL.out]; simpa using ho2

end Go.Proofs.Ytbpofkggoolmpaa
