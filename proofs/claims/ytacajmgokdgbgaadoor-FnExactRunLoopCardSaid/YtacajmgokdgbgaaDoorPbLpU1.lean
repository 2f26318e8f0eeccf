/-
  Slices of structs of three numbers.
-/
import Derived.Test.YtacajmgokdgbgaaDoorPbLpU0
import Derived.Test.YtacajmgokdgbgaaDoorProg
import Derived.BigQuiet
import Derived.Deep.QuietTactic
import Derived.KernelRfl
import Derived.BigGuardPart
import Derived.Deep.RegionHeld3
import Derived.Deep.DeepCutAuto
namespace Go.Proofs.YtacajmgokdgbgaaDoor
open Go.RowKit

/-- Three numbers. -/
structure R3 where
  a : Int
  b : Int
  c : Int
  deriving DecidableEq
def R3.cells (r : R3) : List Value := [.int .i64 r.a, .int .i64 r.b, .int .i64 r.c]
def cells3 (rs : List R3) : List Value := rs.flatMap R3.cells
theorem length_cells3 (rs : List R3) : (cells3 rs).length = rs.length * 3 := by
  induction rs with
  | nil => rfl
  | cons r rs ih => simp [cells3, R3.cells] at ih ⊢; omega
theorem cells3_get : ∀ (rs : List R3) (k : Nat) (r : R3), rs[k]? = some r → (cells3 rs)[k * 3]? = some (.int .i64 r.a) ∧ (cells3 rs)[k * 3 + 1]? = some (.int .i64 r.b) ∧ (cells3 rs)[k * 3 + 2]? = some (.int .i64 r.c)
  | [], k, r, h => by simp at h
  | s :: rs, 0, r, h => by simp at h; subst h; simp [cells3, R3.cells]
  | s :: rs, k + 1, r, h => by
    have ih := cells3_get rs k r (by simpa using h)
    have e : cells3 (s :: rs) = .int .i64 s.a :: .int .i64 s.b :: .int .i64 s.c :: cells3 rs := by simp [cells3, R3.cells]
    rw [e, show (k + 1) * 3 = k * 3 + 3 from by omega]
    simpa using ih
theorem cells3_one (rs : List R3) : ∀ u ∈ cells3 rs, u.oneCell' = true := by
  intro u hu
  simp [cells3, R3.cells] at hu
  obtain ⟨r, _, h | h | h⟩ := hu <;> subst h <;> rfl
theorem cells3_set : ∀ (rs : List R3) (k : Nat) (r : R3), k < rs.length → (((cells3 rs).set (k * 3) (.int .i64 r.a)).set (k * 3 + 1) (.int .i64 r.b)).set (k * 3 + 2) (.int .i64 r.c) = cells3 (rs.set k r)
  | [], k, r, h => by simp at h
  | s :: rs, 0, r, h => by simp [cells3, R3.cells]
  | s :: rs, k + 1, r, h => by
    have ih := cells3_set rs k r (by simpa using h)
    have e : cells3 (s :: rs) = .int .i64 s.a :: .int .i64 s.b :: .int .i64 s.c :: cells3 rs := by simp [cells3, R3.cells]
    have e2 : cells3 ((s :: rs).set (k + 1) r) = .int .i64 s.a :: .int .i64 s.b :: .int .i64 s.c :: cells3 (rs.set k r) := by simp [cells3, R3.cells]
    rw [e, e2, ← ih, show (k + 1) * 3 = k * 3 + 3 from by omega]
    simp
theorem cells3_append (xs ys : List R3) : cells3 xs ++ cells3 ys = cells3 (xs ++ ys) := by simp [cells3]

/-- A slice that reads as a list of triples. -/
def S3 (w : World) (A : Option Addr) (n : Nat) (rs : List R3) : Prop := Rd w 3 A n (cells3 rs)
section
variable {w w' : World} {A : Option Addr} {n : Nat} {rs : List R3}
theorem S3.len (h : S3 w A n rs) : rs.length = n := by have := h.1; rw [length_cells3] at this; omega
theorem S3.pick (h : S3 w A n rs) {k : Nat} (hk : k < n) : ∃ r b off, Hid (rs[k]? = some r) ∧ r ∈ rs ∧ A = some ⟨b, off, none⟩ ∧ b < w.heap.size ∧
    w.cell? ⟨b, off + k * 3, none⟩ = some (.int .i64 r.a) ∧ w.cell? ⟨b, off + k * 3 + 1, none⟩ = some (.int .i64 r.b) ∧ w.cell? ⟨b, off + k * 3 + 2, none⟩ = some (.int .i64 r.c) := by
  have hl := h.len
  have hr : rs[k]? = some (rs[k]'(by omega)) := List.getElem?_eq_getElem (by omega)
  obtain ⟨h0, h1, h2⟩ := cells3_get rs k _ hr
  obtain ⟨b, off, e, hc⟩ := h.2 (by rw [length_cells3]; omega)
  obtain ⟨l0, g0⟩ := List.getElem?_eq_some_iff.1 h0
  obtain ⟨l1, g1⟩ := List.getElem?_eq_some_iff.1 h1
  obtain ⟨l2, g2⟩ := List.getElem?_eq_some_iff.1 h2
  have k0 := hc _ l0
  have k1 := hc _ l1
  have k2 := hc _ l2
  rw [g0] at k0
  rw [g1] at k1
  rw [g2] at k2
  exact ⟨_, b, off, hr, List.getElem_mem _, e, World.block_lt_of_cell? w _ k0, k0, by rw [Nat.add_assoc]; exact k1, by rw [Nat.add_assoc]; exact k2⟩
theorem S3.below (h : S3 w A n rs) (hb : Below w.heap.size w w') : S3 w' A n rs := Rd.below h hb
theorem S3.drewN (h : S3 w A n rs) (k : Nat) : S3 (w.drewN k) A n rs := h
theorem S3.alloc (h : S3 w A n rs) (o : Obj) : S3 (w.alloc o) A n rs := Rd.alloc h o
end
/-- After k copies into a list of zeros. -/
def copied3 (rs : List R3) (k : Nat) : List R3 := rs.take k ++ List.replicate (rs.length - k) ⟨0, 0, 0⟩
theorem copied3_end (rs : List R3) {k : Nat} (h : rs.length ≤ k) : copied3 rs k = rs := by
  unfold copied3
  rw [List.take_of_length_le h, show rs.length - k = 0 from by omega]; simp
theorem length_copied3 (rs : List R3) (k : Nat) (h : k ≤ rs.length) : (copied3 rs k).length = rs.length := by simp [copied3]; omega
theorem copied3_next (rs : List R3) (k : Nat) (r : R3) (h : rs[k]? = some r) : (copied3 rs k).set k r = copied3 rs (k + 1) := by
  obtain ⟨hk, rfl⟩ := List.getElem?_eq_some_iff.1 h
  unfold copied3
  have e1 : (rs.take k).length = k := by simp; omega
  rw [List.set_append_right _ _ (by omega), e1, Nat.sub_self, List.take_succ_eq_append_getElem hk, show rs.length - k = (rs.length - (k + 1)) + 1 from by omega, List.replicate_succ]
  simp only [List.set_cons_zero, List.append_assoc, List.singleton_append]
theorem made_cells3 (n : Nat) (rs : List R3) (h : rs.length = n) : (madeCells (Value.agg #[.int .i64 0, .int .i64 0, .int .i64 0]).cells (n * 3)).toList = cells3 (copied3 rs 0) := by
  show (madeCells #[Value.int .i64 0, .int .i64 0, .int .i64 0] (n * 3)).toList = _
  have e : copied3 rs 0 = List.replicate n ⟨0, 0, 0⟩ := by simp [copied3, h]
  rw [e]
  apply List.ext_getElem?
  intro j
  by_cases hj : j < n * 3
  · obtain ⟨q, r, rfl, hr⟩ : ∃ q r, j = q * 3 + r ∧ r < 3 := ⟨j / 3, j % 3, by omega, by omega⟩
    have hq : (List.replicate n (⟨0, 0, 0⟩ : R3))[q]? = some ⟨0, 0, 0⟩ := by rw [List.getElem?_replicate, if_pos (by omega)]
    obtain ⟨h0, h1, h2⟩ := cells3_get _ q _ hq
    have hm : (q * 3 + r) % 3 = r := by omega
    match r, hr with
    | 0, _ => simp only [Nat.add_zero] at hj hm ⊢; rw [h0]; simp [madeCells, hj]
    | 1, _ => rw [h1]; simp [madeCells, hj, hm]
    | 2, _ => rw [h2]; simp [madeCells, hj, hm]
  · have hl : (cells3 (List.replicate n (⟨0, 0, 0⟩ : R3))).length = n * 3 := by rw [length_cells3]; simp
    rw [List.getElem?_eq_none (by simp [size_madeCells]; omega), List.getElem?_eq_none (by omega)]
def same3 (xs ys : List R3) : Bool := decide (xs = ys)
theorem same3_self (xs : List R3) : same3 xs xs = true := by simp [same3]
def sameR (x y : R3) : Bool := decide (x = y)
theorem same3_ne {xs ys : List R3} {x y : R3} {k : Nat} (hx : xs[k]? = some x) (hy : ys[k]? = some y) (h : (!sameR x y) = true) : false = same3 xs ys := by
  unfold same3; symm; rw [decide_eq_false_iff_not]; rintro rfl
  rw [hx] at hy
  simp at hy
  simp [sameR, hy] at h
theorem same3_len {xs ys : List R3} {n m : Nat} (h : ¬ n = m) (hx : xs.length = n) (hy : ys.length = m) : false = same3 xs ys := by
  unfold same3; symm; rw [decide_eq_false_iff_not]; rintro rfl; omega
theorem same3_eq {xs ys : List R3} {n k : Nat} (hk : n ≤ k) (hx : xs.length = n) (hy : ys.length = n) (h : xs.take k = ys.take k) : true = same3 xs ys := by
  rw [List.take_of_length_le (by omega), List.take_of_length_le (by omega)] at h
  unfold same3; symm; rw [decide_eq_true_iff]; exact h
theorem same3_next {xs ys : List R3} {x y : R3} {k : Nat} (hx : xs[k]? = some x) (hy : ys[k]? = some y) (h : xs.take k = ys.take k) (h1 : (!sameR x y) = false) : xs.take (k + 1) = ys.take (k + 1) := by
  obtain ⟨hk, rfl⟩ := List.getElem?_eq_some_iff.1 hx
  obtain ⟨hk', rfl⟩ := List.getElem?_eq_some_iff.1 hy
  rw [List.take_succ_eq_append_getElem hk, List.take_succ_eq_append_getElem hk', h]
  simp [sameR] at h1
  rw [h1]
end Go.Proofs.YtacajmgokdgbgaaDoor

/-
  Contracts of the laws' helpers over []int64: szInt64S, toInt64S, eqInt64S, markInt64S, heldInt64S.
-/
namespace Go.Proofs.YtacajmgokdgbgaaDoor
open Go.RowKit

theorem elI : Elem Tryd.prog 23 2 1 8 (.int .i64 0) := ⟨Tryd.underlying23, by kernel_rfl, rfl, by decide⟩

def szF (left n : Int) : Int := if left < n then -1 else left - n

set_option maxHeartbeats 400000 in
theorem eqI (A B : Option Addr) (n m c d : Nat) (xs ys : List Int) (w : World) (hx : SI w A n xs) (hy : SI w B m ys) (hn : n ≤ 9223372036854775807) :
    Calls Tryd.prog 12 #[.slice A n c, .slice B m d] w fun e w' => e = .returned (.bool (sameI xs ys)) ∧ ∃ q, w' = w.drewN q := by
  by_cases hnm : n = m
  · subst hnm
    go_enter Tryd.func12, Tryd.ntmps12
    go_wp2
    go_loopw [5] (fun i wr => ∃ k q : Nat, k ≤ n ∧ i = .int .i64 k ∧ Hid (xs.take k = ys.take k) ∧ wr = w.drewN q) (fun i _ => n - (intOf i).toNat)
    case atStart => exact ⟨0, 0, by omega, rfl, rfl, rfl⟩
    case round =>
      obtain ⟨k, q, hk, rfl, he, rfl⟩ := hrel
      by_cases hlt : k < n
      · obtain ⟨b, off, rfl, _, hc⟩ := hx.at_ hlt
        obtain ⟨b', off', rfl, _, hc'⟩ := hy.at_ hlt
        go_wp2
        go_quiet (fail)
        go_wp2
        · go_ret
          exact ⟨ret_bool (sameI_ne hlt hx.len hy.len (by assumption)), _, World.drewN_drewN _ _ _⟩
        · exact ⟨⟨k + 1, _, by omega, by go_num, take_next hlt hx.len hy.len he.out (by assumption), rfl⟩, by simp [intOf]; omega⟩
      · go_wp2
        go_ret
        exact ⟨ret_bool (sameI_eq (by omega) hx.len hy.len he.out), _, rfl⟩
  · have hne : ((n : Int) != (m : Int)) = true := by simp; omega
    go_enter Tryd.func12, Tryd.ntmps12
    go_wp2
    go_ret
    exact ⟨ret_bool (sameI_len hnm hx.len hy.len), 0, rfl⟩

set_option maxHeartbeats 400000 in
theorem heldI (A : Option Addr) (n c : Nat) (xs : List Int) (m : Int) (w : World) (hx : SI w A n xs) (h0 : 0 ≤ m) (h1 : m + n ≤ 9223372036854775807) :
    Calls Tryd.prog 16 #[.slice A n c, .int .i64 m] w fun e w' => e = .returned (.int .i64 (heldF m xs)) ∧ w = w' := by
  go_enter Tryd.func16, Tryd.ntmps16
  go_wp2
  go_loop [1, 5] (fun q i => ∃ k : Nat, k ≤ n ∧ i = .int .i64 k ∧ q = .int .i64 (m + k) ∧ Hid (xs.take k = (marks m n).take k)) (fun _ i => n - (intOf i).toNat)
  case atStart => exact ⟨0, by omega, rfl, by simp, rfl⟩
  case round =>
    obtain ⟨k, hk, rfl, rfl, he⟩ := hrel
    by_cases hlt : k < n
    · obtain ⟨b, off, rfl, _, hc⟩ := hx.at_ hlt
      go_wp2
      · go_ret
        exact ⟨ret_int (heldF_ne hlt hx.len (by assumption)), rfl⟩
      · exact ⟨⟨k + 1, by omega, by go_num, by go_num, held_next hlt hx.len he.out (by assumption)⟩, by simp [intOf]; omega⟩
    · go_wp2
      go_ret
      exact ⟨ret_int (heldF_eq (by omega) hx.len he.out (by omega)), rfl⟩

def MarkI (w : World) (lo hi : Nat) (A : Option Addr) (n c : Nat) (m : Int) (e : Ending) (w' : World) : Prop :=
  e = .returned (.int .i64 (m + n)) ∧ OwnE w' lo 2 A n c (marks m n) ∧ Tch lo hi w w' ∧ ∀ b, blk A ≠ some b → w'.heap[b]? = w.heap[b]?

set_option maxHeartbeats 400000 in
theorem markI (A : Option Addr) (n c : Nat) (xs : List Int) (m : Int) (w : World) (lo hi : Nat) (hx : OwnE w lo 2 A n c xs) (hh : ∀ b, blk A = some b → b < hi) (h0 : 0 ≤ m) (h1 : m + n ≤ 9223372036854775807) :
    Calls Tryd.prog 15 #[.slice A n c, .int .i64 m] w (MarkI w lo hi A n c m) := by
  have hl : xs.length = n := by have := hx.si.len; omega
  have HL := Lib.hid hl
  have hxl : n ≤ xs.length := by omega
  clear hl
  go_enter Tryd.func15, Tryd.ntmps15
  go_wp2
  go_loopw [1, 5] (fun q i wr => ∃ k : Nat, k ≤ n ∧ i = .int .i64 k ∧ q = .int .i64 (m + k) ∧ OwnE wr lo 2 A n c (marked m xs k) ∧ Tch lo hi w wr ∧ Hid (∀ b, blk A ≠ some b → wr.heap[b]? = w.heap[b]?)) (fun _ i _ => n - (intOf i).toNat)
  case atStart => exact ⟨0, by omega, rfl, by simp, by rw [marked_zero]; exact hx, Tch.refl _ _ _, fun _ _ => rfl⟩
  case round =>
    obtain ⟨k, hk, rfl, rfl, ho, ht, hfar⟩ := hrel
    by_cases hlt : k < n
    · have hml : k < (ints (marked m xs k)).length := by rw [length_ints, length_marked _ _ _ (by omega)]; omega
      have ho := ho.resolve_left (fun h => by omega)
      obtain ⟨b, off, rfl, hlo, _, hc, hf⟩ := ho.at_ hml
      have hbh := hh b rfl
      have ho2 := ho.set_ hml (.int .i64 (m + k))
      rw [ints_set, marked_next _ _ _ (by omega)] at ho2
      have ht2 := ht.setCell (p := ⟨b, off + k, none⟩) hlo hbh (.int .i64 (m + k))
      have hfar2 : Hid (∀ b', blk (some ⟨b, off, none⟩) ≠ some b' → (wr.setCell ⟨b, off + k, none⟩ (.int .i64 (m + k))).heap[b']? = w.heap[b']?) := fun b' hb' => (Below.heap_setCell _ _ _ _ (fun e => hb' (by rw [e]; rfl))).trans (hfar.out b' hb')
      go_wp2
      exact ⟨⟨k + 1, by omega, by go_num, by go_num, .inr ho2, ht2, hfar2⟩, by simp [intOf]; omega⟩
    · go_wp2
      go_ret
      obtain rfl : k = n := by omega
      have hoo := ho
      have e2 : marked m xs k = marks m k := by rw [← HL.out, marked_end]
      rw [e2] at hoo
      exact ⟨rfl, hoo, ht, hfar.out⟩

def ToI (w : World) (n : Nat) (xs : List Int) (e : Ending) (w' : World) : Prop :=
  ∃ A, e = .returned (.slice A n n) ∧ Own w' w.heap.size 2 1 A n n (ints xs) ∧ Below w.heap.size w w'

set_option maxHeartbeats 400000 in
theorem toI (A : Option Addr) (n c : Nat) (xs : List Int) (w : World) (hx : SI w A n xs) (hn : n ≤ 1048576) :
    Calls Tryd.prog 10 #[.slice A n c] w (ToI w n xs) := by
  have HL := Lib.hid hx.len
  have hxl : n ≤ xs.length := by have := hx.len; omega
  have hxl' : xs.length ≤ n := by have := hx.len; omega
  go_enter Tryd.func10, Tryd.ntmps10
  go_wp2_with (at_make; refine wpList_make_Own rfl (.tmp 6) (.tmp 6) rfl elI (n := n) (lo := w.heap.size) rfl rfl (by omega) (by unfold maxLen; omega) (Nat.le_refl _) ?_; intro w2 ho2 hb2 hs2)
  rw [made_ints n xs HL.out] at ho2
  have HS := Lib.hid hs2
  clear hs2
  go_loopw [4] (fun i wr => ∃ k : Nat, k ≤ n ∧ i = .int .i64 k ∧ Own wr w.heap.size 2 1 (some ⟨w.heap.size, 0, none⟩) n n (ints (copied xs k)) ∧ Below w.heap.size w wr) (fun i _ => n - (intOf i).toNat)
  case atStart => exact ⟨0, by omega, rfl, ho2, hb2⟩
  case round =>
    obtain ⟨k, hk, rfl, ho, hb⟩ := hrel
    by_cases hlt : k < n
    · obtain ⟨b, off, rfl, hbl, hc⟩ := (hx.below hb).at_ hlt
      have hml : k < (ints (copied xs k)).length := by rw [length_ints, length_copied _ _ (by omega)]; omega
      obtain ⟨b', off', he, hlo, _, hc', hf'⟩ := ho.at_ hml
      simp only [Option.some.injEq, Addr.mk.injEq, and_true] at he
      obtain ⟨rfl, rfl⟩ := he
      have ho3 := ho.set_ hml (.int .i64 (xs[k]'(by omega)))
      rw [ints_set, copied_next _ _ (by omega)] at ho3
      have hb3 := hb.setCell (p := ⟨w.heap.size, 0 + k, none⟩) (Nat.le_refl _) (.int .i64 (xs[k]'(by omega)))
      simp only [Nat.zero_add] at hc' hf' ho3 hb3
      go_wp2
      exact ⟨⟨k + 1, by omega, by go_num, ho3, hb3⟩, by simp [intOf]; omega⟩
    · go_wp2
      go_ret
      have hoo := ho
      rw [copied_end xs (by omega)] at hoo
      exact ⟨_, rfl, hoo, hb⟩

/-- A slice in new memory. -/
def NewI (w : World) (xs : List Int) (e : Ending) (w' : World) : Prop :=
  ∃ A c, e = .returned (.slice A xs.length c) ∧ Own w' w.heap.size 2 1 A xs.length c (ints xs) ∧ Below w.heap.size w w'

/-- A slice in new memory and a number. -/
def NewI2 (w : World) (r : List Int × Int) (e : Ending) (w' : World) : Prop :=
  ∃ A c, e = .returned (.tuple #[.slice A r.1.length c, .int .i64 r.2]) ∧ Own w' w.heap.size 2 1 A r.1.length c (ints r.1) ∧ Below w.heap.size w w'


/-- What marking a copy does: the number goes on, the memory is as it was but for the copies' cells. -/
def MarkP (T : List TypeId) (w : World) (lo hi : Nat) (t : Nat) (m : Int) (e : Ending) (w' : World) : Prop := e = .returned (.int .i64 (m + t)) ∧ MkF T lo hi w w'

set_option maxHeartbeats 400000 in
theorem markI_m (T : List TypeId) (A : Option Addr) (n c : Nat) (m : Int) (w : World) (lo hi : Nat) (hx : Mk w lo hi 2 1 A n) (hT : 2 ∈ T) (h0 : 0 ≤ m) (h1 : m + n ≤ 9223372036854775807) :
    Calls Tryd.prog 15 #[.slice A n c, .int .i64 m] w (MarkP T w lo hi n m) := by
  have HT := Lib.hid hT
  clear hT
  go_enter Tryd.func15, Tryd.ntmps15
  go_wp2
  go_loopw [1, 5] (fun q i wr => ∃ k : Nat, k ≤ n ∧ i = .int .i64 k ∧ q = .int .i64 (m + k) ∧ Mk wr lo hi 2 1 A n ∧ MkF T lo hi w wr) (fun _ i _ => n - (intOf i).toNat)
  case atStart => exact ⟨0, by omega, rfl, by simp, hx, MkF.refl _ _ _ _⟩
  case round =>
    obtain ⟨k, hk, rfl, rfl, ho, ht⟩ := hrel
    by_cases hlt : k < n
    · obtain ⟨b, off, cur, v, rfl, hlo, hhi, hg, hc, hf⟩ := ho.at_ (k := k) (by omega)
      have ht2 := ht.setCell (i := off + k) hg HT.out hlo hhi (.int .i64 (m + k))
      have ho2 := ho.mkf ((MkF.refl T lo hi wr).setCell (i := off + k) hg HT.out hlo hhi (.int .i64 (m + k)))
      have HG := Lib.hid hg
      clear hg
      go_wp2
      exact ⟨⟨k + 1, by omega, by go_num, by go_num, ho2, ht2⟩, by simp [intOf]; omega⟩
    · go_wp2
      go_ret
      obtain rfl : k = n := by omega
      exact ⟨rfl, ht⟩
end Go.Proofs.YtacajmgokdgbgaaDoor

/-
  Contracts of impl's smallest functions: within, size, allWithin; slices.Clone.
-/
namespace Go.Proofs.YtacajmgokdgbgaaDoor
open Go.RowKit

def inB (n lo hi : Int) : Bool := decide (lo ≤ n) && decide (n ≤ hi)
def allIn (xs : List Int) (lo hi : Int) : Bool := xs.all (fun x => inB x lo hi)
theorem inB_iff (n lo hi : Int) : inB n lo hi = true ↔ lo ≤ n ∧ n ≤ hi := by simp [inB]

set_option maxHeartbeats 400000 in
theorem within_any (n lo hi : Int) (w : World) :
    Calls Tryd.prog 65 #[.int .i64 n, .int .i64 lo, .int .i64 hi] w fun e w' => e = .returned (.bool (inB n lo hi)) ∧ w = w' := by
  by_cases h1 : lo ≤ n <;> by_cases h2 : n ≤ hi
  all_goals
    go_enter Tryd.func65, Tryd.ntmps65
    go_wp2
    go_ret
    exact ⟨ret_bool (by simp [inB]; omega), rfl⟩

theorem sizeI_any (A : Option Addr) (n c : Nat) (w : World) (_h : n ≤ 9223372036854775807) :
    Calls Tryd.prog 50 #[.slice A n c] w fun e w' => e = .returned (.int .i64 n) ∧ w = w' := by
  go_enter Tryd.func50, Tryd.ntmps50
  go_wp2
  go_ret
  exact ⟨rfl, rfl⟩

theorem allIn_at {xs : List Int} {lo hi : Int} {k n : Nat} (hk : k < n) (hl : xs.length = n) (h : (!inB (xs[k]'(by omega)) lo hi) = true) : false = allIn xs lo hi := by
  symm; unfold allIn; rw [List.all_eq_false]
  exact ⟨_, List.getElem_mem (by omega : k < xs.length), by simpa using h⟩
theorem allIn_next {xs : List Int} {lo hi : Int} {k n : Nat} (hk : k < n) (hl : xs.length = n) (h : (!inB (xs[k]'(by omega)) lo hi) = false) (he : allIn (xs.take k) lo hi = true) : allIn (xs.take (k + 1)) lo hi = true := by
  rw [List.take_succ_eq_append_getElem (by omega)]
  simp only [allIn, List.all_append, Bool.and_eq_true] at he ⊢
  exact ⟨he, by simpa using h⟩
theorem allIn_end {xs : List Int} {lo hi : Int} {k n : Nat} (hk : n ≤ k) (hl : xs.length = n) (he : allIn (xs.take k) lo hi = true) : true = allIn xs lo hi := by
  rw [List.take_of_length_le (by omega)] at he; exact he.symm

set_option maxHeartbeats 400000 in
theorem allWithin_any (A : Option Addr) (n c : Nat) (xs : List Int) (lo hi : Int) (w : World) (hx : SI w A n xs) (hn : n ≤ 9223372036854775807) :
    Calls Tryd.prog 37 #[.slice A n c, .int .i64 lo, .int .i64 hi] w fun e w' => e = .returned (.bool (allIn xs lo hi)) ∧ w = w' := by
  go_enter Tryd.func37, Tryd.ntmps37
  go_wp2
  go_loop [11] (fun i => ∃ k : Nat, k ≤ n ∧ i = .int .i64 k ∧ Hid (allIn (xs.take k) lo hi = true)) (fun i => n - (intOf i).toNat)
  case atStart => exact ⟨0, by omega, rfl, rfl⟩
  case round =>
    obtain ⟨k, hk, rfl, he⟩ := hrel
    by_cases hlt : k < n
    · obtain ⟨b, off, rfl, _, hc⟩ := hx.at_ hlt
      go_wp2_with (go_at_call 65; refine (within_any _ _ _ _).mono ?_; rintro e w' ⟨rfl, rfl⟩)
      · go_ret
        exact ⟨ret_bool (allIn_at hlt hx.len (by assumption)), rfl⟩
      · exact ⟨⟨k + 1, by omega, by go_num, allIn_next hlt hx.len (by assumption) he.out⟩, by simp [intOf]; omega⟩
    · go_wp2
      go_ret
      exact ⟨ret_bool (allIn_end (by omega) hx.len he.out), rfl⟩

theorem within_is {n lo hi : Int} {b : Bool} (h : inB n lo hi = b) (w : World) :
    Calls Tryd.prog 65 #[.int .i64 n, .int .i64 lo, .int .i64 hi] w fun e w' => e = .returned (.bool b) ∧ w = w' := h ▸ within_any n lo hi w
end Go.Proofs.YtacajmgokdgbgaaDoor

/-
  Contracts of the reference's smallest functions: l00In, l00Own.
-/
namespace Go.Proofs.YtacajmgokdgbgaaDoor
open Go.RowKit

set_option maxHeartbeats 400000 in
theorem l00In_any (n lo hi : Int) (w : World) :
    Calls Tryd.prog 61 #[.int .i64 n, .int .i64 lo, .int .i64 hi] w fun e w' => e = .returned (.bool (inB n lo hi)) ∧ w = w' := by
  by_cases h1 : lo ≤ n <;> by_cases h2 : n ≤ hi
  all_goals
    go_enter Tryd.func61, Tryd.ntmps61
    go_wp2
    go_ret
    exact ⟨ret_bool (by simp [inB]; omega), rfl⟩

theorem l00In_is {n lo hi : Int} {b : Bool} (h : inB n lo hi = b) (w : World) :
    Calls Tryd.prog 61 #[.int .i64 n, .int .i64 lo, .int .i64 hi] w fun e w' => e = .returned (.bool b) ∧ w = w' := h ▸ l00In_any n lo hi w

set_option maxHeartbeats 400000 in
theorem l00Own_any (A : Option Addr) (n c : Nat) (xs : List Int) (w : World) (hx : SI w A n xs) (hn : n ≤ 1048576) :
    Calls Tryd.prog 62 #[.slice A n c] w (NewI w xs) := by
  have HL := Lib.hid hx.len
  go_enter Tryd.func62, Tryd.ntmps62
  go_wp2_with (at_builtin; refine wpList_append_Own rfl (.tmp 3) (.tmp 4) rfl elI (lo := w.heap.size) rfl (Own.lit0 w _ 1) rfl (Rd.alloc hx _) (ints_one xs) (by omega) (by simp only [maxLen]; omega) (by simp) ?_; intro A2 c2 w2 ho2 hg2 _)
  go_ret
  have hbb := (Own.lit0 w 2 1).below_of ((Below.refl _ _).alloc (Nat.le_refl _) _) hg2 (by simp)
  simp only [List.nil_append] at ho2
  refine ⟨A2, c2, ?_, ?_, hbb⟩
  · rw [HL.out]; simp
  · rw [HL.out]; simpa using ho2

end Go.Proofs.YtacajmgokdgbgaaDoor

/-
  Plain loop programs: which are valid, and what a run does.
-/
namespace Go.Proofs.YtacajmgokdgbgaaDoor

/-- A command: a its kind, b its variable, c its other variable or the length of its body. -/
def isLoopB (x : R3) : Bool := x.a == 3 || x.a == 4
/-- Which commands without a body are valid. -/
def flatB (x : R3) : Bool := if x.a = 2 then inB x.c 0 15 else (x.a == 0 || x.a == 1) && x.c == 0
def validLp (l : List R3) (d : Nat) : Bool :=
  match l with
  | [] => true
  | x :: t =>
    inB x.b 0 15 && (if isLoopB x then decide (d < 7) && inB x.c 0 (t.length : Int) && validLp (t.take x.c.toNat) (d + 1) && validLp (t.drop x.c.toNat) d else flatB x && validLp t d)
termination_by l.length
decreasing_by all_goals simp_wf; all_goals (try rw [List.length_take]); all_goals (try rw [List.length_drop]); all_goals omega
/-- The variables and the steps that are left. -/
structure Ls where
  vs : List Int
  left : Nat
/-- A step: none is left: 5. -/
def stepLs (s : Ls) : Except Int Ls := if s.left = 0 then .error 5 else .ok ⟨s.vs, s.left - 1⟩
def timesLs (f : Ls → Except Int Ls) : Nat → Ls → Except Int Ls
  | 0, s => .ok s
  | n + 1, s => (stepLs s).bind fun s => (f s).bind (timesLs f n)
/-- The fuel is more than the steps that are left. -/
def againLs (f : Ls → Except Int Ls) (a : Nat) : Nat → Ls → Except Int Ls
  | 0, _ => .error 5
  | k + 1, s => if s.vs.getD a 0 = 0 then .ok s else (f s).bind fun s => (stepLs s).bind (againLs f a k)
def simpleLs (x : R3) (s : Ls) : Except Int Ls :=
  if x.a = 0 then .ok ⟨s.vs.set x.b.toNat 0, s.left⟩
  else if x.a = 1 then (if s.vs.getD x.b.toNat 0 = 1000000 then .error 6 else .ok ⟨s.vs.set x.b.toNat (s.vs.getD x.b.toNat 0 + 1), s.left⟩)
  else .ok ⟨s.vs.set x.b.toNat (s.vs.getD x.c.toNat 0), s.left⟩
def runLp (l : List R3) (s : Ls) : Except Int Ls :=
  match l with
  | [] => .ok s
  | x :: t =>
    (stepLs s).bind fun s =>
      if x.a = 3 then (timesLs (fun s => runLp (t.take x.c.toNat) s) (s.vs.getD x.b.toNat 0).toNat s).bind fun s => runLp (t.drop x.c.toNat) s
      else if x.a = 4 then (againLs (fun s => runLp (t.take x.c.toNat) s) x.b.toNat (s.left + 1) s).bind fun s => runLp (t.drop x.c.toNat) s
      else (simpleLs x s).bind fun s => runLp t s
termination_by l.length
decreasing_by all_goals simp_wf; all_goals (try rw [List.length_take]); all_goals (try rw [List.length_drop]); all_goals omega
/-- The commands from i up to j. -/
def segL (rs : List R3) (i j : Nat) : List R3 := (rs.take j).drop i
theorem segL_nil {rs : List R3} {i j : Nat} (h : j ≤ i) : segL rs i j = [] := by
  unfold segL
  rw [List.drop_eq_nil_iff, List.length_take]; omega
theorem segL_cons {rs : List R3} {i j : Nat} {r : R3} (h : i < j) (hr : rs[i]? = some r) : segL rs i j = r :: segL rs (i + 1) j := by
  unfold segL
  obtain ⟨hl, he⟩ := List.getElem?_eq_some_iff.1 hr
  rw [List.drop_eq_getElem_cons (by rw [List.length_take]; omega), List.getElem_take, he]
theorem segL_take {rs : List R3} {i j b : Nat} (h : i + b ≤ j) : (segL rs i j).take b = segL rs i (i + b) := by
  unfold segL
  rw [List.take_drop, List.take_take, Nat.min_eq_left h]
theorem segL_drop (rs : List R3) (i j b : Nat) : (segL rs i j).drop b = segL rs (i + b) j := by
  unfold segL
  rw [List.drop_drop]
theorem segL_len {rs : List R3} {i j : Nat} (h : j ≤ rs.length) : (segL rs i j).length = j - i := by
  unfold segL
  rw [List.length_drop, List.length_take]; omega
theorem segL_all (rs : List R3) : segL rs 0 rs.length = rs := by unfold segL; simp
theorem isLoopB_iff (x : R3) : isLoopB x = true ↔ x.a = 3 ∨ x.a = 4 := by unfold isLoopB; simp
theorem flatB_iff (x : R3) : flatB x = true ↔ (x.a = 2 ∧ 0 ≤ x.c ∧ x.c ≤ 15) ∨ ((x.a = 0 ∨ x.a = 1) ∧ x.c = 0) := by
  unfold flatB
  split
  · rename_i h
    rw [inB_iff]
    constructor
    · exact fun k => .inl ⟨h, k⟩
    · rintro (k | ⟨k | k, _⟩)
      · exact k.2
      · omega
      · omega
  · rename_i h
    simp only [Bool.and_eq_true, Bool.or_eq_true, beq_iff_eq]
    constructor
    · exact fun k => .inr k
    · rintro (k | k)
      · exact absurd k.1 h
      · exact k
theorem bool_false {b : Bool} {p : Prop} (h : b = true ↔ p) (hp : ¬ p) : b = false := by
  cases b
  · rfl
  · exact absurd (h.1 rfl) hp
/-- What the first command asks. -/
theorem validLp_nil (d : Nat) : validLp [] d = true := by rw [validLp]
theorem validLp_flat {x : R3} {t : List R3} {d : Nat} (h : isLoopB x = false) : validLp (x :: t) d = (inB x.b 0 15 && (flatB x && validLp t d)) := by rw [validLp, h]; rfl
theorem validLp_loop {x : R3} {t : List R3} {d : Nat} (h : isLoopB x = true) : validLp (x :: t) d = (inB x.b 0 15 && (decide (d < 7) && inB x.c 0 (t.length : Int) && validLp (t.take x.c.toNat) (d + 1) && validLp (t.drop x.c.toNat) d)) := by rw [validLp, h]; rfl
theorem validLp_var {x : R3} {t : List R3} {d : Nat} (h : inB x.b 0 15 = false) : validLp (x :: t) d = false := by rw [validLp, h]; rfl
end Go.Proofs.YtacajmgokdgbgaaDoor

/-
  Contracts of impl's validLoops and ValidLoop.
-/
namespace Go.Proofs.YtacajmgokdgbgaaDoor
open Go.RowKit

theorem cells3_seg (rs : List R3) (i j : Nat) : cells3 (segL rs i j) = ((cells3 rs).take (j * 3)).drop (i * 3) := by
  have ht : ∀ (rs : List R3) (j : Nat), cells3 (rs.take j) = (cells3 rs).take (j * 3) := by
    intro rs
    induction rs with
    | nil => intro j; simp [cells3]
    | cons r t ih =>
      intro j
      cases j with
      | zero => simp [cells3]
      | succ j =>
        have := ih j
        simp only [cells3, List.take_succ_cons, List.flatMap_cons] at this ⊢
        rw [this, List.take_append, show r.cells.length = 3 from rfl, show (j + 1) * 3 - 3 = j * 3 by omega, List.take_of_length_le (l := r.cells) (by show 3 ≤ _; omega)]
  have hd : ∀ (rs : List R3) (i : Nat), cells3 (rs.drop i) = (cells3 rs).drop (i * 3) := by
    intro rs
    induction rs with
    | nil => intro i; simp [cells3]
    | cons r t ih =>
      intro i
      cases i with
      | zero => simp [cells3]
      | succ i =>
        have := ih i
        simp only [cells3, List.drop_succ_cons, List.flatMap_cons] at this ⊢
        rw [this, List.drop_append, show r.cells.length = 3 from rfl, show (i + 1) * 3 - 3 = i * 3 by omega, show r.cells.drop ((i + 1) * 3) = [] from List.drop_eq_nil_iff.2 (by show 3 ≤ _; omega)]; rfl
  unfold segL
  rw [hd, ht]
theorem S3.cut {w : World} {A A' : Option Addr} {n i j : Nat} {rs : List R3} (h : S3 w A n rs) (hij : i ≤ j) (hj : j ≤ n) (hA : i < j → ∀ b off, A = some ⟨b, off, none⟩ → A' = some ⟨b, off + i * 3, none⟩) : S3 w A' (j - i) (segL rs i j) := by
  have hl := h.len
  unfold S3
  rw [cells3_seg]
  refine ⟨by rw [List.length_drop, List.length_take, length_cells3]; omega, fun hn => ?_⟩
  rw [List.length_drop, List.length_take, length_cells3] at hn
  obtain ⟨b, off, rfl, hc⟩ := h.2 (by rw [length_cells3]; omega)
  refine ⟨b, off + i * 3, hA (by omega) b off rfl, fun k hk => ?_⟩
  rw [List.length_drop, List.length_take, length_cells3] at hk
  have := hc (i * 3 + k) (by rw [length_cells3]; omega)
  rw [show off + i * 3 + k = off + (i * 3 + k) by omega, this]
  simp [List.getElem_drop, List.getElem_take]
theorem isVariable_is {v : Int} {b : Bool} (h : inB v 0 15 = b) (w : World) : Calls Tryd.prog 91 #[.int .i64 v] w fun e w' => e = .returned (.bool b) ∧ w = w' := by
  go_enter Tryd.func91, Tryd.ntmps91
  go_wp2_with (go_at_call 65; refine (within_is h _).mono ?_; rintro e w' ⟨rfl, rfl⟩)
  go_ret
  exact ⟨rfl, rfl⟩
theorem isLoop_any (a b c : Int) (w : World) : Calls Tryd.prog 92 #[.agg #[.int .i64 a, .int .i64 b, .int .i64 c]] w fun e w' => e = .returned (.bool (isLoopB ⟨a, b, c⟩)) ∧ Below w.heap.size w w' := by
  have hb : Below w.heap.size w (w.alloc (.cells #[.int .i64 a, .int .i64 b, .int .i64 c] 64)) := (Below.refl _ _).alloc (Nat.le_refl _) _
  by_cases h1 : a = 3
  · have h2 : (a == 3) = true := by simpa using h1
    clear h1
    go_enter Tryd.func92, Tryd.ntmps92
    go_wp2_with fail
    go_ret
    exact ⟨ret_bool (by unfold isLoopB; dsimp only; rw [h2]; rfl), hb⟩
  · have h2 : (a == 3) = false := by simpa using h1
    clear h1
    go_enter Tryd.func92, Tryd.ntmps92
    go_wp2_with fail
    go_ret
    exact ⟨ret_bool (by unfold isLoopB; dsimp only; rw [h2]; rfl), hb⟩
set_option maxRecDepth 100000 in
set_option maxHeartbeats 8000000 in
theorem validLoops_any : ∀ (n : Nat) (A : Option Addr) (c : Nat) (rs : List R3) (d : Nat) (w : World), S3 w A n rs → n ≤ 1048576 → n ≤ c → d ≤ 7 →
    Calls Tryd.prog 64 #[.slice A n c, .int .i64 (d : Int)] w fun e w' => e = .returned (.bool (validLp rs d)) ∧ Below w.heap.size w w' := by
  intro n
  induction n using Nat.strongRecOn with
  | _ n ih =>
  intro A c rs d w hx hn hnc hd
  have HL := Lib.hid hx.len
  have IH : Hid (∀ (m : Nat) (A' : Option Addr) (c' : Nat) (us : List R3) (d1 : Nat) (w' : World), m < n → S3 w' A' m us → m ≤ c' → d1 ≤ 7 → Calls Tryd.prog 64 #[.slice A' m c', .int .i64 (d1 : Int)] w' fun e w'' => e = .returned (.bool (validLp us d1)) ∧ Below w'.heap.size w' w'') :=
    Lib.hid (fun m A' c' us d1 w' h1 h2 h3 h4 => ih m h1 A' c' us d1 w' h2 (by omega) h3 h4)
  have hsa : segL rs 0 n = rs := by rw [← HL.out]; exact segL_all rs
  clear ih
  go_enter Tryd.func64, Tryd.ntmps64
  go_wp2_with fail
  go_loopw [5] (fun s5 wr => ∃ t : Nat, t ≤ n ∧ s5 = .int .i64 (t : Int) ∧ Hid (validLp rs d = validLp (segL rs t n) d) ∧ Below w.heap.size w wr) (fun s5 _ => n - (intOf s5).toNat)
  case atStart => exact ⟨0, Nat.zero_le _, rfl, Lib.hid (by rw [hsa]), Below.refl _ _⟩
  case round =>
    obtain ⟨t, htj, rfl, HV, zr⟩ := hrel
    by_cases hlt : t < n
    rotate_left
    · have hl2 : ¬ (t : Int) < (n : Int) := by omega
      have HE : Hid (validLp rs d = true) := Lib.hid (by rw [HV.out, segL_nil (by omega), validLp_nil])
      go_wp2_with fail
      go_ret
      exact ⟨ret_bool HE.out.symm, zr⟩
    have hl2 : (t : Int) < (n : Int) := by omega
    obtain ⟨r, b, off, HR, hrm, rfl, hbl, q0, q1, q2⟩ := (hx.below zr).pick (k := t) hlt
    have HSC := Lib.hid (segL_cons hlt HR.out)
    clear hrm hsa
    obtain ⟨W1, hW_⟩ : ∃ W_, W_ = wr.alloc (.cells #[.int .i64 r.a, .int .i64 r.b, .int .i64 r.c] 64) := ⟨_, rfl⟩
    have b1 : Blk W1 wr.heap.size 64 #[.int .i64 r.a, .int .i64 r.b, .int .i64 r.c] := by rw [hW_]; exact Blk.new wr _ _
    have z1 : Below wr.heap.size wr W1 := by rw [hW_]; exact (Below.refl _ _).alloc (Nat.le_refl _) _
    have HW1 := Lib.hid hW_
    clear hW_
    have y1 := zr.trans (z1.mono zr.size)
    have i1 : (0 : Int) ≤ (t : Int) := by omega
    have x0 : W1.cell? ⟨wr.heap.size, 0, none⟩ = some (.int .i64 r.a) := b1.cell 0
    have x1 : W1.cell? ⟨wr.heap.size, 1, none⟩ = some (.int .i64 r.b) := b1.cell 1
    have x2 : W1.cell? ⟨wr.heap.size, 2, none⟩ = some (.int .i64 r.c) := b1.cell 2
    go_upto_region 5 with fail
    rw [← HW1.out]
    clear q0 q1 q2 i1
    cases hv : inB r.b 0 15 with
    | false =>
      have HF : Hid (validLp rs d = false) := Lib.hid (by rw [HV.out, HSC.out, validLp_var hv])
      have HVV := Lib.hid hv
      clear hv
      go_wp2_with (go_at_call 91; refine (isVariable_is HVV.out _).mono ?_; rintro e w' ⟨rfl, rfl⟩)
      go_ret
      exact ⟨ret_bool HF.out.symm, y1⟩
    | true =>
      have HVV := Lib.hid hv
      clear hv
      obtain ⟨t1, ht1⟩ : ∃ t1 : Nat, t1 = t + 1 := ⟨_, rfl⟩
      have HIL := Lib.hid (isLoop_any r.a r.b r.c W1)
      by_cases hf : r.a = 3 ∨ r.a = 4
      · have HLP := Lib.hid ((isLoopB_iff r).2 hf)
        rw [show isLoopB ⟨r.a, r.b, r.c⟩ = true from HLP.out] at HIL
        have HVL : Hid (validLp rs d = (decide (d < 7) && inB r.c 0 ((n : Int) - (t : Int) - 1) && validLp ((segL rs t1 n).take r.c.toNat) (d + 1) && validLp ((segL rs t1 n).drop r.c.toNat) d)) := Lib.hid (by
          rw [HV.out, HSC.out, validLp_loop HLP.out, HVV.out, ht1, segL_len (by rw [HL.out]; exact Nat.le_refl _)]
          rw [show ((n - (t + 1) : Nat) : Int) = (n : Int) - (t : Int) - 1 by omega]; rfl)
        clear hf
        go_wp2_with (go_at_call 91; refine (isVariable_is HVV.out _).mono ?_; rintro e w' ⟨rfl, rfl⟩)
        refine HIL.out.mono ?_
        rintro e W2 ⟨rfl, z2⟩
        have y2 := y1.trans (z2.mono y1.size)
        have b2 := b1.below' z2
        clear x0 x1 x2 HIL
        have x0 : W2.cell? ⟨wr.heap.size, 0, none⟩ = some (.int .i64 r.a) := b2.cell 0
        have x1 : W2.cell? ⟨wr.heap.size, 1, none⟩ = some (.int .i64 r.b) := b2.cell 1
        have x2 : W2.cell? ⟨wr.heap.size, 2, none⟩ = some (.int .i64 r.c) := b2.cell 2
        by_cases h7 : 7 ≤ d
        · have h7i : (7 : Int) ≤ (d : Int) := by omega
          have HF : Hid (validLp rs d = false) := Lib.hid (by rw [HVL.out, decide_eq_false (by omega)]; rfl)
          go_wp2_with fail
          go_ret
          exact ⟨ret_bool HF.out.symm, y2⟩
        have h7i : ¬ (7 : Int) ≤ (d : Int) := by omega
        have w1 : IntKind.i64.wrap ((n : Int) - (t : Int)) = (n : Int) - (t : Int) := IntWalk.i64_in _ (by omega)
        have w2 : IntKind.i64.wrap ((n : Int) - (t : Int) - 1) = (n : Int) - (t : Int) - 1 := IntWalk.i64_in _ (by omega)
        cases hin : inB r.c 0 ((n : Int) - (t : Int) - 1) with
        | false =>
          have HF : Hid (validLp rs d = false) := Lib.hid (by rw [HVL.out, hin, Bool.and_false]; rfl)
          have HIN := Lib.hid hin
          clear hin
          go_wp2_with (go_at_call 65; refine (within_is HIN.out _).mono ?_; rintro e w' ⟨rfl, rfl⟩)
          go_ret
          exact ⟨ret_bool HF.out.symm, y2⟩
        | true =>
          have HIN := Lib.hid hin
          have hc := (inB_iff _ _ _).1 hin
          obtain ⟨B, hB⟩ : ∃ B : Nat, r.c = (B : Int) := ⟨r.c.toNat, by omega⟩
          obtain ⟨e1, he1⟩ : ∃ e1 : Nat, e1 = t1 + B := ⟨_, rfl⟩
          obtain ⟨e0, he0⟩ : ∃ e0 : Nat, e0 = t + B := ⟨_, rfl⟩
          obtain ⟨d1, hd1'⟩ : ∃ d1 : Nat, d1 = d + 1 := ⟨_, rfl⟩
          have he1j : e1 ≤ n := by omega
          have HVB : Hid (validLp rs d = (validLp (segL rs t1 e1) d1 && validLp (segL rs e1 n) d)) := Lib.hid (by
            rw [HVL.out, hin, decide_eq_true (by omega), hB, Int.toNat_natCast, segL_take (by omega), segL_drop, he1, hd1']; rfl)
          have w3 : IntKind.i64.wrap ((t : Int) + 1) = (t1 : Int) := by rw [show ((t : Int) + 1) = (t1 : Int) by omega]; exact IntWalk.i64_in _ (by omega)
          have w4 : IntKind.i64.wrap ((t1 : Int) + r.c) = (e1 : Int) := by rw [show ((t1 : Int) + r.c) = (e1 : Int) by omega]; exact IntWalk.i64_in _ (by omega)
          have w5 : IntKind.i64.wrap ((d : Int) + 1) = (d1 : Int) := by rw [show ((d : Int) + 1) = (d1 : Int) by omega]; exact IntWalk.i64_in _ (by omega)
          have w6 : IntKind.i64.wrap ((t : Int) + r.c) = (e0 : Int) := by rw [show ((t : Int) + r.c) = (e0 : Int) by omega]; exact IntWalk.i64_in _ (by omega)
          have he01 : e0 + 1 = e1 ∧ t < e1 ∧ e0 < 1048576 := by omega
          have ht1e : t1 ≤ e1 := by omega
          have ht1n : e1 - t1 < n := by omega
          have hcap1 : ¬ (c : Int) < (e1 : Int) := by omega
          have hcap2 : ¬ (e1 : Int) < (t1 : Int) := by omega
          have hd1n : d1 ≤ 7 := by omega
          have HREC : Hid (∀ (A' : Option Addr) (c' : Nat), (t1 < e1 → A' = some ⟨b, off + t1 * 3, none⟩) → e1 - t1 ≤ c' → Calls Tryd.prog 64 #[.slice A' (e1 - t1) c', .int .i64 (d1 : Int)] W2 fun e w'' => e = .returned (.bool (validLp (segL rs t1 e1) d1)) ∧ Below W2.heap.size W2 w'') := Lib.hid (fun A' c' h1 h2 => IH.out (e1 - t1) A' c' (segL rs t1 e1) d1 W2 ht1n ((hx.below y2).cut ht1e he1j (fun h b' off' e => by cases e; exact h1 h)) h2 hd1n)
          clear hin hc hB he1 he0 hd1' ht1
          rcases Nat.lt_or_ge t1 c with hct | hct
          · have hct2 : (t1 : Int) < (c : Int) := by omega
            go_wp2_with (go_at_call 65; refine (within_is HIN.out _).mono ?_; rintro e w' ⟨rfl, rfl⟩)
            all_goals
              refine (HREC.out _ _ (fun h => by first | rfl | omega) (by omega)).mono ?_
              rintro e W3 ⟨rfl, z3⟩
              have y3 := y2.trans (z3.mono y2.size)
              have b3 := b2.below' z3
              clear x0 x1 x2 HREC
              have x0 : W3.cell? ⟨wr.heap.size, 0, none⟩ = some (.int .i64 r.a) := b3.cell 0
              have x1 : W3.cell? ⟨wr.heap.size, 1, none⟩ = some (.int .i64 r.b) := b3.cell 1
              have x2 : W3.cell? ⟨wr.heap.size, 2, none⟩ = some (.int .i64 r.c) := b3.cell 2
              cases hb : validLp (segL rs t1 e1) d1 with
              | false =>
                have HF : Hid (validLp rs d = false) := Lib.hid (by rw [HVB.out, hb]; rfl)
                clear hb
                go_wp2_with fail
                go_ret
                exact ⟨ret_bool HF.out.symm, y3⟩
              | true =>
                have HF : Hid (validLp rs d = validLp (segL rs e1 n) d) := Lib.hid (by rw [HVB.out, hb]; rfl)
                clear hb
                go_wp2_with fail
                exact ⟨⟨e1, by omega, by go_num, HF, y3⟩, by simp [intOf]; omega⟩
          · obtain rfl : c = t1 := by omega
            go_wp2_with (go_at_call 65; refine (within_is HIN.out _).mono ?_; rintro e w' ⟨rfl, rfl⟩)
            all_goals
              refine (HREC.out _ _ (fun h => by first | rfl | omega) (by omega)).mono ?_
              rintro e W3 ⟨rfl, z3⟩
              have y3 := y2.trans (z3.mono y2.size)
              have b3 := b2.below' z3
              clear x0 x1 x2 HREC
              have x0 : W3.cell? ⟨wr.heap.size, 0, none⟩ = some (.int .i64 r.a) := b3.cell 0
              have x1 : W3.cell? ⟨wr.heap.size, 1, none⟩ = some (.int .i64 r.b) := b3.cell 1
              have x2 : W3.cell? ⟨wr.heap.size, 2, none⟩ = some (.int .i64 r.c) := b3.cell 2
              cases hb : validLp (segL rs c e1) d1 with
              | false =>
                have HF : Hid (validLp rs d = false) := Lib.hid (by rw [HVB.out, hb]; rfl)
                clear hb
                go_wp2_with fail
                go_ret
                exact ⟨ret_bool HF.out.symm, y3⟩
              | true =>
                have HF : Hid (validLp rs d = validLp (segL rs e1 n) d) := Lib.hid (by rw [HVB.out, hb]; rfl)
                clear hb
                go_wp2_with fail
                exact ⟨⟨e1, by omega, by go_num, HF, y3⟩, by simp [intOf]; omega⟩
      · have HNL := Lib.hid (bool_false (isLoopB_iff r) hf)
        rw [show isLoopB ⟨r.a, r.b, r.c⟩ = false from HNL.out] at HIL
        have HVF : Hid (validLp rs d = (flatB r && validLp (segL rs t1 n) d)) := Lib.hid (by rw [HV.out, HSC.out, validLp_flat HNL.out, HVV.out, ht1]; rfl)
        have ht2 : t + 1 = t1 := ht1.symm
        clear ht1
        go_wp2_with (go_at_call 91; refine (isVariable_is HVV.out _).mono ?_; rintro e w' ⟨rfl, rfl⟩)
        refine HIL.out.mono ?_
        rintro e W2 ⟨rfl, z2⟩
        have y2 := y1.trans (z2.mono y1.size)
        have b2 := b1.below' z2
        clear x0 x1 x2 HIL
        have x0 : W2.cell? ⟨wr.heap.size, 0, none⟩ = some (.int .i64 r.a) := b2.cell 0
        have x1 : W2.cell? ⟨wr.heap.size, 1, none⟩ = some (.int .i64 r.b) := b2.cell 1
        have x2 : W2.cell? ⟨wr.heap.size, 2, none⟩ = some (.int .i64 r.c) := b2.cell 2
        by_cases h2 : r.a = 2
        · have hd0 : (r.a == 2) = true := by simpa using h2
          cases hc : inB r.c 0 15 with
          | false =>
            have HF : Hid (validLp rs d = false) := Lib.hid (by
              have : flatB r = false := bool_false (flatB_iff r) (fun h => by
                rw [← Bool.not_eq_true, inB_iff] at hc
                omega)
              rw [HVF.out, this]; rfl)
            have HCC := Lib.hid hc
            clear hc h2 hf
            go_wp2_with (go_at_call 91; refine (isVariable_is HCC.out _).mono ?_; rintro e w' ⟨rfl, rfl⟩)
            go_ret
            exact ⟨ret_bool HF.out.symm, y2⟩
          | true =>
            have HF : Hid (validLp rs d = validLp (segL rs t1 n) d) := Lib.hid (by
              have : flatB r = true := (flatB_iff r).2 (.inl ⟨h2, (inB_iff _ _ _).1 hc⟩)
              rw [HVF.out, this]; rfl)
            have HCC := Lib.hid hc
            clear hc h2 hf
            go_wp2_with (go_at_call 91; refine (isVariable_is HCC.out _).mono ?_; rintro e w' ⟨rfl, rfl⟩)
            exact ⟨⟨t1, by omega, by go_num, HF, y2⟩, by simp [intOf]; omega⟩
        · have hd0 : (r.a == 2) = false := by simpa using h2
          by_cases h01 : r.a = 0 ∨ r.a = 1
          · by_cases h0 : r.c = 0
            · have hd3 : (r.c != 0) = false := by simpa using h0
              have HF : Hid (validLp rs d = validLp (segL rs t1 n) d) := Lib.hid (by
                have : flatB r = true := (flatB_iff r).2 (.inr ⟨h01, h0⟩)
                rw [HVF.out, this]; rfl)
              rcases h01 with h3 | h3
              · have hd4 : (r.a != 0) = false := by simpa using h3
                clear h0 h2 hf h3
                go_wp2_with fail
                exact ⟨⟨t1, by omega, by go_num, HF, y2⟩, by simp [intOf]; omega⟩
              · have hd4 : (r.a != 0) = true := by simp; omega
                have hd5 : (r.a != 1) = false := by simpa using h3
                clear h0 h2 hf h3
                go_wp2_with fail
                exact ⟨⟨t1, by omega, by go_num, HF, y2⟩, by simp [intOf]; omega⟩
            · have hd3 : (r.c != 0) = true := by simpa using h0
              have HF : Hid (validLp rs d = false) := Lib.hid (by
                have : flatB r = false := bool_false (flatB_iff r) (by omega)
                rw [HVF.out, this]; rfl)
              rcases h01 with h3 | h3
              · have hd4 : (r.a != 0) = false := by simpa using h3
                clear h0 h2 hf h3
                go_wp2_with fail
                go_ret
                exact ⟨ret_bool HF.out.symm, y2⟩
              · have hd4 : (r.a != 0) = true := by simp; omega
                have hd5 : (r.a != 1) = false := by simpa using h3
                clear h0 h2 hf h3
                go_wp2_with fail
                go_ret
                exact ⟨ret_bool HF.out.symm, y2⟩
          · have hd4 : (r.a != 0) = true := by simp; omega
            have hd5 : (r.a != 1) = true := by simp; omega
            have HF : Hid (validLp rs d = false) := Lib.hid (by
              have : flatB r = false := bool_false (flatB_iff r) (by omega)
              rw [HVF.out, this]; rfl)
            clear h2 hf h01
            go_wp2_with fail
            go_ret
            exact ⟨ret_bool HF.out.symm, y2⟩
theorem validLoop_any (A : Option Addr) (n c : Nat) (rs : List R3) (w : World) (hx : S3 w A n rs) (hn : n ≤ 1048576) (hnc : n ≤ c) :
    Calls Tryd.prog 35 #[.slice A n c] w fun e w' => e = .returned (.bool (decide (rs.length ≤ 150) && validLp rs 0)) ∧ Below w.heap.size w w' := by
  have HPP := Lib.hid (validLoops_any n A c rs 0 w hx hn hnc (by omega))
  rw [hx.len]
  by_cases h : n ≤ 150
  · have h1 : (n : Int) ≤ 150 := by omega
    have hd : decide (n ≤ 150) = true := decide_eq_true h
    go_enter Tryd.func35, Tryd.ntmps35
    go_wp2_with fail
    refine HPP.out.mono ?_
    rintro e w' ⟨rfl, z⟩
    go_wp2_with fail
    go_ret
    exact ⟨ret_bool (by rw [hd]; rfl), z⟩
  · have h1 : ¬ (n : Int) ≤ 150 := by omega
    have hd : decide (n ≤ 150) = false := decide_eq_false h
    go_enter Tryd.func35, Tryd.ntmps35
    go_wp2_with fail
    go_ret
    exact ⟨ret_bool (by first | rfl | (rw [hd]; rfl)), Below.refl _ _⟩
end Go.Proofs.YtacajmgokdgbgaaDoor
