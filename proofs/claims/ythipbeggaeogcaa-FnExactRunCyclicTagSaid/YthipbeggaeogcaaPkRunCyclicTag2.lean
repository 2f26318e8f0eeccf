/-
  Contracts of impl's tag systems: tagCode, slices.Clone, tagRunOf, halts, slices.BinarySearch, step, StepTag.
-/
import Derived.Test.YthipbeggaeogcaaPkRunCyclicTag0
import Derived.Test.YthipbeggaeogcaaPkRunCyclicTag1
import Derived.Deep.RegionHeld3
import Derived.Deep.RegionLaw
import Derived.Deep.DeepCutAuto
namespace Go.Proofs.Ythipbeggaeogcaa
open Go.RowKit


set_option maxHeartbeats 1000000 in
theorem tagCode_any (d : Int) (A : Option Addr) (n c : Nat) (ts : List Sl) (B : Option Addr) (m k : Nat) (hs : List Int) (C : Option Addr) (l r : Nat) (xs : List Int) (w : World) (hx : SII w A n ts) (hy : SI w B m hs) (hz : SI w C l xs) (hn : n ≤ 1048576) (hm : m ≤ 1048576) (hl : l ≤ 1048576) (hns : ∀ t ∈ ts, t.xs.length ≤ 9223372036854775807) :
    Calls Try.prog 93 #[.agg #[.int .i64 d, .slice A n c, .slice B m k], .slice C l r] w fun e w' => e = .returned (.int .i64 (tagCodeF d (nums ts) hs xs)) ∧ Below w.heap.size w w' := by
  have HL : Hid ((nums ts).length = n) := by show _ = _; have := hx.len; simpa [nums] using this
  have hx1 := hx.alloc (.cells #[.int .i64 d, .slice A n c, .slice B m k] 51)
  have hy1 := hy.alloc (.cells #[.int .i64 d, .slice A n c, .slice B m k] 51)
  have hz1 := hz.alloc (.cells #[.int .i64 d, .slice A n c, .slice B m k] 51)
  go_enter Try.func93, Try.ntmps93
  go_wp2_with fail
  refine (validTag_any _ _ _ _ ts _ _ _ hs _ hx1 hy1 hn hm hns).mono ?_
  rintro e w2 ⟨rfl, hb2⟩
  have q2 : w2.cell? ⟨w.heap.size, 1, none⟩ = some (.slice A n c) := box_at hb2 1
  have hz2 : w.heap.size < w2.heap.size := by have := hb2.size; simp at this; omega
  have hzz := hz1.below hb2
  have hbb := below_box hb2
  cases hv : validTagB d (nums ts) hs
  · have HV := Lib.hid hv
    clear hv
    go_wp2_with fail
    go_ret
    exact ⟨ret_int (by unfold tagCodeF; rw [HV.out]; simp), hbb⟩
  · have HV := Lib.hid hv
    clear hv
    go_wp2_with (first
      | (go_at_call 96; refine (sizeII_any _ _ _ _ (by omega)).mono ?_; rintro e w' ⟨rfl, rfl⟩)
      | (go_at_call 147; refine (isTagWord_any _ _ _ _ _ _ hzz (by omega) (by omega) (by omega)).mono ?_; rintro e w' ⟨rfl, rfl⟩))
    all_goals go_ret
    · exact ⟨ret_int (by unfold tagCodeF; rw [HL.out, HV.out]; simp_all), hbb⟩
    · exact ⟨ret_int (by unfold tagCodeF; rw [HL.out, HV.out]; simp_all), hbb⟩

/-- A run of a tag system in memory: the block with the system's three cells and the queue's. -/
def RunAt (w : World) (g : Nat) (d : Int) (A : Option Addr) (n c : Nat) (B : Option Addr) (m k : Nat) (Q : Option Addr) (l r : Nat) : Prop :=
  w.heap[g]? = some (.cells #[.int .i64 d, .slice A n c, .slice B m k, .slice Q l r] 145 (0, 0))

def NewRun (w : World) (d : Int) (A : Option Addr) (n c : Nat) (B : Option Addr) (m k : Nat) (xs : List Int) (e : Ending) (w' : World) : Prop :=
  ∃ g Q r, e = .returned (.pointer (some ⟨g, 0, none⟩)) ∧ w.heap.size ≤ g ∧ RunAt w' g d A n c B m k Q xs.length r ∧ Own w' w.heap.size 2 1 Q xs.length r (ints xs) ∧ Below w.heap.size w w'

set_option maxHeartbeats 400000 in
theorem tagRunOf_any (d : Int) (A : Option Addr) (n c : Nat) (B : Option Addr) (m k : Nat) (C : Option Addr) (l r : Nat) (xs : List Int) (w : World) (hz : SI w C l xs) (hl : l ≤ 1048576) :
    Calls Try.prog 100 #[.agg #[.int .i64 d, .slice A n c, .slice B m k], .slice C l r] w (NewRun w d A n c B m k xs) := by
  have hz1 := hz.alloc (.cells #[.int .i64 d, .slice A n c, .slice B m k] 51)
  have q0 : (w.alloc (.cells #[.int .i64 d, .slice A n c, .slice B m k] 51)).cell? ⟨w.heap.size, 0, none⟩ = some (.int .i64 d) := box_at (Below.refl _ _) 0
  have q1 : (w.alloc (.cells #[.int .i64 d, .slice A n c, .slice B m k] 51)).cell? ⟨w.heap.size, 1, none⟩ = some (.slice A n c) := box_at (Below.refl _ _) 1
  have q2 : (w.alloc (.cells #[.int .i64 d, .slice A n c, .slice B m k] 51)).cell? ⟨w.heap.size, 2, none⟩ = some (.slice B m k) := box_at (Below.refl _ _) 2
  go_enter Try.func100, Try.ntmps100
  go_wp2_with fail
  obtain ⟨W, hW⟩ : ∃ W, W = w.alloc (.cells #[.int .i64 d, .slice A n c, .slice B m k] 51) := ⟨_, rfl⟩
  rw [← hW] at hz1 q0 q1 q2 ⊢
  have HW := Lib.hid hW
  clear hW
  have hWz : w.heap.size < W.heap.size := by rw [HW.out]; simp
  go_region_held3 (fun w' => w'.cell? ⟨w.heap.size, 0, none⟩ = some (.int .i64 d) ∧ w'.cell? ⟨w.heap.size, 1, none⟩ = some (.slice A n c) ∧ w'.cell? ⟨w.heap.size, 2, none⟩ = some (.slice B m k))
    (first
      | go_keep
      | (exact ⟨(hb.cell (p := ⟨w.heap.size, 0, none⟩) hWz).trans q0, (hb.cell (p := ⟨w.heap.size, 1, none⟩) hWz).trans q1, (hb.cell (p := ⟨w.heap.size, 2, none⟩) hWz).trans q2⟩))
    (first
      | (go_at_call 112; refine (cloneI_any _ _ _ xs _ (Rd.drewN hz1 1) hl).mono ?_; rintro e w' ⟨A2, c2, rfl, ho, hb⟩))
  go_wp2
  go_ret
  have hb0 : Below w.heap.size w w' := by
    have h1 : Below w.heap.size w W := by rw [HW.out]; exact (Below.refl _ _).alloc (Nat.le_refl _) _
    exact h1.trans ((below_drewN (Below.refl _ _) 1).trans (hb.mono (Nat.le_of_lt hWz)))
  have hwz : W.heap.size ≤ w'.heap.size := hb.size
  exact ⟨w'.heap.size, A2, c2, rfl, by omega, heap_alloc_new w' _, ((ho.mono (show w.heap.size ≤ W.heap.size by omega)).alloc _), hb0.alloc (by omega) _⟩

theorem runAt_cell {w : World} {g : Nat} {d : Int} {A : Option Addr} {n c : Nat} {B : Option Addr} {m k : Nat} {Q : Option Addr} {l r : Nat} (h : RunAt w g d A n c B m k Q l r) :
    w.cell? ⟨g, 0, none⟩ = some (.int .i64 d) ∧ w.cell? ⟨g, 1, none⟩ = some (.slice A n c) ∧ w.cell? ⟨g, 2, none⟩ = some (.slice B m k) ∧ w.cell? ⟨g, 3, none⟩ = some (.slice Q l r) :=
  ⟨cell_of_row w g 0 _ _ _ h, cell_of_row w g 1 _ _ _ h, cell_of_row w g 2 _ _ _ h, cell_of_row w g 3 _ _ _ h⟩

def lessB (a b : Int) : Bool := decide (a < b)
set_option maxHeartbeats 400000 in
theorem less_any (a b : Int) (w : World) : Calls Try.prog 215 #[.int .i64 a, .int .i64 b] w fun e w' => e = .returned (.bool (lessB a b)) ∧ w = w' := by
  go_enter Try.func215, Try.ntmps215
  go_wp2
  go_ret
  exact ⟨rfl, rfl⟩

theorem isNaN_any (a : Int) (w : World) : Calls Try.prog 216 #[.int .i64 a] w fun e w' => e = .returned (.bool false) ∧ w = w' := by
  go_enter Try.func216, Try.ntmps216
  go_wp2
  go_ret
  exact ⟨by simp, rfl⟩

/-- How many numbers are less: in a sorted list the place where a binary search ends. -/
def bsIdx (xs : List Int) (t : Int) : Nat := xs.countP (fun x => decide (x < t))
theorem bsIdx_eq {xs : List Int} {t : Int} {a : Nat} (ha : a ≤ xs.length) (h1 : ∀ j (h : j < xs.length), j < a → xs[j] < t) (h2 : ∀ j (h : j < xs.length), a ≤ j → t ≤ xs[j]) : bsIdx xs t = a := by
  unfold bsIdx
  have e1 : (xs.take a).countP (fun x => decide (x < t)) = a := by
    rw [List.countP_eq_length.2]
    · simp; omega
    · intro x hx
      obtain ⟨j, hj, rfl⟩ := List.getElem_of_mem hx
      simp at hj
      rw [List.getElem_take]; simpa using h1 j (by omega) (by omega)
  have e2 : (xs.drop a).countP (fun x => decide (x < t)) = 0 := by
    rw [List.countP_eq_zero]
    intro x hx
    obtain ⟨j, hj, rfl⟩ := List.getElem_of_mem hx
    simp at hj
    have := h2 (a + j) (by omega) (by omega)
    rw [List.getElem_drop]; simpa using this
  have e3 : xs.countP (fun x => decide (x < t)) = (xs.take a ++ xs.drop a).countP (fun x => decide (x < t)) := by rw [List.take_append_drop]
  rw [e3, List.countP_append, e1, e2]; omega
theorem bs_lo {xs : List Int} {t : Int} {a b : Nat} (hs : xs.Pairwise (· < ·)) (hl : (a + b) / 2 < xs.length) (h : xs[(a + b) / 2] < t) : ∀ j (hj : j < xs.length), j < (a + b) / 2 + 1 → xs[j] < t := by
  intro j hj h2
  by_cases e : j = (a + b) / 2
  · subst e; exact h
  · have := List.pairwise_iff_getElem.1 hs j ((a + b) / 2) hj hl (by omega)
    omega
theorem bs_hi {xs : List Int} {t : Int} {a b : Nat} (hs : xs.Pairwise (· < ·)) (hl : (a + b) / 2 < xs.length) (h : ¬ xs[(a + b) / 2] < t) : ∀ j (hj : j < xs.length), (a + b) / 2 ≤ j → t ≤ xs[j] := by
  intro j hj h2
  by_cases e : j = (a + b) / 2
  · subst e; omega
  · have := List.pairwise_iff_getElem.1 hs ((a + b) / 2) j hl hj (by omega)
    omega
theorem bs_in {xs : List Int} {t : Int} {a : Nat} (hs : xs.Pairwise (· < ·)) (h1 : ∀ j (h : j < xs.length), j < a → xs[j] < t) (h2 : ∀ j (h : j < xs.length), a ≤ j → t ≤ xs[j]) (ha : a < xs.length) : decide (t ∈ xs) = (xs[a] == t) := by
  by_cases e : xs[a] = t
  · have : t ∈ xs := e ▸ List.getElem_mem ha
    simp [this, e]
  · have : ¬ t ∈ xs := by
      intro hm
      obtain ⟨j, hj, rfl⟩ := List.getElem_of_mem hm
      rcases Nat.lt_trichotomy j a with h | h | h
      · have := h1 j hj h; omega
      · subst h; exact e rfl
      · have := List.pairwise_iff_getElem.1 hs a j ha hj h
        have := h2 a ha (Nat.le_refl _); omega
    simp [this, e]
theorem bs_out {xs : List Int} {t : Int} {a : Nat} (h1 : ∀ j (h : j < xs.length), j < a → xs[j] < t) (ha : xs.length ≤ a) : decide (t ∈ xs) = false := by
  rw [decide_eq_false_iff_not]
  intro hm
  obtain ⟨j, hj, rfl⟩ := List.getElem_of_mem hm
  have := h1 j hj (by omega); omega

set_option maxHeartbeats 400000 in
theorem binarySearchI_any (A : Option Addr) (n c : Nat) (xs : List Int) (t : Int) (w : World) (hx : SI w A n xs) (hn : n ≤ 1048576) (hs : Hid (xs.Pairwise (· < ·))) :
    Calls Try.prog 192 #[.slice A n c, .int .i64 t] w fun e w' => e = .returned (.tuple #[.int .i64 (bsIdx xs t), .bool (decide (t ∈ xs))]) ∧ w = w' := by
  go_enter Try.func192, Try.ntmps192
  go_wp2_with fail
  go_loop [7, 8, 9] (fun i j _ => ∃ a b : Nat, a ≤ b ∧ b ≤ n ∧ i = .int .i64 a ∧ j = .int .i64 b ∧ Hid ((∀ j (h : j < xs.length), j < a → xs[j] < t) ∧ (∀ j (h : j < xs.length), b ≤ j → t ≤ xs[j]))) (fun i j _ => (intOf j - intOf i).toNat)
  case atStart => exact ⟨0, n, by omega, by omega, rfl, rfl, fun _ _ h => absurd h (by omega), fun j h h2 => absurd h (by have := hx.len; omega)⟩
  case round =>
    obtain ⟨a, b, hab, hbn, rfl, rfl, he⟩ := hrel
    by_cases hlt : a < b
    · have hmn : (a + b) / 2 < n := by omega
      have HXL := Lib.hid hx.len
      obtain ⟨bb, off, rfl, _, hc⟩ := hx.at_ hmn
      by_cases hl : xs[(a + b) / 2]'(by have := HXL.out; omega) < t
      · have HS : Hid (lessB (xs[(a + b) / 2]'(by have := HXL.out; omega)) t = true) := by show _ = _; simpa [lessB] using hl
        have HB := Lib.hid (bs_lo hs.out (by have := HXL.out; omega) hl)
        clear hl
        go_wp2_with (go_at_call 215; refine (less_any _ _ _).mono ?_; rintro e w' ⟨rfl, rfl⟩; rw [HS.out])
        exact ⟨⟨(a + b) / 2 + 1, b, by omega, by omega, by go_num, rfl, HB.out, he.out.2⟩, by simp [intOf]; omega⟩
      · have HS : Hid (lessB (xs[(a + b) / 2]'(by have := HXL.out; omega)) t = false) := by show _ = _; simpa [lessB] using hl
        have HB := Lib.hid (bs_hi hs.out (by have := HXL.out; omega) hl)
        clear hl
        go_wp2_with (go_at_call 215; refine (less_any _ _ _).mono ?_; rintro e w' ⟨rfl, rfl⟩; rw [HS.out])
        exact ⟨⟨a, (a + b) / 2, by omega, by omega, rfl, by go_num, he.out.1, HB.out⟩, by simp [intOf]; omega⟩
    · obtain rfl : a = b := by omega
      by_cases han : a < n
      · have HXL := Lib.hid hx.len
        obtain ⟨bb, off, rfl, _, hc⟩ := hx.at_ han
        have HIN := Lib.hid (bs_in hs.out he.out.1 he.out.2 (by have := HXL.out; omega))
        cases hq : (xs[a]'(by have := HXL.out; omega) == t)
        · have HQ := Lib.hid hq
          go_wp2_with (go_at_call 216; refine (isNaN_any _ _).mono ?_; rintro e w' ⟨rfl, rfl⟩)
          go_ret2
          exact ⟨by rw [HIN.out, HQ.out, bsIdx_eq (by have := HXL.out; omega) he.out.1 he.out.2]; rfl, rfl⟩
        · have HQ := Lib.hid hq
          go_wp2_with (go_at_call 216; refine (isNaN_any _ _).mono ?_; rintro e w' ⟨rfl, rfl⟩)
          go_ret2
          exact ⟨by rw [HIN.out, HQ.out, bsIdx_eq (by have := HXL.out; omega) he.out.1 he.out.2]; rfl, rfl⟩
      · have HXL := Lib.hid hx.len
        have HIN := Lib.hid (bs_out he.out.1 (by have := HXL.out; omega))
        go_wp2_with fail
        go_ret2
        exact ⟨by rw [HIN.out, bsIdx_eq (by have := HXL.out; omega) he.out.1 he.out.2]; rfl, rfl⟩


set_option maxHeartbeats 1000000 in
theorem tagHalts_any (g : Nat) (d : Int) (A : Option Addr) (n c : Nat) (B : Option Addr) (m k : Nat) (hs : List Int) (Q : Option Addr) (l r : Nat) (xs : List Int) (w : World) (hr : RunAt w g d A n c B m k Q l r) (hy : SI w B m hs) (hz : SI w Q l xs)
    (hm : m ≤ 1048576) (hl : l ≤ 1048576) (hd : 1 ≤ d) (hri : Hid (hs.Pairwise (· < ·))) :
    Calls Try.prog 151 #[.pointer (some ⟨g, 0, none⟩)] w fun e w' => e = .returned (.bool (haltsB d hs xs)) ∧ ∃ q, w' = w.drewN q := by
  obtain ⟨c0, c1, c2, c3⟩ := runAt_cell hr
  have HL := Lib.hid hz.len
  by_cases hld : (l : Int) < d
  · go_enter Try.func151, Try.ntmps151
    go_wp2_with fail
    go_quiet ((go_at_call 104; exact quiet_left (sizeI_any _ _ _ _ (by omega))))
    go_wp2_with fail
    go_ret
    exact ⟨ret_bool (by unfold haltsB; rw [HL.out]; simp [hld]), _, rfl⟩
  · have hl0 : 0 < l := by omega
    obtain ⟨b, off, rfl, _, hc⟩ := hz.at0 hl0
    go_enter Try.func151, Try.ntmps151
    go_wp2_with fail
    go_quiet ((go_at_call 104; exact quiet_left (sizeI_any _ _ _ _ (by omega))))
    go_wp2_with fail
    have hy1 := hy.drewN nq
    go_quiet ((go_at_call 192; exact quiet_add_left (binarySearchI_any _ _ _ hs _ _ (hy.drewN _) (by omega) hri)))
    go_wp2_with fail
    go_ret
    exact ⟨ret_bool (by unfold haltsB; rw [HL.out]; simp; omega), _, World.drewN_drewN _ _ _⟩

theorem RunAt.blk_ne {w : World} {g : Nat} {d : Int} {A : Option Addr} {n c : Nat} {B : Option Addr} {m k : Nat} {Q : Option Addr} {l r : Nat} {lo s n' c' : Nat} {X : Option Addr} {cs : List Value} (h : RunAt w g d A n c B m k Q l r) (h' : Own w lo 2 s X n' c' cs) : blk X ≠ some g := by
  intro hb
  rcases h'.2 with ⟨rfl, _⟩ | ⟨b, off, cur, rfl, _, hg, _⟩
  · simp [blk] at hb
  · simp [blk] at hb; subst hb
    unfold RunAt at h
    rw [hg] at h
    simp at h

theorem RunAt.grown {w w' : World} {g : Nat} {d : Int} {A : Option Addr} {n c : Nat} {B : Option Addr} {m k : Nat} {Q : Option Addr} {l r : Nat} {row : Option Nat} (h : RunAt w g d A n c B m k Q l r) (hg : w.grownBy w' row) (hne : row ≠ some g) : RunAt w' g d A n c B m k Q l r :=
  (hg.block g (Array.getElem?_eq_some_iff.1 h).1 (Ne.symm hne)).trans h
theorem RunAt.frozen {w : World} {g : Nat} {d : Int} {A : Option Addr} {n c : Nat} {B : Option Addr} {m k : Nat} {Q : Option Addr} {l r : Nat} (h : RunAt w g d A n c B m k Q l r) (i : Nat) : w.frozen? ⟨g, i, none⟩ = false := by
  unfold RunAt at h; simp [World.frozen?, h]
theorem RunAt.set3 {w : World} {g : Nat} {d : Int} {A : Option Addr} {n c : Nat} {B : Option Addr} {m k : Nat} {Q : Option Addr} {l r : Nat} (h : RunAt w g d A n c B m k Q l r) (Q' : Option Addr) (l' r' : Nat) : RunAt (w.setCell ⟨g, 3, none⟩ (.slice Q' l' r')) g d A n c B m k Q' l' r' := by
  have := heap_setCell_same w g 3 _ _ (.slice Q' l' r') h
  exact this

def StepPost (w0 : World) (g : Nat) (d : Int) (A : Option Addr) (n c : Nat) (B : Option Addr) (m k : Nat) (xs word : List Int) (e : Ending) (w' : World) : Prop :=
  ∃ Q r, e = .returned (.bool (decide ((xs ++ word).length ≤ 1000))) ∧ RunAt w' g d A n c B m k Q ((xs ++ word).drop d.toNat).length r ∧ Own w' w0.heap.size 2 1 Q ((xs ++ word).drop d.toNat).length r (ints ((xs ++ word).drop d.toNat)) ∧ Below w0.heap.size w0 w'

set_option maxHeartbeats 2000000 in
theorem tagStep_any (w0 : World) (g : Nat) (d : Int) (A : Option Addr) (n c : Nat) (ts : List Sl) (B : Option Addr) (m k : Nat) (Q : Option Addr) (l r x0 : Nat) (xs : List Int) (t : Sl) (w : World) (hx : SII w0 A n ts) (hb0 : Below w0.heap.size w0 w) (hg : w0.heap.size ≤ g)
    (hr : RunAt w g d A n c B m k Q l r) (hQ : Own w w0.heap.size 2 1 Q l r (ints xs)) (hl : l ≤ 1048576) (hd : 1 ≤ d) (hdl : d ≤ l) (h0 : Hid (xs.headD 0 = (x0 : Int))) (hT : Hid (ts[x0]? = some t)) (hx0 : x0 < n) (htl : t.xs.length ≤ 1048576) :
    Calls Try.prog 152 #[.pointer (some ⟨g, 0, none⟩)] w (StepPost w0 g d A n c B m k xs t.xs) := by
  obtain ⟨k0, k1, k2, k3⟩ := runAt_cell hr
  have hl0 : 0 < l := by omega
  obtain ⟨b, off, rfl, hbl, hc⟩ := SI.at0 (xs := xs) hQ.rd hl0
  rw [h0.out] at hc
  obtain ⟨t', b', off', hT', htm, rfl, hbl', hc', hrow⟩ := (hx.below hb0).pick hx0
  obtain rfl : t = t' := by have h1 := hT.out; have h2 := hT'.out; rw [h1] at h2; simpa using h2
  clear hT'
  have i1 : (0 : Int) ≤ (x0 : Int) := by omega
  have i2 : (x0 : Int) < (n : Int) := by omega
  have i3 : (0 : Int) < (l : Int) := by omega
  have hb1 : b' < w0.heap.size := by
    obtain ⟨_, b1, o1, _, _, he, h, _⟩ := hx.pick hx0
    simp only [Option.some.injEq, Addr.mk.injEq, and_true] at he
    omega
  have hbb' : b' ≠ b := by have := hQ.blk_ge b rfl; omega
  have gne := hr.blk_ne hQ
  have HG := Lib.hid gne
  clear gne
  have gz : g < w.heap.size := (Array.getElem?_eq_some_iff.1 hr).1
  go_enter Try.func152, Try.ntmps152
  go_upto_region 1 with fail
  go_cut [2] (fun s2 wx => s2 = .bool false ∧ ∃ A2 c2, RunAt wx g d (some ⟨b', off', none⟩) n c B m k A2 (l + t.xs.length) c2 ∧ Own wx w0.heap.size 2 1 A2 (l + t.xs.length) c2 (ints (xs ++ t.xs)) ∧ Below w0.heap.size w0 wx)
  case first =>
    go_region_law
      ((refine step_append_Own rfl (.tmp 8) (.tmp 21) rfl elI (lo := w0.heap.size) rfl (by exact hQ.drewN _) rfl (by exact hrow.drewN _) (ints_one t.xs) (by omega) (by simp only [maxLen]; omega) (by exact hb0.size) ?_; intro A2 c2 w2 ho2 hg2 hwh2
        have hr2 : RunAt w2 g d (some ⟨b', off', none⟩) n c B m k (some ⟨b, off, none⟩) l r := RunAt.grown (w := w.drewN 1) hr hg2 HG.out
        have e3 := (runAt_cell hr2).2.2.2
        have f3 := hr2.frozen 3))
    all_goals
      go_wp2_with fail
      go_meet
      refine ⟨rfl, A2, c2, hr2.set3 A2 (l + t.xs.length) c2, ?_, ?_⟩
      · rw [← ints_append]
        exact ho2.far (p := ⟨g, 3, none⟩) (hr2.blk_ne ho2) _
      · have hb2 : Below w0.heap.size w0 w2 := (hQ.drewN 1).below_of (below_drewN hb0 1) hg2 hb0.size
        exact hb2.setCell (p := ⟨g, 3, none⟩) hg _
  case rest =>
    obtain ⟨rfl, A2, c2, hr3, ho3, hb3⟩ := hcut
    obtain ⟨m0, m1, m2, m3⟩ := runAt_cell hr3
    have f3 := hr3.frozen 3
    clear k0 k1 k2 k3
    obtain ⟨dn, rfl⟩ := Int.eq_ofNat_of_zero_le (show 0 ≤ d by omega)
    have hdn : dn ≤ l + t.xs.length := by omega
    have hcap := ho3.le
    go_wp2_with fail
    go_region
    have ho4 := ho3.from_ hdn
    rw [ints_drop] at ho4
    generalize hA3 : (if c2 = dn then A2 else Option.map (fun x => x.add dn) A2) = A3 at *
    clear hA3
    have hr4 := hr3.set3 A3 (l + t.xs.length - dn) (c2 - dn)
    have ho5 := ho4.far (p := ⟨g, 3, none⟩) (hr3.blk_ne ho4) (.slice A3 (l + t.xs.length - dn) (c2 - dn))
    have hb5 := (hb3.setCell (p := ⟨g, 3, none⟩) hg (.slice A3 (l + t.xs.length - dn) (c2 - dn))).drew
    have HXL : Hid (xs.length = l) := by have := hQ.1; rw [length_ints] at this; show _ = _; omega
    have e1 : ((xs ++ t.xs).drop dn).length = l + t.xs.length - dn := by rw [List.length_drop, List.length_append, HXL.out]
    have E1 := Lib.hid e1
    clear e1
    go_wp2_with fail
    go_ret
    refine ⟨A3, c2 - dn, ret_bool ?_, ?_, ?_, hb5⟩
    · rw [List.length_append, HXL.out, decide_eq_decide]; omega
    · rw [Int.toNat_natCast, E1.out]; exact hr4
    · rw [Int.toNat_natCast, E1.out]; exact ho5

end Go.Proofs.Ythipbeggaeogcaa

/-
  What StepTag returns, in plain words.
-/
namespace Go.Proofs.Ythipbeggaeogcaa
open Go.RowKit

/-- What a step of a tag system comes to. -/
def stepTagF (d : Int) (words : List (List Int)) (halting xs : List Int) : List Int × Int :=
  if tagCodeF d words halting xs ≠ 0 then ([], tagCodeF d words halting xs)
  else if haltsB d halting xs then ([], 6)
  else if (xs ++ words.getD (xs.headD 0).toNat []).length ≤ 1000 then ((xs ++ words.getD (xs.headD 0).toNat []).drop d.toNat, 0)
  else ([], 5)

theorem tagCode_parts {d : Int} {words : List (List Int)} {hs xs : List Int} (h : tagCodeF d words hs xs = 0) :
    1 ≤ d ∧ d ≤ 4 ∧ hs.Pairwise (· < ·) ∧ xs.length ≤ 1000 ∧ (∀ x ∈ xs, 0 ≤ x ∧ x < words.length) ∧ 1 ≤ words.length ∧ words.length ≤ 200 ∧ (∀ v ∈ words, v.length ≤ 1000) := by
  unfold tagCodeF at h
  split at h
  · rename_i hv
    simp only [Bool.and_eq_true, validTagB, tagWordB, wordsB, allIn, List.all_eq_true, inB_iff, decide_eq_true_eq, risesB] at hv
    obtain ⟨⟨⟨⟨⟨h1, h2⟩, h3⟩, h4⟩, h5⟩, h6, h7⟩ := hv
    exact ⟨h1.1, h1.2, h4, h6, fun x hx => by have := h7 x hx; omega, by omega, by omega, fun v hv => (h3 v hv).1⟩
  · cases h
theorem tagCode_01 (d : Int) (words : List (List Int)) (hs xs : List Int) : tagCodeF d words hs xs = 0 ∨ tagCodeF d words hs xs = 1 := by
  unfold tagCodeF; split <;> simp
theorem stepTag_bad {d : Int} {words : List (List Int)} {hs xs : List Int} (h : tagCodeF d words hs xs = 1) : stepTagF d words hs xs = ([], 1) := by
  unfold stepTagF; rw [h]; simp
theorem stepTag_halts {d : Int} {words : List (List Int)} {hs xs : List Int} (h : tagCodeF d words hs xs = 0) (h1 : haltsB d hs xs = true) : stepTagF d words hs xs = ([], 6) := by
  unfold stepTagF; rw [h, h1]; simp
theorem stepTag_steps {d : Int} {words : List (List Int)} {hs xs word : List Int} (h : tagCodeF d words hs xs = 0) (h1 : haltsB d hs xs = false) (hw : words.getD (xs.headD 0).toNat [] = word) :
    stepTagF d words hs xs = if (xs ++ word).length ≤ 1000 then ((xs ++ word).drop d.toNat, 0) else ([], 5) := by
  unfold stepTagF; rw [h, h1, hw]; simp
theorem head_letter {xs : List Int} {n : Nat} (h0 : 0 < xs.length) (h : ∀ x ∈ xs, 0 ≤ x ∧ x < (n : Int)) : ∃ x0 : Nat, x0 < n ∧ xs.headD 0 = (x0 : Int) := by
  rcases xs with _ | ⟨x, r⟩
  · simp at h0
  · have := h x (by simp)
    exact ⟨x.toNat, by omega, by simp; omega⟩
theorem haltsB_false {d : Int} {hs xs : List Int} (h : haltsB d hs xs = false) : d ≤ xs.length := by
  unfold haltsB at h; simp at h; omega

end Go.Proofs.Ythipbeggaeogcaa

/-
  Systems that make steps: runs, how they end. No program is in sight.
-/
namespace Go.Proofs.Ythipbeggaeogcaa

/-- A system: whether it halts, the next state, whether there is room for the step. -/
structure Sys (σ : Type) where
  halt : σ → Bool
  next : σ → σ
  room : σ → Bool
section
variable {σ : Type} (s : Sys σ)
def Sys.it (c : σ) : Nat → σ
  | 0 => c
  | i + 1 => s.next (Sys.it c i)
def Sys.Alive (c : σ) (i : Nat) : Prop := ∀ j, j < i → s.halt (s.it c j) = false ∧ s.room (s.it c j) = true
def Sys.Ended (c : σ) (N i : Nat) : Prop := i ≤ N ∧ s.Alive c i ∧ (i = N ∨ s.halt (s.it c i) = true)
def Sys.Full (c : σ) (N i : Nat) : Prop := i < N ∧ s.Alive c i ∧ s.halt (s.it c i) = false ∧ s.room (s.it c i) = false
def Sys.run : Nat → σ → Option Nat
  | 0, _ => some 0
  | N + 1, c => if s.halt c then some 0 else if s.room c then (Sys.run N (s.next c)).map (· + 1) else none
end
section
variable {σ : Type} {s : Sys σ} {c : σ} {i N : Nat}
theorem Sys.Alive.zero (s : Sys σ) (c : σ) : s.Alive c 0 := fun j h => absurd h (Nat.not_lt_zero j)
theorem Sys.Alive.step (h : s.Alive c i) (h1 : s.halt (s.it c i) = false) (h2 : s.room (s.it c i) = true) : s.Alive c (i + 1) := fun j hj => by
  by_cases e : j = i
  · subst e; exact ⟨h1, h2⟩
  · exact h j (by omega)
theorem Sys.it_shift (s : Sys σ) (c : σ) (i : Nat) : s.it (s.next c) i = s.it c (i + 1) := by
  induction i with
  | zero => rfl
  | succ i ih => show s.next (s.it (s.next c) i) = s.next (s.it c (i + 1)); rw [ih]
theorem Sys.it_add (s : Sys σ) (c : σ) (a b : Nat) : s.it (s.it c a) b = s.it c (a + b) := by
  induction b with
  | zero => rfl
  | succ b ih => show s.next (s.it (s.it c a) b) = s.next (s.it c (a + b)); rw [ih]
theorem Sys.Alive.shift (h : s.Alive c (i + 1)) : s.Alive (s.next c) i := fun j hj => by
  rw [Sys.it_shift]; exact h (j + 1) (by omega)
theorem Sys.Alive.cons (h1 : s.halt c = false) (h2 : s.room c = true) (h : s.Alive (s.next c) i) : s.Alive c (i + 1) := fun j hj => by
  cases j with
  | zero => exact ⟨h1, h2⟩
  | succ j => have h3 := h j (by omega); rw [Sys.it_shift] at h3; exact h3
theorem Sys.run_ended : ∀ {N : Nat} {c : σ} {i : Nat}, s.Ended c N i → s.run N c = some i := by
  intro N
  induction N with
  | zero =>
    rintro c i ⟨h1, _, _⟩
    obtain rfl : i = 0 := by omega
    rfl
  | succ N ih =>
    rintro c i ⟨h1, h2, h3⟩
    cases i with
    | zero =>
      rcases h3 with h3 | h3
      · cases h3
      · have h4 : s.halt c = true := h3
        unfold Sys.run; rw [if_pos h4]
    | succ i =>
      have h4 : s.halt c = false ∧ s.room c = true := h2 0 (by omega)
      have h5 := ih (c := s.next c) (i := i) ⟨by omega, h2.shift, by
        rcases h3 with h3 | h3
        · left; omega
        · right; rw [Sys.it_shift]; exact h3⟩
      unfold Sys.run
      rw [if_neg (by simp [h4.1]), if_pos h4.2, h5]; rfl
theorem Sys.run_full : ∀ {N : Nat} {c : σ} {i : Nat}, s.Full c N i → s.run N c = none := by
  intro N
  induction N with
  | zero => rintro c i ⟨h1, _⟩; omega
  | succ N ih =>
    rintro c i ⟨h1, h2, h3, h4⟩
    cases i with
    | zero =>
      have h5 : s.halt c = false := h3
      have h6 : s.room c = false := h4
      unfold Sys.run; rw [if_neg (by simp [h5]), if_neg (by simp [h6])]
    | succ i =>
      have h5 : s.halt c = false ∧ s.room c = true := h2 0 (by omega)
      have h6 := ih (c := s.next c) (i := i) ⟨by omega, h2.shift, by rw [Sys.it_shift]; exact h3, by rw [Sys.it_shift]; exact h4⟩
      unfold Sys.run
      rw [if_neg (by simp [h5.1]), if_pos h5.2, h6]; rfl
theorem Sys.run_alive : ∀ {N : Nat} {c : σ} {i : Nat}, s.run N c = some i → s.Alive c i := by
  intro N
  induction N with
  | zero => intro c i h; unfold Sys.run at h; cases h; exact Sys.Alive.zero _ _
  | succ N ih =>
    intro c i h
    unfold Sys.run at h
    split at h
    · cases h; exact Sys.Alive.zero _ _
    · rename_i h1
      split at h
      · rename_i h2
        cases h3 : s.run N (s.next c) with
        | none => rw [h3] at h; cases h
        | some j =>
          rw [h3] at h
          obtain rfl : j + 1 = i := by simpa using h
          exact (ih h3).cons (by simpa using h1) h2
      · cases h
end
end Go.Proofs.Ythipbeggaeogcaa

/-
  A tag system as a system that makes steps. No program is in sight.
-/
namespace Go.Proofs.Ythipbeggaeogcaa
open Go.RowKit

def tagWordOf (words : List (List Int)) (xs : List Int) : List Int := words.getD (xs.headD 0).toNat []
def tagSys (d : Int) (words : List (List Int)) (hs : List Int) : Sys (List Int) := ⟨haltsB d hs, fun xs => (xs ++ tagWordOf words xs).drop d.toNat, fun xs => decide ((xs ++ tagWordOf words xs).length ≤ 1000)⟩
theorem tagCode_zero {d : Int} {words : List (List Int)} {hs xs : List Int} : tagCodeF d words hs xs = 0 ↔ validTagB d words hs = true ∧ tagWordB xs words.length = true := by
  unfold tagCodeF
  split
  · rename_i h; simp only [Bool.and_eq_true] at h; simp [h]
  · rename_i h; simp only [Bool.and_eq_true] at h; constructor
    · intro h1; cases h1
    · intro h1; exact absurd h1 h
theorem tagNext_good {d : Int} {words : List (List Int)} {hs xs : List Int} (h : tagCodeF d words hs xs = 0) (hr : (tagSys d words hs).room xs = true) : tagCodeF d words hs ((tagSys d words hs).next xs) = 0 := by
  rw [tagCode_zero] at h ⊢
  obtain ⟨h1, h2⟩ := h
  refine ⟨h1, ?_⟩
  have hl : (xs ++ tagWordOf words xs).length ≤ 1000 := by simpa [tagSys] using hr
  show tagWordB ((xs ++ tagWordOf words xs).drop d.toNat) words.length = true
  unfold tagWordB allIn at h2 ⊢
  simp only [Bool.and_eq_true, decide_eq_true_eq, List.all_eq_true] at h2 ⊢
  refine ⟨by rw [List.length_drop]; omega, fun x hx => ?_⟩
  rcases List.mem_append.1 (List.mem_of_mem_drop hx) with hx | hx
  · exact h2.2 x hx
  · unfold tagWordOf at hx
    have hw : ∀ v ∈ words, tagWordB v words.length = true := by
      unfold validTagB wordsB at h1
      simp only [Bool.and_eq_true, List.all_eq_true] at h1
      exact h1.1.1.2
    by_cases hlt : (xs.headD 0).toNat < words.length
    · rw [List.getD_eq_getElem?_getD, List.getElem?_eq_getElem hlt] at hx
      have h3 := hw _ (List.getElem_mem hlt)
      unfold tagWordB allIn at h3
      simp only [Bool.and_eq_true, List.all_eq_true] at h3
      exact h3.2 x hx
    · rw [List.getD_eq_getElem?_getD, List.getElem?_eq_none (by omega)] at hx
      simp at hx
theorem tagAlive_good {d : Int} {words : List (List Int)} {hs xs : List Int} (h : tagCodeF d words hs xs = 0) : ∀ {i : Nat}, (tagSys d words hs).Alive xs i → tagCodeF d words hs ((tagSys d words hs).it xs i) = 0 := by
  intro i
  induction i with
  | zero => intro _; exact h
  | succ i ih => intro ha; exact tagNext_good (ih (fun j hj => ha j (by omega))) (ha i (by omega)).2
/-- What RunTag returns. -/
def runTagF (d : Int) (words : List (List Int)) (hs xs : List Int) (b : Int) : List Int × Int × Bool × Int :=
  if tagCodeF d words hs xs = 0 then
    if inB b 1 20000 then
      match (tagSys d words hs).run b.toNat xs with
      | some i => ((tagSys d words hs).it xs i, (i : Int), haltsB d hs ((tagSys d words hs).it xs i), 0)
      | none => ([], 0, false, 5)
    else ([], 0, false, 2)
  else ([], 0, false, 1)
end Go.Proofs.Ythipbeggaeogcaa

/-
  A cyclic tag system as a system that makes steps. No program is in sight.
-/
namespace Go.Proofs.Ythipbeggaeogcaa
open Go.RowKit

/-- A turn: the place in the words, the queue. -/
structure Tu where
  at_ : Int
  word : List Int
def validCyclB (words : List (List Int)) : Bool := inB words.length 1 400 && wordsB words 2
def validTurnB (words : List (List Int)) (x : Tu) : Bool := validCyclB words && inB x.at_ 0 ((words.length : Int) - 1) && tagWordB x.word 2
def cycWord (words : List (List Int)) (x : Tu) : List Int := if x.word.headD 0 = 1 then words.getD x.at_.toNat [] else []
def cycNext (words : List (List Int)) (x : Tu) : Tu := ⟨(x.at_ + 1).tmod words.length, x.word.tail ++ cycWord words x⟩
/-- Cyclic tag systems halt where the queue is empty. -/
def cycSys (words : List (List Int)) : Sys Tu := ⟨fun x => decide (x.word.length = 0), cycNext words, fun x => decide ((cycNext words x).word.length ≤ 1000)⟩

theorem validTurn_parts {words : List (List Int)} {x : Tu} (h : validTurnB words x = true) : 1 ≤ words.length ∧ words.length ≤ 400 ∧ (∀ v ∈ words, v.length ≤ 1000) ∧ 0 ≤ x.at_ ∧ x.at_ < words.length ∧ x.word.length ≤ 1000 ∧ (∀ y ∈ x.word, 0 ≤ y ∧ y < 2) := by
  unfold validTurnB validCyclB wordsB tagWordB allIn at h
  simp only [Bool.and_eq_true, List.all_eq_true, inB_iff, decide_eq_true_eq] at h
  obtain ⟨⟨⟨h1, h2⟩, h3⟩, h4, h5⟩ := h
  exact ⟨by omega, by omega, fun v hv => (h2 v hv).1, h3.1, by omega, h4, fun y hy => by have := h5 y hy; omega⟩
theorem cycNext_good {words : List (List Int)} {x : Tu} (h : validTurnB words x = true) (hr : (cycSys words).room x = true) : validTurnB words (cycNext words x) = true := by
  obtain ⟨h1, h2, h3, h4, h5, h6, h7⟩ := validTurn_parts h
  have hl : (cycNext words x).word.length ≤ 1000 := by simpa [cycSys] using hr
  unfold validTurnB at h ⊢
  simp only [Bool.and_eq_true] at h ⊢
  obtain ⟨⟨hc, ha⟩, hw⟩ := h
  refine ⟨⟨hc, ?_⟩, ?_⟩
  · rw [inB_iff]
    have h8 := Int.tmod_nonneg (words.length : Int) (show 0 ≤ x.at_ + 1 by omega)
    have h9 := Int.tmod_lt_of_pos (x.at_ + 1) (show (0 : Int) < words.length by omega)
    show 0 ≤ (x.at_ + 1).tmod words.length ∧ (x.at_ + 1).tmod words.length ≤ _
    omega
  · unfold tagWordB allIn at hw ⊢
    simp only [Bool.and_eq_true, decide_eq_true_eq, List.all_eq_true] at hw ⊢
    refine ⟨hl, fun y hy => ?_⟩
    rcases List.mem_append.1 hy with hy | hy
    · exact hw.2 y (List.mem_of_mem_tail hy)
    · unfold cycWord at hy
      split at hy
      · unfold validCyclB wordsB at hc
        simp only [Bool.and_eq_true, List.all_eq_true] at hc
        have hlt : x.at_.toNat < words.length := by omega
        rw [List.getD_eq_getElem?_getD, List.getElem?_eq_getElem hlt] at hy
        have h10 := hc.2 _ (List.getElem_mem hlt)
        unfold tagWordB allIn at h10
        simp only [Bool.and_eq_true, List.all_eq_true] at h10
        exact h10.2 y hy
      · simp at hy
theorem cycAlive_good {words : List (List Int)} {x : Tu} (h : validTurnB words x = true) : ∀ {i : Nat}, (cycSys words).Alive x i → validTurnB words ((cycSys words).it x i) = true := by
  intro i
  induction i with
  | zero => intro _; exact h
  | succ i ih => intro ha; exact cycNext_good (ih (fun j hj => ha j (by omega))) (ha i (by omega)).2
/-- What RunCyclic returns. -/
def runCycF (words : List (List Int)) (x : Tu) (b : Int) : Tu × Int × Bool × Int :=
  if validTurnB words x then
    if inB b 1 20000 then
      match (cycSys words).run b.toNat x with
      | some i => ((cycSys words).it x i, (i : Int), decide (((cycSys words).it x i).word.length = 0), 0)
      | none => (⟨0, []⟩, 0, false, 5)
    else (⟨0, []⟩, 0, false, 2)
  else (⟨0, []⟩, 0, false, 1)
end Go.Proofs.Ythipbeggaeogcaa

/-
  The cyclic tag system of a tag system comes to the same words. No program is in sight.
-/
namespace Go.Proofs.Ythipbeggaeogcaa
open Go.RowKit

/-- The code of a letter: n digits, one of them 1. -/
def unitL (n x : Nat) : List Int := (List.range n).map fun k => if k = x then 1 else 0
def codesL (n : Nat) (w : List Int) : List Int := w.flatMap fun y => unitL n y.toNat
def cycWords (d : Nat) (words : List (List Int)) : List (List Int) := words.map (codesL words.length) ++ List.replicate (words.length * (d - 1)) []
theorem unitL_len (n x : Nat) : (unitL n x).length = n := by simp [unitL]
theorem codesL_len (n : Nat) (w : List Int) : (codesL n w).length = w.length * n := by
  induction w with
  | nil => simp [codesL]
  | cons y r ih => unfold codesL at ih ⊢; rw [List.flatMap_cons, List.length_append, ih, unitL_len, List.length_cons, Nat.succ_mul]; omega
theorem codesL_cons (n : Nat) (y : Int) (r : List Int) : codesL n (y :: r) = unitL n y.toNat ++ codesL n r := by simp [codesL]
theorem codesL_append (n : Nat) (a b : List Int) : codesL n (a ++ b) = codesL n a ++ codesL n b := by simp [codesL]
theorem codesL_drop (n : Nat) : ∀ (m : Nat) (w : List Int), m ≤ w.length → (codesL n w).drop (m * n) = codesL n (w.drop m) := by
  intro m
  induction m with
  | zero => intro w _; simp
  | succ m ih =>
    intro w h
    cases w with
    | nil => simp at h
    | cons y r =>
      rw [codesL_cons, List.drop_succ_cons, Nat.succ_mul, Nat.add_comm, ← List.drop_drop, List.drop_left' (unitL_len n _)]
      exact ih r (by simpa using h)
theorem cycWords_len {d : Nat} (hd : 1 ≤ d) (words : List (List Int)) : (cycWords d words).length = words.length * d := by
  obtain ⟨e, rfl⟩ : ∃ e, d = e + 1 := ⟨d - 1, by omega⟩
  simp [cycWords, Nat.mul_succ]; omega
theorem unit_step {n x k : Nat} (hk : k < n) : (unitL n x).drop k = (if k = x then 1 else 0) :: (unitL n x).drop (k + 1) := by
  rw [List.drop_eq_getElem_cons (by rw [unitL_len]; exact hk)]
  simp [unitL]
section
variable {d : Nat} {words : List (List Int)} {xs v : List Int} {x0 : Nat}
/-- The first n steps: the letter is read, its word's code is laid at the end. -/
theorem cyc_phase1 (hd : 1 ≤ d) {y0 : Int} {ys : List Int} (hy : y0 = (x0 : Int)) (hx0 : x0 < words.length) (hv : words[x0]? = some v) : ∀ k, k ≤ words.length →
    ((cycSys (cycWords d words)).it ⟨0, codesL words.length (y0 :: ys)⟩ k).word = (unitL words.length x0).drop k ++ codesL words.length ys ++ (if x0 < k then codesL words.length v else []) ∧
    (k < words.length * d → ((cycSys (cycWords d words)).it ⟨0, codesL words.length (y0 :: ys)⟩ k).at_ = (k : Int)) := by
  have hlen := cycWords_len hd words
  have hnd : words.length ≤ words.length * d := Nat.le_mul_of_pos_right _ hd
  intro k
  induction k with
  | zero => intro _; rw [Sys.it, codesL_cons, hy]; simp
  | succ k ih =>
    intro hk
    obtain ⟨h1, h2⟩ := ih (by omega)
    have h3 := h2 (by omega)
    have hnx : (cycSys (cycWords d words)).it ⟨0, codesL words.length (y0 :: ys)⟩ (k + 1) = cycNext (cycWords d words) ((cycSys (cycWords d words)).it ⟨0, codesL words.length (y0 :: ys)⟩ k) := rfl
    rw [hnx]
    clear hnx
    generalize (cycSys (cycWords d words)).it ⟨0, codesL words.length (y0 :: ys)⟩ k = z at *
    rw [unit_step (by omega), List.cons_append, List.cons_append] at h1
    obtain ⟨za, zw⟩ := z
    dsimp only at h1 h3
    subst h1
    subst h3
    have hg : (cycWords d words).getD (k : Int).toNat [] = codesL words.length (words.getD k []) := by
      unfold cycWords
      rw [Int.toNat_natCast, List.getD_eq_getElem?_getD, List.getElem?_append_left (by simp; omega), List.getElem?_map, List.getD_eq_getElem?_getD, List.getElem?_eq_getElem (show k < words.length by omega)]
      simp
    refine ⟨?_, fun hlt => ?_⟩
    · show ((unitL words.length x0).drop (k + 1) ++ codesL words.length ys ++ (if x0 < k then codesL words.length v else [])) ++ (if (if k = x0 then (1 : Int) else 0) = 1 then (cycWords d words).getD (k : Int).toNat [] else []) = _
      rw [hg]
      by_cases hkx : k = x0
      · subst hkx
        have hgv : words.getD k [] = v := by rw [List.getD_eq_getElem?_getD, hv]; rfl
        rw [hgv]
        simp
      · by_cases h4 : x0 < k
        · have h5 : x0 < k + 1 := by omega
          simp [hkx, h4, h5]
        · have h5 : ¬ x0 < k + 1 := by omega
          simp [hkx, h4, h5]
    · show ((k : Int) + 1).tmod (cycWords d words).length = _
      rw [hlen, Int.tmod_eq_emod_of_nonneg (by omega), Int.emod_eq_of_lt (by omega) (by omega)]; omega
/-- The steps behind: digits go, and nothing comes. -/
theorem cyc_phase2 (hd : 1 ≤ d) (q : List Int) (a : Nat) (ha : words.length ≤ a) : ∀ j, a + j ≤ words.length * d →
    ((cycSys (cycWords d words)).it ⟨(a : Int), q⟩ j).word = q.drop j ∧ (a + j < words.length * d → ((cycSys (cycWords d words)).it ⟨(a : Int), q⟩ j).at_ = ((a + j : Nat) : Int)) ∧ (a + j = words.length * d → 1 ≤ j → ((cycSys (cycWords d words)).it ⟨(a : Int), q⟩ j).at_ = 0) := by
  have hlen := cycWords_len hd words
  intro j
  induction j with
  | zero => intro _; refine ⟨by simp [Sys.it], fun _ => by simp [Sys.it], fun _ h => by omega⟩
  | succ j ih =>
    intro hj
    obtain ⟨h1, h2, _⟩ := ih (by omega)
    have h3 := h2 (by omega)
    generalize hz : (cycSys (cycWords d words)).it ⟨(a : Int), q⟩ j = z at *
    have hnx : (cycSys (cycWords d words)).it ⟨(a : Int), q⟩ (j + 1) = cycNext (cycWords d words) z := by rw [Sys.it, hz]; rfl
    rw [hnx]
    have hg : (cycWords d words).getD z.at_.toNat [] = [] := by
      rw [h3, Int.toNat_natCast]
      unfold cycWords
      rw [List.getD_eq_getElem?_getD, List.getElem?_append_right (by simp; omega)]
      cases hq : (List.replicate (words.length * (d - 1)) ([] : List Int))[a + j - (words.map (codesL words.length)).length]? with
      | none => rfl
      | some w =>
        have := List.mem_of_getElem? hq
        simp only [List.mem_replicate] at this
        rw [this.2]; rfl
    have hat : (cycNext (cycWords d words) z).at_ = (z.at_ + 1).tmod (cycWords d words).length := rfl
    refine ⟨?_, fun hlt => ?_, fun he _ => ?_⟩
    · unfold cycNext cycWord
      rw [hg, h1]
      simp
    · rw [hat, h3, hlen, Int.tmod_eq_emod_of_nonneg (by omega), Int.emod_eq_of_lt (by omega) (by omega)]; omega
    · rw [hat, h3, hlen, Int.tmod_eq_emod_of_nonneg (by omega), show ((a + j : Nat) : Int) + 1 = ((words.length * d : Nat) : Int) from by omega, Int.emod_self]
/-- A step of the tag system, as the cyclic one makes it. -/
theorem cyc_step (hd : 1 ≤ d) {y0 : Int} {ys : List Int} (hy : y0 = (x0 : Int)) (hx0 : x0 < words.length) (hv : words[x0]? = some v) (hl : d ≤ (y0 :: ys).length) :
    (cycSys (cycWords d words)).it ⟨0, codesL words.length (y0 :: ys)⟩ (words.length * d) = ⟨0, codesL words.length (((y0 :: ys) ++ v).drop d)⟩ ∧
    ∀ k, k < words.length * d → ((cycSys (cycWords d words)).it ⟨0, codesL words.length (y0 :: ys)⟩ k).word.length ≠ 0 := by
  obtain ⟨e, rfl⟩ : ∃ e, d = e + 1 := ⟨d - 1, by omega⟩
  have hn : 1 ≤ words.length := by omega
  have p1 := cyc_phase1 (d := e + 1) (ys := ys) hd hy hx0 hv
  have hfull : words.length * (e + 1) = words.length + words.length * e := by rw [Nat.mul_succ]; omega
  obtain ⟨q1, q2⟩ := p1 words.length (Nat.le_refl _)
  rw [List.drop_of_length_le (by rw [unitL_len]; exact Nat.le_refl _), if_pos hx0, List.nil_append, ← codesL_append] at q1
  have hlen2 : (codesL words.length (ys ++ v)).length = (ys ++ v).length * words.length := codesL_len _ _
  have hye : e ≤ ys.length := by simp at hl; omega
  have hge : words.length * e ≤ (codesL words.length (ys ++ v)).length := by
    rw [hlen2, Nat.mul_comm]; exact Nat.mul_le_mul_right _ (by rw [List.length_append]; omega)
  have hdrop : ((y0 :: ys) ++ v).drop (e + 1) = (ys ++ v).drop e := rfl
  have hcd : (codesL words.length (ys ++ v)).drop (words.length * e) = codesL words.length ((ys ++ v).drop e) := by
    rw [Nat.mul_comm]; exact codesL_drop _ _ _ (by rw [List.length_append]; omega)
  rw [hdrop]
  by_cases he : e = 0
  · subst he
    have h0 : ((cycSys (cycWords (0 + 1) words)).it ⟨0, codesL words.length (y0 :: ys)⟩ words.length).at_ = 0 := by
      obtain ⟨m, hm⟩ : ∃ m, words.length = m + 1 := ⟨words.length - 1, by omega⟩
      have h1 := (p1 m (by omega)).2 (by rw [hm]; omega)
      have hlen := cycWords_len hd words
      have h3 : ((cycSys (cycWords (0 + 1) words)).it ⟨0, codesL words.length (y0 :: ys)⟩ (m + 1)).at_ = (((cycSys (cycWords (0 + 1) words)).it ⟨0, codesL words.length (y0 :: ys)⟩ m).at_ + 1).tmod (cycWords (0 + 1) words).length := rfl
      have h4 : ∀ t, t = m + 1 → ((cycSys (cycWords (0 + 1) words)).it ⟨0, codesL words.length (y0 :: ys)⟩ t).at_ = 0 := by
        rintro t rfl
        rw [h3, h1, hlen, Int.tmod_eq_emod_of_nonneg (by omega), show (m : Int) + 1 = ((words.length * (0 + 1) : Nat) : Int) from by rw [hm]; omega, Int.emod_self]
      exact h4 _ hm
    refine ⟨?_, fun k hk => ?_⟩
    · rw [show words.length * (0 + 1) = words.length from by omega]
      generalize (cycSys (cycWords (0 + 1) words)).it ⟨0, codesL words.length (y0 :: ys)⟩ words.length = z at *
      obtain ⟨za, zw⟩ := z
      dsimp only at q1 h0
      rw [q1, h0]; rfl
    · rw [(p1 k (by omega)).1, List.length_append, List.length_append, List.length_drop, unitL_len]; omega
  · have hmul : words.length ≤ words.length * e := Nat.le_mul_of_pos_right _ (by omega)
    have q3 := q2 (by omega)
    have hst : (cycSys (cycWords (e + 1) words)).it ⟨0, codesL words.length (y0 :: ys)⟩ words.length = ⟨(words.length : Int), codesL words.length (ys ++ v)⟩ := by
      generalize (cycSys (cycWords (e + 1) words)).it ⟨0, codesL words.length (y0 :: ys)⟩ words.length = z at *
      obtain ⟨za, zw⟩ := z
      dsimp only at q1 q3
      rw [q1, q3]
    have p2 := cyc_phase2 (d := e + 1) hd (codesL words.length (ys ++ v)) words.length (Nat.le_refl _)
    refine ⟨?_, fun k hk => ?_⟩
    · rw [hfull, ← Sys.it_add, hst]
      obtain ⟨r1, _, r3⟩ := p2 (words.length * e) (by omega)
      have r4 := r3 (by omega) (by omega)
      rw [hcd] at r1
      generalize (cycSys (cycWords (e + 1) words)).it ⟨(words.length : Int), codesL words.length (ys ++ v)⟩ (words.length * e) = z at *
      obtain ⟨za, zw⟩ := z
      dsimp only at r1 r4
      rw [r1, r4]
    · by_cases hkn : k ≤ words.length
      · rw [(p1 k hkn).1]
        rw [List.length_append, List.length_append, List.length_drop, unitL_len, codesL_len]
        by_cases h5 : k < words.length
        · omega
        · have h6 : 1 * words.length ≤ ys.length * words.length := Nat.mul_le_mul_right _ (by omega)
          omega
      · obtain ⟨j, rfl⟩ : ∃ j, k = words.length + j := ⟨k - words.length, by omega⟩
        rw [← Sys.it_add, hst, (p2 j (by omega)).1, List.length_drop]
        omega
end
/-- Many steps. -/
theorem cyc_steps {d : Nat} (hd : 1 ≤ d) {words : List (List Int)} {hs xs : List Int} (hc : tagCodeF (d : Int) words hs xs = 0) : ∀ i, (∀ j, j < i → (tagSys (d : Int) words hs).halt ((tagSys (d : Int) words hs).it xs j) = false ∧ (tagSys (d : Int) words hs).room ((tagSys (d : Int) words hs).it xs j) = true) →
    (cycSys (cycWords d words)).it ⟨0, codesL words.length xs⟩ (i * (words.length * d)) = ⟨0, codesL words.length ((tagSys (d : Int) words hs).it xs i)⟩ ∧
    ∀ k, k < i * (words.length * d) → ((cycSys (cycWords d words)).it ⟨0, codesL words.length xs⟩ k).word.length ≠ 0 := by
  intro i
  induction i with
  | zero => intro _; exact ⟨by rw [Nat.zero_mul]; rfl, fun k hk => by omega⟩
  | succ i ih =>
    intro hal
    obtain ⟨h1, h2⟩ := ih (fun j hj => hal j (by omega))
    have hg := tagAlive_good hc (i := i) (fun j hj => hal j (by omega))
    obtain ⟨hh, _⟩ := hal i (by omega)
    have hdl : (d : Int) ≤ ((tagSys (d : Int) words hs).it xs i).length := haltsB_false hh
    have hlet := (tagCode_parts hg).2.2.2.2.1
    have hnx : (tagSys (d : Int) words hs).it xs (i + 1) = ((tagSys (d : Int) words hs).it xs i ++ tagWordOf words ((tagSys (d : Int) words hs).it xs i)).drop d := rfl
    rw [hnx]
    generalize hz : (tagSys (d : Int) words hs).it xs i = z at *
    cases z with
    | nil => simp at hdl; omega
    | cons y0 ys =>
      obtain ⟨hy1, hy2⟩ := hlet y0 (by simp)
      obtain ⟨x0, rfl⟩ : ∃ x0 : Nat, y0 = (x0 : Int) := ⟨y0.toNat, by omega⟩
      have hx0 : x0 < words.length := by omega
      have hv : words[x0]? = some words[x0] := List.getElem?_eq_getElem hx0
      have hw : tagWordOf words ((x0 : Int) :: ys) = words[x0] := by unfold tagWordOf; simp [List.getD_eq_getElem?_getD, hv]
      obtain ⟨s1, s2⟩ := cyc_step hd (ys := ys) (rfl : (x0 : Int) = (x0 : Int)) hx0 hv (by simp at hdl ⊢; omega)
      rw [hw]
      refine ⟨?_, fun k hk => ?_⟩
      · rw [Nat.succ_mul, ← Sys.it_add, h1, s1]
      · by_cases hlt : k < i * (words.length * d)
        · exact h2 k hlt
        · obtain ⟨j, rfl⟩ : ∃ j, k = i * (words.length * d) + j := ⟨k - i * (words.length * d), by omega⟩
          rw [← Sys.it_add, h1]
          exact s2 j (by rw [Nat.succ_mul] at hk; omega)
end Go.Proofs.Ythipbeggaeogcaa

/-
  Frames: a set X of blocks that stay as they are.
-/
namespace Go.Proofs.Ythipbeggaeogcaa
open Go.RowKit

/-- The blocks of X are in w' as in w. -/
structure Fr (X : Nat → Prop) (w w' : World) : Prop where
  size : w.heap.size ≤ w'.heap.size
  same : ∀ b, X b → b < w.heap.size → w'.heap[b]? = w.heap[b]?
section
variable {X : Nat → Prop} {w w1 w2 : World}
theorem Fr.refl (X : Nat → Prop) (w : World) : Fr X w w := ⟨Nat.le_refl _, fun _ _ _ => rfl⟩
theorem Fr.trans (h : Fr X w w1) (k : Fr X w1 w2) : Fr X w w2 := ⟨Nat.le_trans h.size k.size, fun b hb hlt => (k.same b hb (by have := h.size; omega)).trans (h.same b hb hlt)⟩
theorem Fr.of_below (z : Below w.heap.size w w1) : Fr X w w1 := ⟨z.size, fun b _ hlt => z.block b hlt⟩
theorem Fr.below (h : Fr X w w1) (z : Below w1.heap.size w1 w2) : Fr X w w2 := h.trans (Fr.of_below z)
theorem Fr.drewN (h : Fr X w w1) (q : Nat) : Fr X w (w1.drewN q) := ⟨h.size, h.same⟩
theorem Fr.set_ (h : Fr X w w1) {p : Addr} (hp : ¬ X p.block) (u : Value) : Fr X w (w1.setCell p u) :=
  ⟨by simpa [World.setCell] using h.size, fun b hb hlt => (Below.heap_setCell w1 p u b (fun e => hp (e ▸ hb))).trans (h.same b hb hlt)⟩
theorem Fr.grown {row : Option Nat} (h : Fr X w w1) (hg : w1.grownBy w2 row) (hr : ∀ b, row = some b → ¬ X b) : Fr X w w2 :=
  ⟨Nat.le_trans h.size hg.size, fun b hb hlt => (hg.block b (by have := h.size; omega) (fun e => hr b e.symm hb)).trans (h.same b hb hlt)⟩
end
theorem Own.fr {X : Nat → Prop} {w w' : World} {A : Option Addr} {n c s lo : Nat} {e : TypeId} {cs : List Value} (h : Own w lo e s A n c cs) (hf : Fr X w w') (hX : ∀ b, blk A = some b → X b) : Own w' lo e s A n c cs :=
  h.kept (fun b hb _ hlt => hf.same b (hX b hb) hlt)
theorem Blk.fr {X : Nat → Prop} {w w' : World} {g : Nat} {t : TypeId} {cs : Array Value} (h : Blk w g t cs) (hf : Fr X w w') (hX : X g) : Blk w' g t cs := (hf.same g hX h.lt).trans h
end Go.Proofs.Ythipbeggaeogcaa

/-
  A step of impl's tagRun beside blocks that stay as they are; its word.
-/
namespace Go.Proofs.Ythipbeggaeogcaa
open Go.RowKit

def StepXT (X : Nat → Prop) (w w0 : World) (g : Nat) (d : Int) (A : Option Addr) (n c : Nat) (B : Option Addr) (m k : Nat) (xs word : List Int) (e : Ending) (w' : World) : Prop :=
  ∃ Q r, e = .returned (.bool (decide ((xs ++ word).length ≤ 1000))) ∧ RunAt w' g d A n c B m k Q ((xs ++ word).drop d.toNat).length r ∧ Own w' w0.heap.size 2 1 Q ((xs ++ word).drop d.toNat).length r (ints ((xs ++ word).drop d.toNat)) ∧ (∀ b, blk Q = some b → ¬ X b) ∧ Below w0.heap.size w0 w' ∧ Fr X w w'
theorem blk_from (A : Option Addr) (c k : Nat) : blk (if c = k then A else A.map (fun x => x.add k)) = blk A := by
  unfold blk
  split
  · rfl
  · cases A with
    | none => rfl
    | some a =>
      simp only [Option.map_some]
      congr 1
      unfold Addr.add
      split <;> rfl

set_option maxHeartbeats 2000000 in
theorem tagStep_x (X : Nat → Prop) (w0 : World) (g : Nat) (d : Int) (A : Option Addr) (n c : Nat) (ts : List Sl) (B : Option Addr) (m k : Nat) (Q : Option Addr) (l r x0 : Nat) (xs : List Int) (t : Sl) (w : World) (hx : SII w0 A n ts) (hb0 : Below w0.heap.size w0 w) (hg : w0.heap.size ≤ g)
    (hr : RunAt w g d A n c B m k Q l r) (hQ : Own w w0.heap.size 2 1 Q l r (ints xs)) (hXg : Hid (¬ X g)) (hXQ : Hid (∀ b, blk Q = some b → ¬ X b)) (hXt : Hid (∀ b, X b → b < w.heap.size)) (hl : l ≤ 1048576) (hd : 1 ≤ d) (hdl : d ≤ l) (h0 : Hid (xs.headD 0 = (x0 : Int))) (hT : Hid (ts[x0]? = some t)) (hx0 : x0 < n) (htl : t.xs.length ≤ 1048576) :
    Calls Try.prog 152 #[.pointer (some ⟨g, 0, none⟩)] w (StepXT X w w0 g d A n c B m k xs t.xs) := by
  obtain ⟨k0, k1, k2, k3⟩ := runAt_cell hr
  have hl0 : 0 < l := by omega
  obtain ⟨b, off, rfl, hbl, hc⟩ := SI.at0 (xs := xs) hQ.rd hl0
  rw [h0.out] at hc
  obtain ⟨t', b', off', hT', htm, rfl, hbl', hc', hrow⟩ := (hx.below hb0).pick hx0
  obtain rfl : t = t' := by have h1 := hT.out; have h2 := hT'.out; rw [h1] at h2; simpa using h2
  clear hT'
  have i1 : (0 : Int) ≤ (x0 : Int) := by omega
  have i2 : (x0 : Int) < (n : Int) := by omega
  have i3 : (0 : Int) < (l : Int) := by omega
  have hb1 : b' < w0.heap.size := by
    obtain ⟨_, b1, o1, _, _, he, h, _⟩ := hx.pick hx0
    simp only [Option.some.injEq, Addr.mk.injEq, and_true] at he
    omega
  have hbb' : b' ≠ b := by have := hQ.blk_ge b rfl; omega
  have gne := hr.blk_ne hQ
  have HG := Lib.hid gne
  clear gne
  have gz : g < w.heap.size := (Array.getElem?_eq_some_iff.1 hr).1
  go_enter Try.func152, Try.ntmps152
  go_upto_region 1 with fail
  go_cut [2] (fun s2 wx => s2 = .bool false ∧ ∃ A2 c2, RunAt wx g d (some ⟨b', off', none⟩) n c B m k A2 (l + t.xs.length) c2 ∧ Own wx w0.heap.size 2 1 A2 (l + t.xs.length) c2 (ints (xs ++ t.xs)) ∧ Hid (∀ b, blk A2 = some b → ¬ X b) ∧ Below w0.heap.size w0 wx ∧ Fr X w wx)
  case first =>
    go_region_law
      ((refine step_append_Own rfl (.tmp 8) (.tmp 21) rfl elI (lo := w0.heap.size) rfl (by exact hQ.drewN _) rfl (by exact hrow.drewN _) (ints_one t.xs) (by omega) (by simp only [maxLen]; omega) (by exact hb0.size) ?_; intro A2 c2 w2 ho2 hg2 hwh2
        have hr2 : RunAt w2 g d (some ⟨b', off', none⟩) n c B m k (some ⟨b, off, none⟩) l r := RunAt.grown (w := w.drewN 1) hr hg2 HG.out
        have e3 := (runAt_cell hr2).2.2.2
        have f3 := hr2.frozen 3))
    all_goals
      go_wp2_with fail
      go_meet
      refine ⟨rfl, A2, c2, hr2.set3 A2 (l + t.xs.length) c2, ?_, ?_, ?_, ?_⟩
      · rw [← ints_append]
        exact ho2.far (p := ⟨g, 3, none⟩) (hr2.blk_ne ho2) _
      · show ∀ b2, blk A2 = some b2 → ¬ X b2
        intro b2 hb2 hX2
        rcases hwh2.1 with h | h
        · rw [h] at hb2; exact hXQ.out b2 hb2 hX2
        · rw [h] at hb2
          have h9 := hXt.out b2 hX2
          simp at hb2
          omega
      · have hb2 : Below w0.heap.size w0 w2 := (hQ.drewN 1).below_of (below_drewN hb0 1) hg2 hb0.size
        exact hb2.setCell (p := ⟨g, 3, none⟩) hg _
      · exact ((((Fr.refl X w).drewN 1).grown hg2 hXQ.out)).set_ (p := ⟨g, 3, none⟩) hXg.out _
  case rest =>
    obtain ⟨rfl, A2, c2, hr3, ho3, hXA, hb3, hf3⟩ := hcut
    obtain ⟨m0, m1, m2, m3⟩ := runAt_cell hr3
    have f3 := hr3.frozen 3
    clear k0 k1 k2 k3
    obtain ⟨dn, rfl⟩ := Int.eq_ofNat_of_zero_le (show 0 ≤ d by omega)
    have hdn : dn ≤ l + t.xs.length := by omega
    have hcap := ho3.le
    have hbk := Lib.hid (blk_from A2 c2 dn)
    go_wp2_with fail
    go_region
    have ho4 := ho3.from_ hdn
    rw [ints_drop] at ho4
    generalize hA3 : (if c2 = dn then A2 else Option.map (fun x => x.add dn) A2) = A3 at *
    clear hA3
    have hr4 := hr3.set3 A3 (l + t.xs.length - dn) (c2 - dn)
    have ho5 := ho4.far (p := ⟨g, 3, none⟩) (hr3.blk_ne ho4) (.slice A3 (l + t.xs.length - dn) (c2 - dn))
    have hb5 := (hb3.setCell (p := ⟨g, 3, none⟩) hg (.slice A3 (l + t.xs.length - dn) (c2 - dn))).drew
    have hf5 := (hf3.set_ (p := ⟨g, 3, none⟩) hXg.out (.slice A3 (l + t.xs.length - dn) (c2 - dn))).drewN 1
    have HXL : Hid (xs.length = l) := by have := hQ.1; rw [length_ints] at this; show _ = _; omega
    have e1 : ((xs ++ t.xs).drop dn).length = l + t.xs.length - dn := by rw [List.length_drop, List.length_append, HXL.out]
    have E1 := Lib.hid e1
    clear e1
    go_wp2_with fail
    go_ret
    refine ⟨A3, c2 - dn, ret_bool ?_, ?_, ?_, ?_, hb5, hf5⟩
    · rw [List.length_append, HXL.out, decide_eq_decide]; omega
    · rw [Int.toNat_natCast, E1.out]; exact hr4
    · rw [Int.toNat_natCast, E1.out]; exact ho5
    · intro b2 hb2; rw [hbk.out] at hb2; exact hXA.out b2 hb2

theorem tagWord_any (g : Nat) (d : Int) (A : Option Addr) (n c : Nat) (B : Option Addr) (m k : Nat) (Q : Option Addr) (l r : Nat) (w : World) (hr : RunAt w g d A n c B m k Q l r) :
    Calls Try.prog 246 #[.pointer (some ⟨g, 0, none⟩)] w fun e w' => e = .returned (.slice Q l r) ∧ w = w' := by
  obtain ⟨k0, k1, k2, k3⟩ := runAt_cell hr
  go_enter Try.func246, Try.ntmps246
  go_wp2
  go_ret
  exact ⟨rfl, rfl⟩
end Go.Proofs.Ythipbeggaeogcaa
