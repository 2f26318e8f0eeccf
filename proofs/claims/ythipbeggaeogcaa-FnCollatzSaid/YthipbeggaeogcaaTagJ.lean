/-
  Contracts of impl's tag systems: tagCode, slices.Clone, tagRunOf, halts, slices.BinarySearch, step, StepTag.
-/
import Derived.Test.YthipbeggaeogcaaTagI
import Derived.Deep.RegionHeld3
import Derived.Deep.RegionLaw
import Derived.Deep.DeepCutAuto
namespace Go.Proofs.Ythipbeggaeogcaa
open Go.RowKit


set_option maxHeartbeats 1000000 in
theorem tagCode_any (d : Int) (A : Option Addr) (n c : Nat) (ts : List Sl) (B : Option Addr) (m k : Nat) (hs : List Int) (C : Option Addr) (l r : Nat) (xs : List Int) (w : World) (hx : SII w A n ts) (hy : SI w B m hs) (hz : SI w C l xs) (hn : n ≤ 1048576) (hm : m ≤ 1048576) (hl : l ≤ 1048576) (hns : ∀ t ∈ ts, t.xs.length ≤ 9223372036854775807) :
    Calls Try.prog 93 #[.agg #[.int .i64 d, .slice A n c, .slice B m k], .slice C l r] w fun e w' => e = .returned (.int .i64 (tagCodeF d (nums ts) hs xs)) ∧ Below w.heap.size w w' := by
  have HL : Hid ((nums ts).length = n) := by show _ = _; have := hx.len; simpa [nums] using this
  have hx1 := hx.alloc (.cells #[.int .i64 d, .slice A n c, .slice B m k] 51)
  have hy1 := hy.alloc (.cells #[.int .i64 d, .slice A n c, .slice B m k] 51)
  have hz1 := hz.alloc (.cells #[.int .i64 d, .slice A n c, .slice B m k] 51)
  go_enter Try.func93, Try.ntmps93
  go_wp2_with fail
  refine (validTag_any _ _ _ _ ts _ _ _ hs _ hx1 hy1 hn hm hns).mono ?_
  rintro e w2 ⟨rfl, hb2⟩
  have q2 : w2.cell? ⟨w.heap.size, 1, none⟩ = some (.slice A n c) := box_at hb2 1
  have hz2 : w.heap.size < w2.heap.size := by have := hb2.size; simp at this; omega
  have hzz := hz1.below hb2
  have hbb := below_box hb2
  cases hv : validTagB d (nums ts) hs
  · have HV := Lib.hid hv
    clear hv
    go_wp2_with fail
    go_ret
    exact ⟨ret_int (by unfold tagCodeF; rw [HV.out]; simp), hbb⟩
  · have HV := Lib.hid hv
    clear hv
    go_wp2_with (first
      | (go_at_call 96; refine (sizeII_any _ _ _ _ (by omega)).mono ?_; rintro e w' ⟨rfl, rfl⟩)
      | (go_at_call 147; refine (isTagWord_any _ _ _ _ _ _ hzz (by omega) (by omega) (by omega)).mono ?_; rintro e w' ⟨rfl, rfl⟩))
    all_goals go_ret
    · exact ⟨ret_int (by unfold tagCodeF; rw [HL.out, HV.out]; simp_all), hbb⟩
    · exact ⟨ret_int (by unfold tagCodeF; rw [HL.out, HV.out]; simp_all), hbb⟩

/-- A run of a tag system in memory: the block with the system's three cells and the queue's. -/
def RunAt (w : World) (g : Nat) (d : Int) (A : Option Addr) (n c : Nat) (B : Option Addr) (m k : Nat) (Q : Option Addr) (l r : Nat) : Prop :=
  w.heap[g]? = some (.cells #[.int .i64 d, .slice A n c, .slice B m k, .slice Q l r] 145 (0, 0))

def NewRun (w : World) (d : Int) (A : Option Addr) (n c : Nat) (B : Option Addr) (m k : Nat) (xs : List Int) (e : Ending) (w' : World) : Prop :=
  ∃ g Q r, e = .returned (.pointer (some ⟨g, 0, none⟩)) ∧ w.heap.size ≤ g ∧ RunAt w' g d A n c B m k Q xs.length r ∧ Own w' w.heap.size 2 1 Q xs.length r (ints xs) ∧ Below w.heap.size w w'

set_option maxHeartbeats 400000 in
theorem tagRunOf_any (d : Int) (A : Option Addr) (n c : Nat) (B : Option Addr) (m k : Nat) (C : Option Addr) (l r : Nat) (xs : List Int) (w : World) (hz : SI w C l xs) (hl : l ≤ 1048576) :
    Calls Try.prog 100 #[.agg #[.int .i64 d, .slice A n c, .slice B m k], .slice C l r] w (NewRun w d A n c B m k xs) := by
  have hz1 := hz.alloc (.cells #[.int .i64 d, .slice A n c, .slice B m k] 51)
  have q0 : (w.alloc (.cells #[.int .i64 d, .slice A n c, .slice B m k] 51)).cell? ⟨w.heap.size, 0, none⟩ = some (.int .i64 d) := box_at (Below.refl _ _) 0
  have q1 : (w.alloc (.cells #[.int .i64 d, .slice A n c, .slice B m k] 51)).cell? ⟨w.heap.size, 1, none⟩ = some (.slice A n c) := box_at (Below.refl _ _) 1
  have q2 : (w.alloc (.cells #[.int .i64 d, .slice A n c, .slice B m k] 51)).cell? ⟨w.heap.size, 2, none⟩ = some (.slice B m k) := box_at (Below.refl _ _) 2
  go_enter Try.func100, Try.ntmps100
  go_wp2_with fail
  obtain ⟨W, hW⟩ : ∃ W, W = w.alloc (.cells #[.int .i64 d, .slice A n c, .slice B m k] 51) := ⟨_, rfl⟩
  rw [← hW] at hz1 q0 q1 q2 ⊢
  have HW := Lib.hid hW
  clear hW
  have hWz : w.heap.size < W.heap.size := by rw [HW.out]; simp
  go_region_held3 (fun w' => w'.cell? ⟨w.heap.size, 0, none⟩ = some (.int .i64 d) ∧ w'.cell? ⟨w.heap.size, 1, none⟩ = some (.slice A n c) ∧ w'.cell? ⟨w.heap.size, 2, none⟩ = some (.slice B m k))
    (first
      | go_keep
      | (exact ⟨(hb.cell (p := ⟨w.heap.size, 0, none⟩) hWz).trans q0, (hb.cell (p := ⟨w.heap.size, 1, none⟩) hWz).trans q1, (hb.cell (p := ⟨w.heap.size, 2, none⟩) hWz).trans q2⟩))
    (first
      | (go_at_call 112; refine (cloneI_any _ _ _ xs _ (Rd.drewN hz1 1) hl).mono ?_; rintro e w' ⟨A2, c2, rfl, ho, hb⟩))
  go_wp2
  go_ret
  have hb0 : Below w.heap.size w w' := by
    have h1 : Below w.heap.size w W := by rw [HW.out]; exact (Below.refl _ _).alloc (Nat.le_refl _) _
    exact h1.trans ((below_drewN (Below.refl _ _) 1).trans (hb.mono (Nat.le_of_lt hWz)))
  have hwz : W.heap.size ≤ w'.heap.size := hb.size
  exact ⟨w'.heap.size, A2, c2, rfl, by omega, heap_alloc_new w' _, ((ho.mono (show w.heap.size ≤ W.heap.size by omega)).alloc _), hb0.alloc (by omega) _⟩

theorem runAt_cell {w : World} {g : Nat} {d : Int} {A : Option Addr} {n c : Nat} {B : Option Addr} {m k : Nat} {Q : Option Addr} {l r : Nat} (h : RunAt w g d A n c B m k Q l r) :
    w.cell? ⟨g, 0, none⟩ = some (.int .i64 d) ∧ w.cell? ⟨g, 1, none⟩ = some (.slice A n c) ∧ w.cell? ⟨g, 2, none⟩ = some (.slice B m k) ∧ w.cell? ⟨g, 3, none⟩ = some (.slice Q l r) :=
  ⟨cell_of_row w g 0 _ _ _ h, cell_of_row w g 1 _ _ _ h, cell_of_row w g 2 _ _ _ h, cell_of_row w g 3 _ _ _ h⟩

def lessB (a b : Int) : Bool := decide (a < b)
set_option maxHeartbeats 400000 in
theorem less_any (a b : Int) (w : World) : Calls Try.prog 215 #[.int .i64 a, .int .i64 b] w fun e w' => e = .returned (.bool (lessB a b)) ∧ w = w' := by
  go_enter Try.func215, Try.ntmps215
  go_wp2
  go_ret
  exact ⟨rfl, rfl⟩

theorem isNaN_any (a : Int) (w : World) : Calls Try.prog 216 #[.int .i64 a] w fun e w' => e = .returned (.bool false) ∧ w = w' := by
  go_enter Try.func216, Try.ntmps216
  go_wp2
  go_ret
  exact ⟨by simp, rfl⟩

/-- How many numbers are less: in a sorted list the place where a binary search ends. -/
def bsIdx (xs : List Int) (t : Int) : Nat := xs.countP (fun x => decide (x < t))
theorem bsIdx_eq {xs : List Int} {t : Int} {a : Nat} (ha : a ≤ xs.length) (h1 : ∀ j (h : j < xs.length), j < a → xs[j] < t) (h2 : ∀ j (h : j < xs.length), a ≤ j → t ≤ xs[j]) : bsIdx xs t = a := by
  unfold bsIdx
  have e1 : (xs.take a).countP (fun x => decide (x < t)) = a := by
    rw [List.countP_eq_length.2]
    · simp; omega
    · intro x hx
      obtain ⟨j, hj, rfl⟩ := List.getElem_of_mem hx
      simp at hj
      rw [List.getElem_take]; simpa using h1 j (by omega) (by omega)
  have e2 : (xs.drop a).countP (fun x => decide (x < t)) = 0 := by
    rw [List.countP_eq_zero]
    intro x hx
    obtain ⟨j, hj, rfl⟩ := List.getElem_of_mem hx
    simp at hj
    have := h2 (a + j) (by omega) (by omega)
    rw [List.getElem_drop]; simpa using this
  have e3 : xs.countP (fun x => decide (x < t)) = (xs.take a ++ xs.drop a).countP (fun x => decide (x < t)) := by rw [List.take_append_drop]
  rw [e3, List.countP_append, e1, e2]; omega
theorem bs_lo {xs : List Int} {t : Int} {a b : Nat} (hs : xs.Pairwise (· < ·)) (hl : (a + b) / 2 < xs.length) (h : xs[(a + b) / 2] < t) : ∀ j (hj : j < xs.length), j < (a + b) / 2 + 1 → xs[j] < t := by
  intro j hj h2
  by_cases e : j = (a + b) / 2
  · subst e; exact h
  · have := List.pairwise_iff_getElem.1 hs j ((a + b) / 2) hj hl (by omega)
    omega
theorem bs_hi {xs : List Int} {t : Int} {a b : Nat} (hs : xs.Pairwise (· < ·)) (hl : (a + b) / 2 < xs.length) (h : ¬ xs[(a + b) / 2] < t) : ∀ j (hj : j < xs.length), (a + b) / 2 ≤ j → t ≤ xs[j] := by
  intro j hj h2
  by_cases e : j = (a + b) / 2
  · subst e; omega
  · have := List.pairwise_iff_getElem.1 hs ((a + b) / 2) j hl hj (by omega)
    omega
theorem bs_in {xs : List Int} {t : Int} {a : Nat} (hs : xs.Pairwise (· < ·)) (h1 : ∀ j (h : j < xs.length), j < a → xs[j] < t) (h2 : ∀ j (h : j < xs.length), a ≤ j → t ≤ xs[j]) (ha : a < xs.length) : decide (t ∈ xs) = (xs[a] == t) := by
  by_cases e : xs[a] = t
  · have : t ∈ xs := e ▸ List.getElem_mem ha
    simp [this, e]
  · have : ¬ t ∈ xs := by
      intro hm
      obtain ⟨j, hj, rfl⟩ := List.getElem_of_mem hm
      rcases Nat.lt_trichotomy j a with h | h | h
      · have := h1 j hj h; omega
      · subst h; exact e rfl
      · have := List.pairwise_iff_getElem.1 hs a j ha hj h
        have := h2 a ha (Nat.le_refl _); omega
    simp [this, e]
theorem bs_out {xs : List Int} {t : Int} {a : Nat} (h1 : ∀ j (h : j < xs.length), j < a → xs[j] < t) (ha : xs.length ≤ a) : decide (t ∈ xs) = false := by
  rw [decide_eq_false_iff_not]
  intro hm
  obtain ⟨j, hj, rfl⟩ := List.getElem_of_mem hm
  have := h1 j hj (by omega); omega

set_option maxHeartbeats 400000 in
theorem binarySearchI_any (A : Option Addr) (n c : Nat) (xs : List Int) (t : Int) (w : World) (hx : SI w A n xs) (hn : n ≤ 1048576) (hs : Hid (xs.Pairwise (· < ·))) :
    Calls Try.prog 192 #[.slice A n c, .int .i64 t] w fun e w' => e = .returned (.tuple #[.int .i64 (bsIdx xs t), .bool (decide (t ∈ xs))]) ∧ w = w' := by
  go_enter Try.func192, Try.ntmps192
  go_wp2_with fail
  go_loop [7, 8, 9] (fun i j _ => ∃ a b : Nat, a ≤ b ∧ b ≤ n ∧ i = .int .i64 a ∧ j = .int .i64 b ∧ Hid ((∀ j (h : j < xs.length), j < a → xs[j] < t) ∧ (∀ j (h : j < xs.length), b ≤ j → t ≤ xs[j]))) (fun i j _ => (intOf j - intOf i).toNat)
  case atStart => exact ⟨0, n, by omega, by omega, rfl, rfl, fun _ _ h => absurd h (by omega), fun j h h2 => absurd h (by have := hx.len; omega)⟩
  case round =>
    obtain ⟨a, b, hab, hbn, rfl, rfl, he⟩ := hrel
    by_cases hlt : a < b
    · have hmn : (a + b) / 2 < n := by omega
      have HXL := Lib.hid hx.len
      obtain ⟨bb, off, rfl, _, hc⟩ := hx.at_ hmn
      by_cases hl : xs[(a + b) / 2]'(by have := HXL.out; omega) < t
      · have HS : Hid (lessB (xs[(a + b) / 2]'(by have := HXL.out; omega)) t = true) := by show _ = _; simpa [lessB] using hl
        have HB := Lib.hid (bs_lo hs.out (by have := HXL.out; omega) hl)
        clear hl
        go_wp2_with (go_at_call 215; refine (less_any _ _ _).mono ?_; rintro e w' ⟨rfl, rfl⟩; rw [HS.out])
        exact ⟨⟨(a + b) / 2 + 1, b, by omega, by omega, by go_num, rfl, HB.out, he.out.2⟩, by simp [intOf]; omega⟩
      · have HS : Hid (lessB (xs[(a + b) / 2]'(by have := HXL.out; omega)) t = false) := by show _ = _; simpa [lessB] using hl
        have HB := Lib.hid (bs_hi hs.out (by have := HXL.out; omega) hl)
        clear hl
        go_wp2_with (go_at_call 215; refine (less_any _ _ _).mono ?_; rintro e w' ⟨rfl, rfl⟩; rw [HS.out])
        exact ⟨⟨a, (a + b) / 2, by omega, by omega, rfl, by go_num, he.out.1, HB.out⟩, by simp [intOf]; omega⟩
    · obtain rfl : a = b := by omega
      by_cases han : a < n
      · have HXL := Lib.hid hx.len
        obtain ⟨bb, off, rfl, _, hc⟩ := hx.at_ han
        have HIN := Lib.hid (bs_in hs.out he.out.1 he.out.2 (by have := HXL.out; omega))
        cases hq : (xs[a]'(by have := HXL.out; omega) == t)
        · have HQ := Lib.hid hq
          go_wp2_with (go_at_call 216; refine (isNaN_any _ _).mono ?_; rintro e w' ⟨rfl, rfl⟩)
          go_ret2
          exact ⟨by rw [HIN.out, HQ.out, bsIdx_eq (by have := HXL.out; omega) he.out.1 he.out.2]; rfl, rfl⟩
        · have HQ := Lib.hid hq
          go_wp2_with (go_at_call 216; refine (isNaN_any _ _).mono ?_; rintro e w' ⟨rfl, rfl⟩)
          go_ret2
          exact ⟨by rw [HIN.out, HQ.out, bsIdx_eq (by have := HXL.out; omega) he.out.1 he.out.2]; rfl, rfl⟩
      · have HXL := Lib.hid hx.len
        have HIN := Lib.hid (bs_out he.out.1 (by have := HXL.out; omega))
        go_wp2_with fail
        go_ret2
        exact ⟨by rw [HIN.out, bsIdx_eq (by have := HXL.out; omega) he.out.1 he.out.2]; rfl, rfl⟩


set_option maxHeartbeats 1000000 in
theorem tagHalts_any (g : Nat) (d : Int) (A : Option Addr) (n c : Nat) (B : Option Addr) (m k : Nat) (hs : List Int) (Q : Option Addr) (l r : Nat) (xs : List Int) (w : World) (hr : RunAt w g d A n c B m k Q l r) (hy : SI w B m hs) (hz : SI w Q l xs)
    (hm : m ≤ 1048576) (hl : l ≤ 1048576) (hd : 1 ≤ d) (hri : Hid (hs.Pairwise (· < ·))) :
    Calls Try.prog 151 #[.pointer (some ⟨g, 0, none⟩)] w fun e w' => e = .returned (.bool (haltsB d hs xs)) ∧ ∃ q, w' = w.drewN q := by
  obtain ⟨c0, c1, c2, c3⟩ := runAt_cell hr
  have HL := Lib.hid hz.len
  by_cases hld : (l : Int) < d
  · go_enter Try.func151, Try.ntmps151
    go_wp2_with fail
    go_quiet ((go_at_call 104; exact quiet_left (sizeI_any _ _ _ _ (by omega))))
    go_wp2_with fail
    go_ret
    exact ⟨ret_bool (by unfold haltsB; rw [HL.out]; simp [hld]), _, rfl⟩
  · have hl0 : 0 < l := by omega
    obtain ⟨b, off, rfl, _, hc⟩ := hz.at0 hl0
    go_enter Try.func151, Try.ntmps151
    go_wp2_with fail
    go_quiet ((go_at_call 104; exact quiet_left (sizeI_any _ _ _ _ (by omega))))
    go_wp2_with fail
    have hy1 := hy.drewN nq
    go_quiet ((go_at_call 192; exact quiet_add_left (binarySearchI_any _ _ _ hs _ _ (hy.drewN _) (by omega) hri)))
    go_wp2_with fail
    go_ret
    exact ⟨ret_bool (by unfold haltsB; rw [HL.out]; simp; omega), _, World.drewN_drewN _ _ _⟩

theorem RunAt.blk_ne {w : World} {g : Nat} {d : Int} {A : Option Addr} {n c : Nat} {B : Option Addr} {m k : Nat} {Q : Option Addr} {l r : Nat} {lo s n' c' : Nat} {X : Option Addr} {cs : List Value} (h : RunAt w g d A n c B m k Q l r) (h' : Own w lo 2 s X n' c' cs) : blk X ≠ some g := by
  intro hb
  rcases h'.2 with ⟨rfl, _⟩ | ⟨b, off, cur, rfl, _, hg, _⟩
  · simp [blk] at hb
  · simp [blk] at hb; subst hb
    unfold RunAt at h
    rw [hg] at h
    simp at h

theorem RunAt.grown {w w' : World} {g : Nat} {d : Int} {A : Option Addr} {n c : Nat} {B : Option Addr} {m k : Nat} {Q : Option Addr} {l r : Nat} {row : Option Nat} (h : RunAt w g d A n c B m k Q l r) (hg : w.grownBy w' row) (hne : row ≠ some g) : RunAt w' g d A n c B m k Q l r :=
  (hg.block g (Array.getElem?_eq_some_iff.1 h).1 (Ne.symm hne)).trans h
theorem RunAt.frozen {w : World} {g : Nat} {d : Int} {A : Option Addr} {n c : Nat} {B : Option Addr} {m k : Nat} {Q : Option Addr} {l r : Nat} (h : RunAt w g d A n c B m k Q l r) (i : Nat) : w.frozen? ⟨g, i, none⟩ = false := by
  unfold RunAt at h; simp [World.frozen?, h]
theorem RunAt.set3 {w : World} {g : Nat} {d : Int} {A : Option Addr} {n c : Nat} {B : Option Addr} {m k : Nat} {Q : Option Addr} {l r : Nat} (h : RunAt w g d A n c B m k Q l r) (Q' : Option Addr) (l' r' : Nat) : RunAt (w.setCell ⟨g, 3, none⟩ (.slice Q' l' r')) g d A n c B m k Q' l' r' := by
  have := heap_setCell_same w g 3 _ _ (.slice Q' l' r') h
  exact this

def StepPost (w0 : World) (g : Nat) (d : Int) (A : Option Addr) (n c : Nat) (B : Option Addr) (m k : Nat) (xs word : List Int) (e : Ending) (w' : World) : Prop :=
  ∃ Q r, e = .returned (.bool (decide ((xs ++ word).length ≤ 1000))) ∧ RunAt w' g d A n c B m k Q ((xs ++ word).drop d.toNat).length r ∧ Own w' w0.heap.size 2 1 Q ((xs ++ word).drop d.toNat).length r (ints ((xs ++ word).drop d.toNat)) ∧ Below w0.heap.size w0 w'

set_option maxHeartbeats 2000000 in
theorem tagStep_any (w0 : World) (g : Nat) (d : Int) (A : Option Addr) (n c : Nat) (ts : List Sl) (B : Option Addr) (m k : Nat) (Q : Option Addr) (l r x0 : Nat) (xs : List Int) (t : Sl) (w : World) (hx : SII w0 A n ts) (hb0 : Below w0.heap.size w0 w) (hg : w0.heap.size ≤ g)
    (hr : RunAt w g d A n c B m k Q l r) (hQ : Own w w0.heap.size 2 1 Q l r (ints xs)) (hl : l ≤ 1048576) (hd : 1 ≤ d) (hdl : d ≤ l) (h0 : Hid (xs.headD 0 = (x0 : Int))) (hT : Hid (ts[x0]? = some t)) (hx0 : x0 < n) (htl : t.xs.length ≤ 1048576) :
    Calls Try.prog 152 #[.pointer (some ⟨g, 0, none⟩)] w (StepPost w0 g d A n c B m k xs t.xs) := by
  obtain ⟨k0, k1, k2, k3⟩ := runAt_cell hr
  have hl0 : 0 < l := by omega
  obtain ⟨b, off, rfl, hbl, hc⟩ := SI.at0 (xs := xs) hQ.rd hl0
  rw [h0.out] at hc
  obtain ⟨t', b', off', hT', htm, rfl, hbl', hc', hrow⟩ := (hx.below hb0).pick hx0
  obtain rfl : t = t' := by have h1 := hT.out; have h2 := hT'.out; rw [h1] at h2; simpa using h2
  clear hT'
  have i1 : (0 : Int) ≤ (x0 : Int) := by omega
  have i2 : (x0 : Int) < (n : Int) := by omega
  have i3 : (0 : Int) < (l : Int) := by omega
  have hb1 : b' < w0.heap.size := by
    obtain ⟨_, b1, o1, _, _, he, h, _⟩ := hx.pick hx0
    simp only [Option.some.injEq, Addr.mk.injEq, and_true] at he
    omega
  have hbb' : b' ≠ b := by have := hQ.blk_ge b rfl; omega
  have gne := hr.blk_ne hQ
  have HG := Lib.hid gne
  clear gne
  have gz : g < w.heap.size := (Array.getElem?_eq_some_iff.1 hr).1
  go_enter Try.func152, Try.ntmps152
  go_upto_region 1 with fail
  go_cut [2] (fun s2 wx => s2 = .bool false ∧ ∃ A2 c2, RunAt wx g d (some ⟨b', off', none⟩) n c B m k A2 (l + t.xs.length) c2 ∧ Own wx w0.heap.size 2 1 A2 (l + t.xs.length) c2 (ints (xs ++ t.xs)) ∧ Below w0.heap.size w0 wx)
  case first =>
    go_region_law
      ((refine step_append_Own rfl (.tmp 8) (.tmp 21) rfl elI (lo := w0.heap.size) rfl (by exact hQ.drewN _) rfl (by exact hrow.drewN _) (ints_one t.xs) (by omega) (by simp only [maxLen]; omega) (by exact hb0.size) ?_; intro A2 c2 w2 ho2 hg2 hwh2
        have hr2 : RunAt w2 g d (some ⟨b', off', none⟩) n c B m k (some ⟨b, off, none⟩) l r := RunAt.grown (w := w.drewN 1) hr hg2 HG.out
        have e3 := (runAt_cell hr2).2.2.2
        have f3 := hr2.frozen 3))
    all_goals
      go_wp2_with fail
      go_meet
      refine ⟨rfl, A2, c2, hr2.set3 A2 (l + t.xs.length) c2, ?_, ?_⟩
      · rw [← ints_append]
        exact ho2.far (p := ⟨g, 3, none⟩) (hr2.blk_ne ho2) _
      · have hb2 : Below w0.heap.size w0 w2 := (hQ.drewN 1).below_of (below_drewN hb0 1) hg2 hb0.size
        exact hb2.setCell (p := ⟨g, 3, none⟩) hg _
  case rest =>
    obtain ⟨rfl, A2, c2, hr3, ho3, hb3⟩ := hcut
    obtain ⟨m0, m1, m2, m3⟩ := runAt_cell hr3
    have f3 := hr3.frozen 3
    clear k0 k1 k2 k3
    obtain ⟨dn, rfl⟩ := Int.eq_ofNat_of_zero_le (show 0 ≤ d by omega)
    have hdn : dn ≤ l + t.xs.length := by omega
    have hcap := ho3.le
    go_wp2_with fail
    go_region
    have ho4 := ho3.from_ hdn
    rw [ints_drop] at ho4
    generalize hA3 : (if c2 = dn then A2 else Option.map (fun x => x.add dn) A2) = A3 at *
    clear hA3
    have hr4 := hr3.set3 A3 (l + t.xs.length - dn) (c2 - dn)
    have ho5 := ho4.far (p := ⟨g, 3, none⟩) (hr3.blk_ne ho4) (.slice A3 (l + t.xs.length - dn) (c2 - dn))
    have hb5 := (hb3.setCell (p := ⟨g, 3, none⟩) hg (.slice A3 (l + t.xs.length - dn) (c2 - dn))).drew
    have HXL : Hid (xs.length = l) := by have := hQ.1; rw [length_ints] at this; show _ = _; omega
    have e1 : ((xs ++ t.xs).drop dn).length = l + t.xs.length - dn := by rw [List.length_drop, List.length_append, HXL.out]
    have E1 := Lib.hid e1
    clear e1
    go_wp2_with fail
    go_ret
    refine ⟨A3, c2 - dn, ret_bool ?_, ?_, ?_, hb5⟩
    · rw [List.length_append, HXL.out, decide_eq_decide]; omega
    · rw [Int.toNat_natCast, E1.out]; exact hr4
    · rw [Int.toNat_natCast, E1.out]; exact ho5

end Go.Proofs.Ythipbeggaeogcaa
