/-
  Contracts of spec.l05First and R8Order: all numbers below n, in some order.
-/
import Derived.Test.YtdlojbabnelbdaaPkRegisterParts0
import Derived.Test.YtdlojbabnelbdaaPkRegisterParts1
namespace Go.Proofs.Ytdlojbabnelbdaa
open Go.RowKit

def iotaI (n : Nat) : List Int := (List.range n).map fun j : Nat => (j : Int)
theorem iotaI_len (n : Nat) : (iotaI n).length = n := by simp [iotaI]
theorem iotaI_next (n : Nat) : iotaI (n + 1) = iotaI n ++ [(n : Int)] := by simp [iotaI, List.range_succ]
/-- All numbers below n, each once. -/
def OrdOk (n : Nat) (xs : List Int) : Prop := xs.length = n ∧ (∀ i, i < n → 0 ≤ xs.getD i 0 ∧ xs.getD i 0 < (n : Int)) ∧ ∀ i j, i < n → j < n → xs.getD i 0 = xs.getD j 0 → i = j
theorem iotaI_at {n i : Nat} (h : i < n) : (iotaI n).getD i 0 = (i : Int) := by
  unfold iotaI
  rw [List.getD_eq_getElem?_getD, List.getElem?_map, List.getElem?_range h]; rfl
theorem iotaI_ok (n : Nat) : OrdOk n (iotaI n) := by
  refine ⟨iotaI_len n, fun i h => ?_, fun i j hi hj h => ?_⟩
  · rw [iotaI_at h]; omega
  · rw [iotaI_at hi, iotaI_at hj] at h; omega
theorem getD_set (xs : List Int) (k i : Nat) (v : Int) (hk : k < xs.length) : (xs.set k v).getD i 0 = if i = k then v else xs.getD i 0 := by
  by_cases h : i = k
  · subst h
    rw [if_pos rfl, List.getD_eq_getElem?_getD, List.getElem?_set_self hk]; rfl
  · rw [if_neg h, List.getD_eq_getElem?_getD, List.getElem?_set_ne (fun e => h e.symm), List.getD_eq_getElem?_getD]
theorem OrdOk.swap {n : Nat} {xs : List Int} (h : OrdOk n xs) {a k : Nat} (ha : a < n) (hk : k < n) : OrdOk n ((xs.set a (xs.getD k 0)).set k (xs.getD a 0)) := by
  obtain ⟨h1, h2, h3⟩ := h
  have key : ∀ i, ((xs.set a (xs.getD k 0)).set k (xs.getD a 0)).getD i 0 = if i = k then xs.getD a 0 else if i = a then xs.getD k 0 else xs.getD i 0 := fun i => by
    rw [getD_set _ _ _ _ (by rw [List.length_set]; omega), getD_set _ _ _ _ (by omega)]
  refine ⟨by simpa using h1, fun i hi => ?_, fun i j hi hj he => ?_⟩
  · rw [key]
    split
    · exact h2 a ha
    · split
      · exact h2 k hk
      · exact h2 i hi
  · rw [key, key] at he
    by_cases i1 : i = k
    · rw [if_pos i1] at he
      by_cases j1 : j = k
      · omega
      · rw [if_neg j1] at he
        by_cases j2 : j = a
        · rw [if_pos j2] at he
          have := h3 a k ha hk he
          omega
        · rw [if_neg j2] at he
          have := h3 a j ha hj he
          omega
    · rw [if_neg i1] at he
      by_cases i2 : i = a
      · rw [if_pos i2] at he
        by_cases j1 : j = k
        · rw [if_pos j1] at he
          have := h3 k a hk ha he
          omega
        · rw [if_neg j1] at he
          by_cases j2 : j = a
          · omega
          · rw [if_neg j2] at he
            have := h3 k j hk hj he
            omega
      · rw [if_neg i2] at he
        by_cases j1 : j = k
        · rw [if_pos j1] at he
          have := h3 i a hi ha he
          omega
        · rw [if_neg j1] at he
          by_cases j2 : j = a
          · rw [if_pos j2] at he
            have := h3 i k hi hk he
            omega
          · rw [if_neg j2] at he
            exact h3 i j hi hj he
set_option maxHeartbeats 1000000 in
theorem l05First_any (n : Nat) (w : World) (hn : n ≤ 1000) : Calls Try.prog 95 #[.int .i64 (n : Int)] w (NewI w (iotaI n)) := by
  obtain ⟨V, hW_⟩ : ∃ W_, W_ = w.alloc (.cells #[] 2) := ⟨_, rfl⟩
  have b0 : Blk V w.heap.size 2 #[] := by rw [hW_]; exact Blk.new w _ _
  have y0 : Below w.heap.size w V := by rw [hW_]; exact (Below.refl _ _).alloc (Nat.le_refl _) _
  have HV := Lib.hid hW_
  clear hW_
  have hO : Own V w.heap.size 2 1 (some ⟨w.heap.size, 0, none⟩) 0 0 (ints (iotaI 0)) := by rw [HV.out]; exact Own.lit0 w _ 1
  have HO := Lib.hid hO
  have HY := Lib.hid y0
  clear hO y0 b0
  go_enter Try.func95, Try.ntmps95
  go_wp2_with fail
  rw [← HV.out]
  clear HV
  go_loopw [3, 4] (fun l i wr => ∃ (j : Nat) (D : Option Addr) (d : Nat), j ≤ n ∧ i = .int .i64 (j : Int) ∧ l = .slice D j d ∧ Hid (Own wr w.heap.size 2 1 D j d (ints (iotaI j))) ∧ Hid (Below w.heap.size w wr)) (fun _ i _ => n - (intOf i).toNat)
  case atStart => exact ⟨0, _, 0, by omega, rfl, rfl, HO, HY⟩
  case round =>
    obtain ⟨j, D, d, hj, rfl, rfl, HOj, HZ⟩ := hrel
    clear HO
    by_cases hlt : j < n
    · have i1 : (j : Int) < (n : Int) := by omega
      go_wp2_with (at_builtin; refine wpList_append_Own rfl (.tmp 11) (.tmp 13) rfl elI (lo := w.heap.size) rfl (HOj.out.alloc _) rfl (Rd.new1 _ (.int .i64 (j : Int)) _) (by simp [Value.oneCell']) (by omega) (by simp only [maxLen]; omega) (by have := HZ.out.size; simp; omega) ?_; intro A2 c2 w2 o2 g2 _)
      have HO2 : Hid (Own w2 w.heap.size 2 1 A2 (j + 1) c2 (ints (iotaI (j + 1)))) := Lib.hid (by rw [iotaI_next, ← ints_append]; exact o2)
      have HZ2 : Hid (Below w.heap.size w w2) := Lib.hid ((HOj.out.alloc _).below_of (HZ.out.alloc HZ.out.size _) g2 (by have := HZ.out.size; simp; omega))
      clear o2 g2
      go_roundw
      case rel => exact ⟨j + 1, A2, c2, by omega, by go_num, rfl, HO2, HZ2⟩
      case measure => simp [intOf]; omega
    · have i1 : ¬ (j : Int) < (n : Int) := by omega
      obtain rfl : j = n := by omega
      have HN : Hid (NewI w (iotaI j) (.returned (.slice D j d)) wr) := Lib.hid ⟨D, d, by rw [iotaI_len], by rw [iotaI_len]; exact HOj.out, HZ.out⟩
      go_wp2_with fail
      go_ret
      exact HN.out
def NewOrd (w : World) (n : Nat) (e : Ending) (w' : World) : Prop := ∃ D d xs, OrdOk n xs ∧ e = .returned (.slice D n d) ∧ Own w' w.heap.size 2 1 D n d (ints xs) ∧ Below w.heap.size w w'
set_option maxRecDepth 100000 in
set_option maxHeartbeats 2000000 in
theorem r8Order_any (A : Option Addr) (l c : Nat) (ys : List Int) (n : Nat) (w : World) (hx : SB w A l ys) (hA : ∀ k, blk A = some k → k < w.heap.size) (hl : l ≤ 9223372036854775807) (hn : n ≤ 100) :
    Calls Try.prog 21 #[.slice A l c, .int .i64 (n : Int)] w (NewOrd w n) := by
  have HX := Lib.hid hx
  have HA : Hid (∀ k, blk A = some k → k ≠ w.heap.size) := Lib.hid (fun k hk => by have := hA k hk; omega)
  clear hx hA
  go_enter Try.func21, Try.ntmps21
  go_wp2_with fail
  refine (from_any A l c w).mono ?_
  rintro e1 w1 ⟨rfl, hs1, z1⟩
  have hlt1 : w.heap.size < w1.heap.size := by
    obtain ⟨_, _, _, _, _, h⟩ := hs1
    exact h.lt
  have HX1 := Lib.hid (HX.out.below z1)
  have HZ1 := Lib.hid z1
  have HS1 := Lib.hid hs1
  clear hs1 z1
  go_wp2_with fail
  refine (l05First_any n w1 (by omega)).mono ?_
  rintro e2 w2 ⟨D, d, rfl, o2, z2⟩
  rw [iotaI_len] at o2
  have HD : Hid (∀ b, blk D = some b → w1.heap.size ≤ b) := Lib.hid (fun b hb => o2.blk_ge b hb)
  have HO2 := Lib.hid o2
  have HZ2 := Lib.hid (HZ1.out.trans (z2.mono HZ1.out.size))
  have HS2 := Lib.hid (HS1.out.below z2)
  have HX2 := Lib.hid (HX1.out.below z2)
  have HK0 : Hid (Kb w.heap.size w2 w2) := Lib.hid (Kb.refl _ _)
  rw [iotaI_len]
  clear o2 z2 HS1 HX1
  go_wp2_with fail
  clear HK0 HX2 HD
  go_loopw [7] (fun i wr => ∃ (k : Nat) (xs : List Int), 1 ≤ k ∧ (k ≤ n ∨ k = 1) ∧ i = .int .i64 (k : Int) ∧ Hid (OrdOk n xs) ∧ Hid (Own wr w1.heap.size 2 1 D n d (ints xs)) ∧ Hid (Src w.heap.size A l c (2 * k) wr) ∧ Hid (Below w.heap.size w wr)) (fun i _ => n - (intOf i).toNat)
  case atStart => exact ⟨1, iotaI n, by omega, .inr rfl, rfl, Lib.hid (iotaI_ok n), HO2, Lib.hid (HS2.out.le (by omega)), HZ2⟩
  case round =>
    obtain ⟨k, xs, hk1, hk, rfl, HOK, HO, HS, HZ⟩ := hrel
    clear HO2 HS2 HZ2
    by_cases hlt : k < n
    rotate_left
    · have i1 : ¬ (k : Int) < (n : Int) := by omega
      have HN : Hid (NewOrd w n (.returned (.slice D n d)) wr) := Lib.hid ⟨D, d, xs, HOK.out, rfl, HO.out.mono (by omega), HZ.out⟩
      go_wp2_with fail
      go_ret
      exact HN.out
    have i1 : (k : Int) < (n : Int) := by omega
    have HPK := Lib.hid (pick_any w.heap.size A l c (2 * k) ys ((k : Int) + 1) wr (HX.out.below HZ.out) HA.out HS.out (by omega) hl (by omega) (by omega))
    go_wp2_with fail
    refine HPK.out.mono ?_
    rintro e3 w3 ⟨x, rfl, hx0, hx1, hs3, hk3⟩
    obtain ⟨a, rfl⟩ : ∃ a : Nat, x = (a : Int) := ⟨x.toNat, by omega⟩
    have hak : a ≤ k := by omega
    have hO3 := hk3.own' HO.out hlt1
    have hZ3 := hk3.below HZ.out (Nat.le_refl _)
    have hxl : xs.length = n := HOK.out.1
    obtain ⟨b, off, rfl, hb0, hb1, x0, y0⟩ := hO3.at_ (k := a) (by rw [length_ints]; omega)
    obtain ⟨b', off', e1, _, _, x1, y1⟩ := hO3.at_ (k := k) (by rw [length_ints]; omega)
    simp only [Option.some.injEq, Addr.mk.injEq, and_true] at e1
    obtain ⟨rfl, rfl⟩ := e1
    have HU : Hid (xs.getD a 0 = xs[a]'(by omega)) := Lib.hid (by rw [List.getD_eq_getElem?_getD, List.getElem?_eq_getElem]; rfl)
    have HV : Hid (xs.getD k 0 = xs[k]'(by omega)) := Lib.hid (by rw [List.getD_eq_getElem?_getD, List.getElem?_eq_getElem]; rfl)
    rw [ints_get, ← HU.out] at x0
    rw [ints_get, ← HV.out] at x1
    obtain ⟨u, hu⟩ : ∃ u, u = xs.getD a 0 := ⟨_, rfl⟩
    obtain ⟨v, hv⟩ : ∃ v, v = xs.getD k 0 := ⟨_, rfl⟩
    rw [← hu] at x0
    rw [← hv] at x1
    have o4 := (hO3.set_ (k := a) (by rw [length_ints]; omega) (.int .i64 v)).set_ (k := k) (by rw [List.length_set, length_ints]; omega) (.int .i64 u)
    rw [ints_set, ints_set] at o4
    have HOK4 : Hid (OrdOk n ((xs.set a v).set k u)) := Lib.hid (by rw [hu, hv]; exact HOK.out.swap (by omega) hlt)
    have HO4 := Lib.hid o4
    have HZ4 := Lib.hid ((hZ3.setCell (p := ⟨b, off + a, none⟩) (by show w.heap.size ≤ b; omega) (.int .i64 v)).setCell (p := ⟨b, off + k, none⟩) (by show w.heap.size ≤ b; omega) (.int .i64 u))
    have HS4 := Lib.hid ((hs3.set_at (k := b) (by omega) (off + a) (.int .i64 v)).set_at (k := b) (by omega) (off + k) (.int .i64 u))
    have y1' : (w3.setCell ⟨b, off + a, none⟩ (.int .i64 v)).frozen? ⟨b, off + k, none⟩ = false := by simpa using y1
    obtain ⟨v', hy'⟩ := cell?_setCell_some (p := ⟨b, off + a, none⟩) (x := .int .i64 v) x1
    have i2 : (0 : Int) ≤ (a : Int) := by omega
    have i3 : (a : Int) < (n : Int) := by omega
    have i4 : (0 : Int) ≤ (k : Int) := by omega
    clear HU HV hu hv o4 hO3 hZ3 hs3 hk3 HPK HOK HO HS HZ hxl
    go_wp2_with fail
    go_roundw
    case rel => exact ⟨k + 1, _, by omega, by omega, by go_num, HOK4, HO4, Lib.hid (HS4.out.le (by omega)), HZ4⟩
    case measure => simp [intOf]; omega
end Go.Proofs.Ytdlojbabnelbdaa

/-
  Slices of structs of four numbers.
-/
namespace Go.Proofs.Ytdlojbabnelbdaa
open Go.RowKit

/-- Four numbers. -/
structure R4 where
  a : Int
  b : Int
  c : Int
  d : Int
  deriving DecidableEq
def R4.cells (r : R4) : List Value := [.int .i64 r.a, .int .i64 r.b, .int .i64 r.c, .int .i64 r.d]
def cells4 (rs : List R4) : List Value := rs.flatMap R4.cells
theorem length_cells4 (rs : List R4) : (cells4 rs).length = rs.length * 4 := by
  induction rs with
  | nil => rfl
  | cons r rs ih => simp [cells4, R4.cells] at ih ⊢; omega
theorem cells4_get : ∀ (rs : List R4) (k : Nat) (r : R4), rs[k]? = some r → (cells4 rs)[k * 4]? = some (.int .i64 r.a) ∧ (cells4 rs)[k * 4 + 1]? = some (.int .i64 r.b) ∧ (cells4 rs)[k * 4 + 2]? = some (.int .i64 r.c) ∧ (cells4 rs)[k * 4 + 3]? = some (.int .i64 r.d)
  | [], k, r, h => by simp at h
  | s :: rs, 0, r, h => by simp at h; subst h; simp [cells4, R4.cells]
  | s :: rs, k + 1, r, h => by
    have ih := cells4_get rs k r (by simpa using h)
    have e : cells4 (s :: rs) = .int .i64 s.a :: .int .i64 s.b :: .int .i64 s.c :: .int .i64 s.d :: cells4 rs := by simp [cells4, R4.cells]
    rw [e, show (k + 1) * 4 = k * 4 + 4 from by omega]
    simpa using ih
theorem cells4_one (rs : List R4) : ∀ u ∈ cells4 rs, u.oneCell' = true := by
  intro u hu
  simp [cells4, R4.cells] at hu
  obtain ⟨r, _, h | h | h | h⟩ := hu <;> subst h <;> rfl
theorem cells4_set : ∀ (rs : List R4) (k : Nat) (r : R4), k < rs.length → ((((cells4 rs).set (k * 4) (.int .i64 r.a)).set (k * 4 + 1) (.int .i64 r.b)).set (k * 4 + 2) (.int .i64 r.c)).set (k * 4 + 3) (.int .i64 r.d) = cells4 (rs.set k r)
  | [], k, r, h => by simp at h
  | s :: rs, 0, r, h => by simp [cells4, R4.cells]
  | s :: rs, k + 1, r, h => by
    have ih := cells4_set rs k r (by simpa using h)
    have e : cells4 (s :: rs) = .int .i64 s.a :: .int .i64 s.b :: .int .i64 s.c :: .int .i64 s.d :: cells4 rs := by simp [cells4, R4.cells]
    have e2 : cells4 ((s :: rs).set (k + 1) r) = .int .i64 s.a :: .int .i64 s.b :: .int .i64 s.c :: .int .i64 s.d :: cells4 (rs.set k r) := by simp [cells4, R4.cells]
    rw [e, e2, ← ih, show (k + 1) * 4 = k * 4 + 4 from by omega]
    simp
theorem cells4_set_c : ∀ (rs : List R4) (k : Nat) (r : R4) (x : Int), rs[k]? = some r → (cells4 rs).set (k * 4 + 2) (.int .i64 x) = cells4 (rs.set k { r with c := x })
  | [], k, r, x, h => by simp at h
  | s :: rs, 0, r, x, h => by simp at h; subst h; simp [cells4, R4.cells]
  | s :: rs, k + 1, r, x, h => by
    have ih := cells4_set_c rs k r x (by simpa using h)
    have e : cells4 (s :: rs) = .int .i64 s.a :: .int .i64 s.b :: .int .i64 s.c :: .int .i64 s.d :: cells4 rs := by simp [cells4, R4.cells]
    have e2 : cells4 ((s :: rs).set (k + 1) { r with c := x }) = .int .i64 s.a :: .int .i64 s.b :: .int .i64 s.c :: .int .i64 s.d :: cells4 (rs.set k { r with c := x }) := by simp [cells4, R4.cells]
    rw [e, e2, ← ih, show (k + 1) * 4 + 2 = k * 4 + 2 + 4 from by omega]
    simp only [List.set_cons_succ]
theorem cells4_set_d : ∀ (rs : List R4) (k : Nat) (r : R4) (x : Int), rs[k]? = some r → (cells4 rs).set (k * 4 + 3) (.int .i64 x) = cells4 (rs.set k { r with d := x })
  | [], k, r, x, h => by simp at h
  | s :: rs, 0, r, x, h => by simp at h; subst h; simp [cells4, R4.cells]
  | s :: rs, k + 1, r, x, h => by
    have ih := cells4_set_d rs k r x (by simpa using h)
    have e : cells4 (s :: rs) = .int .i64 s.a :: .int .i64 s.b :: .int .i64 s.c :: .int .i64 s.d :: cells4 rs := by simp [cells4, R4.cells]
    have e2 : cells4 ((s :: rs).set (k + 1) { r with d := x }) = .int .i64 s.a :: .int .i64 s.b :: .int .i64 s.c :: .int .i64 s.d :: cells4 (rs.set k { r with d := x }) := by simp [cells4, R4.cells]
    rw [e, e2, ← ih, show (k + 1) * 4 + 3 = k * 4 + 3 + 4 from by omega]
    simp only [List.set_cons_succ]
theorem cells4_append (xs ys : List R4) : cells4 xs ++ cells4 ys = cells4 (xs ++ ys) := by simp [cells4]

/-- A slice that reads as a list of quadruples. -/
def S4 (w : World) (A : Option Addr) (n : Nat) (rs : List R4) : Prop := Rd w 4 A n (cells4 rs)
section
variable {w w' : World} {A : Option Addr} {n : Nat} {rs : List R4}
theorem S4.len (h : S4 w A n rs) : rs.length = n := by have := h.1; rw [length_cells4] at this; omega
theorem S4.pick (h : S4 w A n rs) {k : Nat} (hk : k < n) : ∃ r b off, Hid (rs[k]? = some r) ∧ r ∈ rs ∧ A = some ⟨b, off, none⟩ ∧ b < w.heap.size ∧
    w.cell? ⟨b, off + k * 4, none⟩ = some (.int .i64 r.a) ∧ w.cell? ⟨b, off + k * 4 + 1, none⟩ = some (.int .i64 r.b) ∧ w.cell? ⟨b, off + k * 4 + 2, none⟩ = some (.int .i64 r.c) ∧ w.cell? ⟨b, off + k * 4 + 3, none⟩ = some (.int .i64 r.d) := by
  have hl := h.len
  have hr : rs[k]? = some (rs[k]'(by omega)) := List.getElem?_eq_getElem (by omega)
  obtain ⟨h0, h1, h2, h3⟩ := cells4_get rs k _ hr
  obtain ⟨b, off, e, hc⟩ := h.2 (by rw [length_cells4]; omega)
  obtain ⟨l0, g0⟩ := List.getElem?_eq_some_iff.1 h0
  obtain ⟨l1, g1⟩ := List.getElem?_eq_some_iff.1 h1
  obtain ⟨l2, g2⟩ := List.getElem?_eq_some_iff.1 h2
  obtain ⟨l3, g3⟩ := List.getElem?_eq_some_iff.1 h3
  have k0 := hc _ l0
  have k1 := hc _ l1
  have k2 := hc _ l2
  have k3 := hc _ l3
  rw [g0] at k0
  rw [g1] at k1
  rw [g2] at k2
  rw [g3] at k3
  exact ⟨_, b, off, hr, List.getElem_mem _, e, World.block_lt_of_cell? w _ k0, k0, by rw [Nat.add_assoc]; exact k1, by rw [Nat.add_assoc]; exact k2, by rw [Nat.add_assoc]; exact k3⟩
theorem S4.below (h : S4 w A n rs) (hb : Below w.heap.size w w') : S4 w' A n rs := Rd.below h hb
theorem S4.drewN (h : S4 w A n rs) (k : Nat) : S4 (w.drewN k) A n rs := h
theorem S4.alloc (h : S4 w A n rs) (o : Obj) : S4 (w.alloc o) A n rs := Rd.alloc h o
end
/-- After k copies into a list of zeros. -/
def copied4 (rs : List R4) (k : Nat) : List R4 := rs.take k ++ List.replicate (rs.length - k) ⟨0, 0, 0, 0⟩
theorem copied4_end (rs : List R4) {k : Nat} (h : rs.length ≤ k) : copied4 rs k = rs := by
  unfold copied4
  rw [List.take_of_length_le h, show rs.length - k = 0 from by omega]; simp
theorem length_copied4 (rs : List R4) (k : Nat) (h : k ≤ rs.length) : (copied4 rs k).length = rs.length := by simp [copied4]; omega
theorem copied4_next (rs : List R4) (k : Nat) (r : R4) (h : rs[k]? = some r) : (copied4 rs k).set k r = copied4 rs (k + 1) := by
  obtain ⟨hk, rfl⟩ := List.getElem?_eq_some_iff.1 h
  unfold copied4
  have e1 : (rs.take k).length = k := by simp; omega
  rw [List.set_append_right _ _ (by omega), e1, Nat.sub_self, List.take_succ_eq_append_getElem hk, show rs.length - k = (rs.length - (k + 1)) + 1 from by omega, List.replicate_succ]
  simp only [List.set_cons_zero, List.append_assoc, List.singleton_append]
def same4 (xs ys : List R4) : Bool := decide (xs = ys)
theorem same4_self (xs : List R4) : same4 xs xs = true := by simp [same4]
def sameR4 (x y : R4) : Bool := decide (x = y)
theorem same4_ne {xs ys : List R4} {x y : R4} {k : Nat} (hx : xs[k]? = some x) (hy : ys[k]? = some y) (h : (!sameR4 x y) = true) : false = same4 xs ys := by
  unfold same4; symm; rw [decide_eq_false_iff_not]; rintro rfl
  rw [hx] at hy
  simp at hy
  simp [sameR4, hy] at h
theorem same4_len {xs ys : List R4} {n m : Nat} (h : ¬ n = m) (hx : xs.length = n) (hy : ys.length = m) : false = same4 xs ys := by
  unfold same4; symm; rw [decide_eq_false_iff_not]; rintro rfl; omega
theorem same4_eq {xs ys : List R4} {n k : Nat} (hk : n ≤ k) (hx : xs.length = n) (hy : ys.length = n) (h : xs.take k = ys.take k) : true = same4 xs ys := by
  rw [List.take_of_length_le (by omega), List.take_of_length_le (by omega)] at h
  unfold same4; symm; rw [decide_eq_true_iff]; exact h
theorem same4_next {xs ys : List R4} {x y : R4} {k : Nat} (hx : xs[k]? = some x) (hy : ys[k]? = some y) (h : xs.take k = ys.take k) (h1 : (!sameR4 x y) = false) : xs.take (k + 1) = ys.take (k + 1) := by
  obtain ⟨hk, rfl⟩ := List.getElem?_eq_some_iff.1 hx
  obtain ⟨hk', rfl⟩ := List.getElem?_eq_some_iff.1 hy
  rw [List.take_succ_eq_append_getElem hk, List.take_succ_eq_append_getElem hk', h]
  simp [sameR4] at h1
  rw [h1]
end Go.Proofs.Ytdlojbabnelbdaa

/-
  Register programs in plain words: steps, runs, and what the programs that move, copy and clear registers do.
-/
namespace Go.Proofs.Ytdlojbabnelbdaa

def getI (xs : List Int) (k : Int) : Int := xs.getD k.toNat 0
theorem getI_set (xs : List Int) (k q v : Int) (h0 : 0 ≤ k) (hk : k < xs.length) (hq : 0 ≤ q) : getI (xs.set k.toNat v) q = if q = k then v else getI xs q := by
  unfold getI
  by_cases h : q = k
  · subst h
    rw [if_pos rfl, List.getD_eq_getElem?_getD, List.getElem?_set_self (by omega)]
    rfl
  · rw [if_neg h, List.getD_eq_getElem?_getD, List.getElem?_set_ne (by omega), List.getD_eq_getElem?_getD]
/-- An instruction: kind, register, target, other target. -/
abbrev instrOf (p : List R4) (k : Int) : R4 := p.getD k.toNat ⟨0, 0, 0, 0⟩
/-- A store: the place, the contents. -/
structure Sto where
  p : Int
  xs : List Int
def stepP (p : List R4) (s : Sto) : Sto :=
  let x := instrOf p s.p
  if x.a = 0 then ⟨x.c, s.xs.set x.b.toNat (getI s.xs x.b + 1)⟩
  else if 0 < getI s.xs x.b then ⟨x.c, s.xs.set x.b.toNat (getI s.xs x.b - 1)⟩ else ⟨x.d, s.xs⟩
/-- Whether there is room behind a step. -/
def roomP (p : List R4) (s : Sto) : Prop := getI (stepP p s).xs (instrOf p s.p).b ≤ 1000000
def endP (p : List R4) (s : Sto) : Prop := s.p = (p.length : Int)
def itP (p : List R4) (s : Sto) : Nat → Sto
  | 0 => s
  | i + 1 => stepP p (itP p s i)
theorem itP_add (p : List R4) (s : Sto) (a b : Nat) : itP p s (a + b) = itP p (itP p s a) b := by
  induction b with
  | zero => rfl
  | succ b ih => show stepP p (itP p s (a + b)) = stepP p (itP p (itP p s a) b); rw [ih]
def AliveP (p : List R4) (s : Sto) (i : Nat) : Prop := ∀ j, j < i → ¬ endP p (itP p s j) ∧ roomP p (itP p s j)
theorem AliveP.zero (p : List R4) (s : Sto) : AliveP p s 0 := fun j h => absurd h (Nat.not_lt_zero j)
theorem AliveP.next {p : List R4} {s : Sto} {i : Nat} (h : AliveP p s i) (h1 : ¬ endP p (itP p s i)) (h2 : roomP p (itP p s i)) : AliveP p s (i + 1) := fun j hj => by
  by_cases e : j = i
  · subst e; exact ⟨h1, h2⟩
  · exact h j (by omega)
theorem AliveP.add {p : List R4} {s : Sto} {a b : Nat} (h : AliveP p s a) (h2 : AliveP p (itP p s a) b) : AliveP p s (a + b) := fun j hj => by
  by_cases e : j < a
  · exact h j e
  · have h3 := h2 (j - a) (by omega)
    rw [← itP_add, show a + (j - a) = j by omega] at h3
    exact h3
def EndedP (p : List R4) (s : Sto) (N i : Nat) : Prop := i ≤ N ∧ AliveP p s i ∧ (i = N ∨ endP p (itP p s i))
def FullP (p : List R4) (s : Sto) (N i : Nat) : Prop := i < N ∧ AliveP p s i ∧ ¬ endP p (itP p s i) ∧ ¬ roomP p (itP p s i)
/-- A run that ends within the budget ends there. -/
theorem EndedP.at_ {p : List R4} {s : Sto} {N i k : Nat} (h : EndedP p s N i) (hk : AliveP p s k) (he : endP p (itP p s k)) (hN : k ≤ N) : i = k := by
  rcases Nat.lt_trichotomy i k with h1 | h1 | h1
  · rcases h.2.2 with h2 | h2
    · omega
    · exact absurd h2 (hk i h1).1
  · exact h1
  · exact absurd he (h.2.1 k h1).1
theorem FullP.not {p : List R4} {s : Sto} {N i k : Nat} (h : FullP p s N i) (hk : AliveP p s k) (he : endP p (itP p s k)) (_hN : k ≤ N) : False := by
  rcases Nat.lt_or_ge i k with h1 | h1
  · exact h.2.2.2 (hk i h1).2
  · rcases Nat.lt_or_eq_of_le h1 with h2 | h2
    · exact (h.2.1 k h2).1 he
    · subst h2; exact h.2.2.1 he
/-! ### Valid programs and stores -/
def validInstrB (n : Int) (r : R4) : Bool := (decide (0 ≤ r.b) && decide (r.b ≤ 23)) && (decide (0 ≤ r.c) && decide (r.c ≤ n)) && ((r.a == 0 && r.d == 0) || (r.a == 1 && (decide (0 ≤ r.d) && decide (r.d ≤ n))))
def validProgB (p : List R4) : Bool := decide (p.length ≤ 400) && p.all (validInstrB p.length)
def storeB (p : List R4) (s : Sto) : Bool := (decide (0 ≤ s.p) && decide (s.p ≤ (p.length : Int))) && (decide (s.xs.length = 24) && s.xs.all fun x => decide (0 ≤ x) && decide (x ≤ 1000000))
theorem validInstr_iff {n : Int} {r : R4} : validInstrB n r = true ↔ 0 ≤ r.b ∧ r.b ≤ 23 ∧ 0 ≤ r.c ∧ r.c ≤ n ∧ (r.a = 0 ∧ r.d = 0 ∨ r.a = 1 ∧ 0 ≤ r.d ∧ r.d ≤ n) := by
  unfold validInstrB; simp [Bool.and_eq_true, Bool.or_eq_true]
  constructor
  · rintro ⟨⟨⟨h1, h2⟩, h3, h4⟩, h5⟩; exact ⟨h1, h2, h3, h4, h5⟩
  · rintro ⟨h1, h2, h3, h4, h5⟩; exact ⟨⟨⟨h1, h2⟩, h3, h4⟩, h5⟩
theorem storeB_iff {p : List R4} {s : Sto} : storeB p s = true ↔ 0 ≤ s.p ∧ s.p ≤ (p.length : Int) ∧ s.xs.length = 24 ∧ ∀ x ∈ s.xs, 0 ≤ x ∧ x ≤ 1000000 := by
  unfold storeB; simp [Bool.and_eq_true]
  constructor
  · rintro ⟨⟨h1, h2⟩, h3, h4⟩; exact ⟨h1, h2, h3, h4⟩
  · rintro ⟨h1, h2, h3, h4⟩; exact ⟨⟨h1, h2⟩, h3, h4⟩
theorem prog_instr {p : List R4} {k : Int} (hv : validProgB p = true) (h0 : 0 ≤ k) (hk : k < p.length) : p[k.toNat]? = some (instrOf p k) ∧ validInstrB p.length (instrOf p k) = true := by
  unfold validProgB at hv
  simp only [Bool.and_eq_true, decide_eq_true_eq, List.all_eq_true] at hv
  have h1 : p[k.toNat]? = some (p[k.toNat]'(by omega)) := List.getElem?_eq_getElem (by omega)
  have h2 : instrOf p k = p[k.toNat]'(by omega) := by unfold instrOf; rw [List.getD_eq_getElem?_getD, h1]; rfl
  rw [h2]
  exact ⟨h1, hv.2 _ (List.getElem_mem _)⟩
theorem step_valid {p : List R4} {s : Sto} (hv : validProgB p = true) (hs : storeB p s = true) (he : ¬ endP p s) (hr : roomP p s) : storeB p (stepP p s) = true := by
  rw [storeB_iff] at hs
  obtain ⟨h0, h1, h2, h3⟩ := hs
  unfold endP at he
  obtain ⟨_, hi⟩ := prog_instr hv h0 (by omega)
  rw [validInstr_iff] at hi
  unfold roomP at hr
  revert hr
  unfold stepP
  revert hi
  generalize instrOf p s.p = x
  rintro ⟨a1, a2, a3, a4, a5⟩ hr
  have hm : 0 ≤ getI s.xs x.b ∧ getI s.xs x.b ≤ 1000000 := by
    unfold getI
    rw [List.getD_eq_getElem?_getD, List.getElem?_eq_getElem (by omega)]
    exact h3 _ (List.getElem_mem _)
  dsimp only at hr ⊢
  by_cases e : x.a = 0
  · rw [if_pos e] at hr ⊢
    rw [storeB_iff]
    dsimp only at hr ⊢
    rw [getI_set _ _ _ _ a1 (by omega) a1, if_pos rfl] at hr
    refine ⟨a3, a4, by simpa using h2, fun y hy => ?_⟩
    rcases List.mem_or_eq_of_mem_set hy with h | h
    · exact h3 y h
    · omega
  · rw [if_neg e] at hr ⊢
    obtain ⟨_, a6, a7⟩ := a5.resolve_left (fun h => e h.1)
    by_cases e2 : 0 < getI s.xs x.b
    · rw [if_pos e2, storeB_iff]
      refine ⟨a3, a4, by simpa using h2, fun y hy => ?_⟩
      rcases List.mem_or_eq_of_mem_set hy with h | h
      · exact h3 y h
      · omega
    · rw [if_neg e2, storeB_iff]
      exact ⟨a6, a7, h2, h3⟩
theorem AliveP.valid {p : List R4} {s : Sto} {i : Nat} (h : AliveP p s i) (hv : validProgB p = true) (hs : storeB p s = true) : storeB p (itP p s i) = true := by
  induction i with
  | zero => exact hs
  | succ i ih => exact step_valid hv (ih (fun j hj => h j (by omega))) (h i (by omega)).1 (h i (by omega)).2
/-! ### What single steps do -/
theorem step_inc {p : List R4} {s : Sto} {r t d : Int} (h : instrOf p s.p = ⟨0, r, t, d⟩) (h0 : 0 ≤ r) (hr : r < s.xs.length) :
    (stepP p s).p = t ∧ (stepP p s).xs.length = s.xs.length ∧ (∀ q, 0 ≤ q → getI (stepP p s).xs q = if q = r then getI s.xs r + 1 else getI s.xs q) ∧ (getI s.xs r < 1000000 → roomP p s) := by
  have e : stepP p s = ⟨t, s.xs.set r.toNat (getI s.xs r + 1)⟩ := by unfold stepP; rw [h]; rfl
  refine ⟨by rw [e], by rw [e]; simp, fun q hq => by rw [e]; exact getI_set _ _ _ _ h0 hr hq, fun hl => ?_⟩
  unfold roomP
  rw [e, h]
  dsimp only
  rw [getI_set _ _ _ _ h0 hr h0, if_pos rfl]
  omega
theorem step_dec {p : List R4} {s : Sto} {r t d : Int} (h : instrOf p s.p = ⟨1, r, t, d⟩) (h0 : 0 ≤ r) (hr : r < s.xs.length) (hg : 0 < getI s.xs r) :
    (stepP p s).p = t ∧ (stepP p s).xs.length = s.xs.length ∧ (∀ q, 0 ≤ q → getI (stepP p s).xs q = if q = r then getI s.xs r - 1 else getI s.xs q) ∧ (getI s.xs r ≤ 1000000 → roomP p s) := by
  have e : stepP p s = ⟨t, s.xs.set r.toNat (getI s.xs r - 1)⟩ := by unfold stepP; rw [h]; dsimp only; rw [if_neg (by decide), if_pos hg]
  refine ⟨by rw [e], by rw [e]; simp, fun q hq => by rw [e]; exact getI_set _ _ _ _ h0 hr hq, fun hl => ?_⟩
  unfold roomP
  rw [e, h]
  dsimp only
  rw [getI_set _ _ _ _ h0 hr h0, if_pos rfl]
  omega
theorem step_else {p : List R4} {s : Sto} {r t d : Int} (h : instrOf p s.p = ⟨1, r, t, d⟩) (hg : getI s.xs r = 0) : stepP p s = ⟨d, s.xs⟩ ∧ roomP p s := by
  have e : stepP p s = ⟨d, s.xs⟩ := by unfold stepP; rw [h]; dsimp only; rw [if_neg (by decide), if_neg (by omega)]
  refine ⟨e, ?_⟩
  unfold roomP
  rw [e, h]
  dsimp only
  omega
end Go.Proofs.Ytdlojbabnelbdaa

/-
  What the programs that move, copy and clear registers do, and loops and branches, in plain words.
-/
namespace Go.Proofs.Ytdlojbabnelbdaa

/-- Many steps, told by their first ones. -/
theorem itP_front (p : List R4) (s : Sto) (a b : Nat) : itP p s (a + b) = itP p (itP p s a) b := itP_add p s a b
theorem alive_one {p : List R4} {s : Sto} (h : ¬ endP p s) (hr : roomP p s) : AliveP p s 1 := fun j hj => by
  obtain rfl : j = 0 := by omega
  exact ⟨h, hr⟩
structure Lay3 (p : List R4) (a b c e : Int) : Prop where
  i0 : instrOf p 0 = ⟨1, a, 1, e⟩
  i1 : instrOf p 1 = ⟨0, b, 2, 0⟩
  i2 : instrOf p 2 = ⟨0, c, 0, 0⟩
  len : 3 ≤ p.length
  ra : 0 ≤ a ∧ a < 24
  rb : 0 ≤ b ∧ b < 24
  rc : 0 ≤ c ∧ c < 24
  ab : a ≠ b
  ac : a ≠ c
  bc : b ≠ c
theorem loop3 {p : List R4} {a b c e : Int} (L : Lay3 p a b c e) : ∀ (n : Nat) (s : Sto), s.p = 0 → s.xs.length = 24 → getI s.xs a = (n : Int) → getI s.xs b + (n : Int) ≤ 1000000 → getI s.xs c + (n : Int) ≤ 1000000 → (n : Int) ≤ 1000000 →
    AliveP p s (3 * n + 1) ∧ (itP p s (3 * n + 1)).p = e ∧ (itP p s (3 * n + 1)).xs.length = 24 ∧ getI (itP p s (3 * n + 1)).xs a = 0 ∧ getI (itP p s (3 * n + 1)).xs b = getI s.xs b + (n : Int) ∧ getI (itP p s (3 * n + 1)).xs c = getI s.xs c + (n : Int) ∧
      ∀ q, 0 ≤ q → q ≠ a → q ≠ b → q ≠ c → getI (itP p s (3 * n + 1)).xs q = getI s.xs q := by
  have hl := L.len
  obtain ⟨a0, a1⟩ := L.ra
  obtain ⟨b0, b1⟩ := L.rb
  obtain ⟨c0, c1⟩ := L.rc
  have hab := L.ab
  have hac := L.ac
  have hbc := L.bc
  intro n
  induction n with
  | zero =>
    intro s hp hx ha _ _ _
    obtain ⟨e1, r1⟩ := step_else (p := p) (s := s) (by rw [hp]; exact L.i0) (by simpa using ha)
    have he : itP p s (3 * 0 + 1) = ⟨e, s.xs⟩ := e1
    rw [he]
    refine ⟨alive_one (by unfold endP; omega) r1, rfl, hx, by simpa using ha, by simp, by simp, fun _ _ _ _ _ => rfl⟩
  | succ n ih =>
    intro s hp hx ha hb hc hn
    have ha' : getI s.xs a = (n : Int) + 1 := by rw [ha]; omega
    obtain ⟨p1, l1, g1, r1⟩ := step_dec (p := p) (s := s) (by rw [hp]; exact L.i0) a0 (by omega) (by omega)
    obtain ⟨s1, hs1⟩ : ∃ s1, s1 = stepP p s := ⟨_, rfl⟩
    rw [← hs1] at p1 l1 g1
    obtain ⟨p2, l2, g2, r2⟩ := step_inc (p := p) (s := s1) (by rw [p1]; exact L.i1) b0 (by omega)
    obtain ⟨s2, hs2⟩ : ∃ s2, s2 = stepP p s1 := ⟨_, rfl⟩
    rw [← hs2] at p2 l2 g2
    obtain ⟨p3, l3, g3, r3⟩ := step_inc (p := p) (s := s2) (by rw [p2]; exact L.i2) c0 (by omega)
    obtain ⟨s3, hs3⟩ : ∃ s3, s3 = stepP p s2 := ⟨_, rfl⟩
    rw [← hs3] at p3 l3 g3
    have e3 : itP p s 3 = s3 := by rw [hs3, hs2, hs1]; rfl
    have xb1 : getI s1.xs b = getI s.xs b := by rw [g1 b b0, if_neg (fun h => hab h.symm)]
    have xc1 : getI s1.xs c = getI s.xs c := by rw [g1 c c0, if_neg (fun h => hac h.symm)]
    have xa1 : getI s1.xs a = (n : Int) := by rw [g1 a a0, if_pos rfl]; omega
    have xa2 : getI s2.xs a = (n : Int) := by rw [g2 a a0, if_neg hab, xa1]
    have xb2 : getI s2.xs b = getI s.xs b + 1 := by rw [g2 b b0, if_pos rfl, xb1]
    have xc2 : getI s2.xs c = getI s.xs c := by rw [g2 c c0, if_neg (fun h => hbc h.symm), xc1]
    have xa3 : getI s3.xs a = (n : Int) := by rw [g3 a a0, if_neg hac, xa2]
    have xb3 : getI s3.xs b = getI s.xs b + 1 := by rw [g3 b b0, if_neg hbc, xb2]
    have xc3 : getI s3.xs c = getI s.xs c + 1 := by rw [g3 c c0, if_pos rfl, xc2]
    obtain ⟨q1, q2, q3, q4, q5, q6, q7⟩ := ih s3 p3 (by omega) xa3 (by omega) (by omega) (by omega)
    have ee : 3 * (n + 1) + 1 = 3 + (3 * n + 1) := by omega
    rw [ee, itP_add, e3]
    refine ⟨?_, q2, q3, q4, by rw [q5, xb3]; omega, by rw [q6, xc3]; omega, fun q h0 h1 h2 h3 => ?_⟩
    · refine AliveP.add (fun j hj => ?_) (by rw [e3]; exact q1)
      match j, hj with
      | 0, _ => exact ⟨by show ¬ s.p = _; omega, r1 (by omega)⟩
      | 1, _ => exact ⟨by show ¬ (stepP p s).p = _; rw [← hs1, p1]; omega, by show roomP p (stepP p s); rw [← hs1]; exact r2 (by omega)⟩
      | 2, _ => exact ⟨by show ¬ (stepP p (stepP p s)).p = _; rw [← hs1, ← hs2, p2]; omega, by show roomP p (stepP p (stepP p s)); rw [← hs1, ← hs2]; exact r3 (by omega)⟩
    · rw [q7 q h0 h1 h2 h3, g3 q h0, if_neg h3, g2 q h0, if_neg h2, g1 q h0, if_neg h1]
structure Lay2 (p : List R4) (k c a e : Int) : Prop where
  i0 : instrOf p k = ⟨1, c, k + 1, e⟩
  i1 : instrOf p (k + 1) = ⟨0, a, k, 0⟩
  k0 : 0 ≤ k
  len : k + 1 < p.length
  ra : 0 ≤ a ∧ a < 24
  rc : 0 ≤ c ∧ c < 24
  ac : a ≠ c
theorem loop2 {p : List R4} {k c a e : Int} (L : Lay2 p k c a e) : ∀ (n : Nat) (s : Sto), s.p = k → s.xs.length = 24 → getI s.xs c = (n : Int) → getI s.xs a + (n : Int) ≤ 1000000 → (n : Int) ≤ 1000000 →
    AliveP p s (2 * n + 1) ∧ (itP p s (2 * n + 1)).p = e ∧ (itP p s (2 * n + 1)).xs.length = 24 ∧ getI (itP p s (2 * n + 1)).xs c = 0 ∧ getI (itP p s (2 * n + 1)).xs a = getI s.xs a + (n : Int) ∧
      ∀ q, 0 ≤ q → q ≠ a → q ≠ c → getI (itP p s (2 * n + 1)).xs q = getI s.xs q := by
  have hl := L.len
  have hk0 := L.k0
  obtain ⟨a0, a1⟩ := L.ra
  obtain ⟨c0, c1⟩ := L.rc
  have hac := L.ac
  intro n
  induction n with
  | zero =>
    intro s hp hx hc _ _
    obtain ⟨e1, r1⟩ := step_else (p := p) (s := s) (by rw [hp]; exact L.i0) (by simpa using hc)
    have he : itP p s (2 * 0 + 1) = ⟨e, s.xs⟩ := e1
    rw [he]
    refine ⟨alive_one (by unfold endP; omega) r1, rfl, hx, by simpa using hc, by simp, fun _ _ _ _ => rfl⟩
  | succ n ih =>
    intro s hp hx hc ha hn
    have hc' : getI s.xs c = (n : Int) + 1 := by rw [hc]; omega
    obtain ⟨p1, l1, g1, r1⟩ := step_dec (p := p) (s := s) (by rw [hp]; exact L.i0) c0 (by omega) (by omega)
    obtain ⟨s1, hs1⟩ : ∃ s1, s1 = stepP p s := ⟨_, rfl⟩
    rw [← hs1] at p1 l1 g1
    obtain ⟨p2, l2, g2, r2⟩ := step_inc (p := p) (s := s1) (by rw [p1]; exact L.i1) a0 (by omega)
    obtain ⟨s2, hs2⟩ : ∃ s2, s2 = stepP p s1 := ⟨_, rfl⟩
    rw [← hs2] at p2 l2 g2
    have e2 : itP p s 2 = s2 := by rw [hs2, hs1]; rfl
    have xa1 : getI s1.xs a = getI s.xs a := by rw [g1 a a0, if_neg hac]
    have xc1 : getI s1.xs c = (n : Int) := by rw [g1 c c0, if_pos rfl]; omega
    have xc2 : getI s2.xs c = (n : Int) := by rw [g2 c c0, if_neg (fun h => hac h.symm), xc1]
    have xa2 : getI s2.xs a = getI s.xs a + 1 := by rw [g2 a a0, if_pos rfl, xa1]
    obtain ⟨q1, q2, q3, q4, q5, q6⟩ := ih s2 p2 (by omega) xc2 (by omega) (by omega)
    have ee : 2 * (n + 1) + 1 = 2 + (2 * n + 1) := by omega
    rw [ee, itP_add, e2]
    refine ⟨?_, q2, q3, q4, by rw [q5, xa2]; omega, fun q h0 h1 h2 => ?_⟩
    · refine AliveP.add (fun j hj => ?_) (by rw [e2]; exact q1)
      match j, hj with
      | 0, _ => exact ⟨by show ¬ s.p = _; omega, r1 (by omega)⟩
      | 1, _ => exact ⟨by show ¬ (stepP p s).p = _; rw [← hs1, p1]; omega, by show roomP p (stepP p s); rw [← hs1]; exact r2 (by omega)⟩
    · rw [q6 q h0 h1 h2, g2 q h0, if_neg h1, g1 q h0, if_neg h2]
theorem loop1 {p : List R4} {a e : Int} (i0 : instrOf p 0 = ⟨1, a, 0, e⟩) (hl : 1 ≤ p.length) (a0 : 0 ≤ a) (a1 : a < 24) : ∀ (n : Nat) (s : Sto), s.p = 0 → s.xs.length = 24 → getI s.xs a = (n : Int) → (n : Int) ≤ 1000000 →
    AliveP p s (n + 1) ∧ (itP p s (n + 1)).p = e ∧ (itP p s (n + 1)).xs.length = 24 ∧ getI (itP p s (n + 1)).xs a = 0 ∧ ∀ q, 0 ≤ q → q ≠ a → getI (itP p s (n + 1)).xs q = getI s.xs q := by
  intro n
  induction n with
  | zero =>
    intro s hp hx ha _
    obtain ⟨e1, r1⟩ := step_else (p := p) (s := s) (by rw [hp]; exact i0) (by simpa using ha)
    have he : itP p s (0 + 1) = ⟨e, s.xs⟩ := e1
    rw [he]
    refine ⟨alive_one (by unfold endP; omega) r1, rfl, hx, by simpa using ha, fun _ _ _ => rfl⟩
  | succ n ih =>
    intro s hp hx ha hn
    have ha' : getI s.xs a = (n : Int) + 1 := by rw [ha]; omega
    obtain ⟨p1, l1, g1, r1⟩ := step_dec (p := p) (s := s) (by rw [hp]; exact i0) a0 (by omega) (by omega)
    obtain ⟨s1, hs1⟩ : ∃ s1, s1 = stepP p s := ⟨_, rfl⟩
    rw [← hs1] at p1 l1 g1
    have e1 : itP p s 1 = s1 := by rw [hs1]; rfl
    obtain ⟨q1, q2, q3, q4, q5⟩ := ih s1 p1 (by omega) (by rw [g1 a a0, if_pos rfl]; omega) (by omega)
    have ee : n + 1 + 1 = 1 + (n + 1) := by omega
    rw [ee, itP_add, e1]
    refine ⟨AliveP.add (alive_one (by unfold endP; omega) (r1 (by omega))) (by rw [e1]; exact q1), q2, q3, q4, fun q h0 h1 => ?_⟩
    rw [q5 q h0 h1, g1 q h0, if_neg h1]
/-! ### The three programs -/
def clearP (a : Int) : List R4 := [⟨1, a, 0, 1⟩]
def moveP (a b c : Int) : List R4 := [⟨1, a, 1, 3⟩, ⟨0, b, 2, 0⟩, ⟨0, c, 0, 0⟩]
def copyP (a b c : Int) : List R4 := [⟨1, a, 1, 3⟩, ⟨0, b, 2, 0⟩, ⟨0, c, 0, 0⟩, ⟨1, c, 4, 5⟩, ⟨0, a, 3, 0⟩]
structure Abc (a b c : Int) : Prop where
  ra : 0 ≤ a ∧ a < 24
  rb : 0 ≤ b ∧ b < 24
  rc : 0 ≤ c ∧ c < 24
  ab : a ≠ b
  ac : a ≠ c
  bc : b ≠ c
theorem nat_of {x : Int} (h : 0 ≤ x) : ∃ n : Nat, x = (n : Int) := ⟨x.toNat, by omega⟩
section
variable {a b c : Int} {xs : List Int}
theorem run_clear (ha : 0 ≤ a ∧ a < 24) (hl : xs.length = 24) (h0 : 0 ≤ getI xs a) (h1 : getI xs a ≤ 9) :
    ∃ k, k ≤ 200 ∧ AliveP (clearP a) ⟨0, xs⟩ k ∧ endP (clearP a) (itP (clearP a) ⟨0, xs⟩ k) ∧ (itP (clearP a) ⟨0, xs⟩ k).xs.length = 24 ∧ getI (itP (clearP a) ⟨0, xs⟩ k).xs a = 0 ∧ ∀ q, 0 ≤ q → q ≠ a → getI (itP (clearP a) ⟨0, xs⟩ k).xs q = getI xs q := by
  obtain ⟨n, hn⟩ := nat_of h0
  obtain ⟨q1, q2, q3, q4, q5⟩ := loop1 (p := clearP a) (a := a) (e := 1) rfl (by simp [clearP]) ha.1 ha.2 n ⟨0, xs⟩ rfl hl hn (by omega)
  exact ⟨n + 1, by omega, q1, by unfold endP; rw [q2]; rfl, q3, q4, q5⟩
theorem run_move (h : Abc a b c) (hl : xs.length = 24) (hx : ∀ q, 0 ≤ q → q < 24 → 0 ≤ getI xs q ∧ getI xs q ≤ 9) :
    ∃ k, k ≤ 200 ∧ AliveP (moveP a b c) ⟨0, xs⟩ k ∧ endP (moveP a b c) (itP (moveP a b c) ⟨0, xs⟩ k) ∧ (itP (moveP a b c) ⟨0, xs⟩ k).xs.length = 24 ∧ getI (itP (moveP a b c) ⟨0, xs⟩ k).xs a = 0 ∧
      getI (itP (moveP a b c) ⟨0, xs⟩ k).xs b = getI xs a + getI xs b ∧ getI (itP (moveP a b c) ⟨0, xs⟩ k).xs c = getI xs a + getI xs c ∧ ∀ q, 0 ≤ q → q ≠ a → q ≠ b → q ≠ c → getI (itP (moveP a b c) ⟨0, xs⟩ k).xs q = getI xs q := by
  have ha := hx a h.ra.1 h.ra.2
  have hb := hx b h.rb.1 h.rb.2
  have hc := hx c h.rc.1 h.rc.2
  obtain ⟨n, hn⟩ := nat_of ha.1
  obtain ⟨q1, q2, q3, q4, q5, q6, q7⟩ := loop3 (p := moveP a b c) (e := 3) ⟨rfl, rfl, rfl, by simp [moveP], h.ra, h.rb, h.rc, h.ab, h.ac, h.bc⟩ n ⟨0, xs⟩ rfl hl hn (by dsimp only; omega) (by dsimp only; omega) (by omega)
  exact ⟨3 * n + 1, by omega, q1, by unfold endP; rw [q2]; rfl, q3, q4, by rw [q5]; dsimp only; omega, by rw [q6]; dsimp only; omega, q7⟩
theorem run_copy (h : Abc a b c) (hl : xs.length = 24) (hx : ∀ q, 0 ≤ q → q < 24 → 0 ≤ getI xs q ∧ getI xs q ≤ 9) :
    ∃ k, k ≤ 200 ∧ AliveP (copyP a b c) ⟨0, xs⟩ k ∧ endP (copyP a b c) (itP (copyP a b c) ⟨0, xs⟩ k) ∧ (itP (copyP a b c) ⟨0, xs⟩ k).xs.length = 24 ∧ getI (itP (copyP a b c) ⟨0, xs⟩ k).xs b = getI xs a + getI xs b ∧
      getI (itP (copyP a b c) ⟨0, xs⟩ k).xs a = getI xs a + getI xs c ∧ getI (itP (copyP a b c) ⟨0, xs⟩ k).xs c = 0 ∧ ∀ q, 0 ≤ q → q ≠ a → q ≠ b → q ≠ c → getI (itP (copyP a b c) ⟨0, xs⟩ k).xs q = getI xs q := by
  have ha := hx a h.ra.1 h.ra.2
  have hb := hx b h.rb.1 h.rb.2
  have hc := hx c h.rc.1 h.rc.2
  obtain ⟨n, hn⟩ := nat_of ha.1
  obtain ⟨q1, q2, q3, q4, q5, q6, q7⟩ := loop3 (p := copyP a b c) (e := 3) ⟨rfl, rfl, rfl, by simp [copyP], h.ra, h.rb, h.rc, h.ab, h.ac, h.bc⟩ n ⟨0, xs⟩ rfl hl hn (by dsimp only; omega) (by dsimp only; omega) (by omega)
  dsimp only at q5 q6 q7
  obtain ⟨m, hm⟩ := nat_of (x := getI (itP (copyP a b c) ⟨0, xs⟩ (3 * n + 1)).xs c) (by omega)
  obtain ⟨r1, r2, r3, r4, r5, r6⟩ := loop2 (p := copyP a b c) (k := 3) (c := c) (a := a) (e := 5) ⟨rfl, rfl, by omega, by simp [copyP], h.ra, h.rc, h.ac⟩ m _ q2 q3 hm (by omega) (by omega)
  refine ⟨3 * n + 1 + (2 * m + 1), by omega, q1.add r1, ?_⟩
  rw [itP_add]
  refine ⟨by unfold endP; rw [r2]; rfl, r3, ?_, by rw [r5, q4]; omega, r4, fun q h0 h1 h2 h3 => by rw [r6 q h0 h1 h3, q7 q h0 h1 h2 h3]⟩
  rw [r6 b h.rb.1 (fun e => h.ab e.symm) h.bc, q5]
  omega
end
end Go.Proofs.Ytdlojbabnelbdaa

/-
  What loops and branches of register programs do, in plain words.
-/
namespace Go.Proofs.Ytdlojbabnelbdaa

/-- An instruction with new targets. -/
def redI (f : Int → Int) (x : R4) : R4 := if x.a = 1 then ⟨x.a, x.b, f x.c, f x.d⟩ else ⟨x.a, x.b, f x.c, x.d⟩
/-- Where a part's targets lead: its halt to 'halt', others 'at' further. -/
def toF (len at_ halt : Int) (t : Int) : Int := if t = len then halt else t + at_
def partP (p : List R4) (at_ halt : Int) : List R4 := p.map (redI (toF (p.length : Int) at_ halt))
theorem partP_len (p : List R4) (a h : Int) : (partP p a h).length = p.length := by simp [partP]
def loopP (r : Int) (body : List R4) : List R4 := [⟨1, r, 1, (body.length : Int) + 2⟩, ⟨0, r, if body.length = 0 then 0 else 2, 0⟩] ++ partP body 2 0
def branchP (r : Int) (zero other : List R4) : List R4 :=
  ([⟨1, r, 1, 2 + (other.length : Int)⟩, ⟨0, r, if other.length = 0 then 2 + (other.length : Int) + (zero.length : Int) else 2, 0⟩] ++ partP other 2 (2 + (other.length : Int) + (zero.length : Int))) ++ partP zero (2 + (other.length : Int)) (2 + (other.length : Int) + (zero.length : Int))
theorem loopP_len (r : Int) (b : List R4) : (loopP r b).length = b.length + 2 := by simp [loopP, partP_len]
theorem branchP_len (r : Int) (p q : List R4) : (branchP r p q).length = p.length + q.length + 2 := by simp [branchP, partP_len]; omega
theorem redI_valid {n m : Int} {f : Int → Int} {x : R4} (hx : validInstrB n x = true) (hf : ∀ t, 0 ≤ t → t ≤ n → 0 ≤ f t ∧ f t ≤ m) : validInstrB m (redI f x) = true := by
  rw [validInstr_iff] at hx ⊢
  obtain ⟨h1, h2, h3, h4, h5⟩ := hx
  have := hf x.c h3 h4
  rcases h5 with ⟨h5, h6⟩ | ⟨h5, h6, h7⟩
  · unfold redI; rw [if_neg (by omega)]; exact ⟨h1, h2, this.1, this.2, .inl ⟨h5, h6⟩⟩
  · have h8 := hf x.d h6 h7
    unfold redI; rw [if_pos h5]; exact ⟨h1, h2, this.1, this.2, .inr ⟨h5, h8.1, h8.2⟩⟩
theorem all_valid {p : List R4} (hv : validProgB p = true) : ∀ x ∈ p, validInstrB p.length x = true := by
  unfold validProgB at hv
  simp only [Bool.and_eq_true, decide_eq_true_eq, List.all_eq_true] at hv
  exact hv.2
theorem validProg_of {p : List R4} (hl : p.length ≤ 400) (h : ∀ x ∈ p, validInstrB p.length x = true) : validProgB p = true := by
  unfold validProgB
  simp only [Bool.and_eq_true, decide_eq_true_eq, List.all_eq_true]
  exact ⟨hl, h⟩
theorem validProg_len {p : List R4} (hv : validProgB p = true) : p.length ≤ 400 := by
  unfold validProgB at hv
  simp only [Bool.and_eq_true, decide_eq_true_eq] at hv
  exact hv.1
theorem partP_valid {p : List R4} {a h m : Int} (hv : validProgB p = true) (ha : 0 ≤ a) (hm : (p.length : Int) + a ≤ m) (h0 : 0 ≤ h) (h1 : h ≤ m) : ∀ x ∈ partP p a h, validInstrB m x = true := by
  intro x hx
  unfold partP at hx
  rw [List.mem_map] at hx
  obtain ⟨y, hy, rfl⟩ := hx
  refine redI_valid (all_valid hv y hy) (fun t t0 t1 => ?_)
  unfold toF
  split <;> omega
theorem loopP_valid {r : Int} {b : List R4} (hv : validProgB b = true) (h0 : 0 ≤ r) (h1 : r < 24) (hl : b.length ≤ 398) : validProgB (loopP r b) = true := by
  refine validProg_of (by rw [loopP_len]; omega) (fun x hx => ?_)
  rw [loopP_len]
  unfold loopP at hx
  rcases List.mem_append.1 hx with h | h
  · rcases List.mem_cons.1 h with rfl | h
    · rw [validInstr_iff]; dsimp only; omega
    · obtain rfl := List.mem_singleton.1 h
      rw [validInstr_iff]; dsimp only; split <;> omega
  · exact partP_valid hv (by omega) (by omega) (by omega) (by omega) x h
theorem branchP_valid {r : Int} {p q : List R4} (hp : validProgB p = true) (hq : validProgB q = true) (h0 : 0 ≤ r) (h1 : r < 24) (hl : p.length + q.length ≤ 398) : validProgB (branchP r p q) = true := by
  refine validProg_of (by rw [branchP_len]; omega) (fun x hx => ?_)
  rw [branchP_len]
  unfold branchP at hx
  rcases List.mem_append.1 hx with h | h
  · rcases List.mem_append.1 h with h | h
    · rcases List.mem_cons.1 h with rfl | h
      · rw [validInstr_iff]; dsimp only; omega
      · obtain rfl := List.mem_singleton.1 h
        rw [validInstr_iff]; dsimp only; split <;> omega
    · exact partP_valid hq (by omega) (by omega) (by omega) (by omega) x h
  · exact partP_valid hp (by omega) (by omega) (by omega) (by omega) x h
/-- Where an instruction of a part lies. -/
theorem part_at {g : List R4} {l r p : List R4} {a h : Int} (hg : g = l ++ partP p a h ++ r) (hl : (l.length : Int) = a) {k : Int} (h0 : 0 ≤ k) (hk : k < p.length) : instrOf g (k + a) = redI (toF (p.length : Int) a h) (instrOf p k) := by
  have e1 : (k + a).toNat = l.length + k.toNat := by omega
  have e2 : k.toNat < p.length := by omega
  unfold instrOf
  rw [hg, e1, List.append_assoc, List.getD_eq_getElem?_getD, List.getElem?_append_right (by omega), show l.length + k.toNat - l.length = k.toNat by omega, List.getElem?_append_left (by rw [partP_len]; exact e2), List.getD_eq_getElem?_getD]
  simp [partP, List.getElem?_eq_getElem e2]
/-- A part makes the steps of its program. -/
theorem part_step {g : List R4} {l r p : List R4} {a h : Int} (hg : g = l ++ partP p a h ++ r) (hl : (l.length : Int) = a) (hv : validProgB p = true) {s : Sto} (h0 : 0 ≤ s.p) (hk : s.p < p.length) :
    stepP g ⟨s.p + a, s.xs⟩ = ⟨toF (p.length : Int) a h (stepP p s).p, (stepP p s).xs⟩ ∧ (roomP g ⟨s.p + a, s.xs⟩ ↔ roomP p s) := by
  have hi := part_at hg hl h0 hk
  obtain ⟨_, hvi⟩ := prog_instr hv h0 hk
  rw [validInstr_iff] at hvi
  have key : stepP g ⟨s.p + a, s.xs⟩ = ⟨toF (p.length : Int) a h (stepP p s).p, (stepP p s).xs⟩ := by
    unfold stepP
    dsimp only
    rw [hi]
    generalize instrOf p s.p = x at *
    rcases hvi.2.2.2.2 with ⟨e, _⟩ | ⟨e, _⟩
    · have n1 : ¬ x.a = 1 := by omega
      have hr : redI (toF (p.length : Int) a h) x = ⟨x.a, x.b, toF (p.length : Int) a h x.c, x.d⟩ := by unfold redI; rw [if_neg n1]
      rw [hr]
      dsimp only
      rw [if_pos e, if_pos e]
    · have n0 : ¬ x.a = 0 := by omega
      have hr : redI (toF (p.length : Int) a h) x = ⟨x.a, x.b, toF (p.length : Int) a h x.c, toF (p.length : Int) a h x.d⟩ := by unfold redI; rw [if_pos e]
      rw [hr]
      dsimp only
      rw [if_neg n0, if_neg n0]
      split <;> rfl
  refine ⟨key, ?_⟩
  have e2 : (instrOf g (s.p + a)).b = (instrOf p s.p).b := by
    rw [hi]; unfold redI; split <;> rfl
  unfold roomP
  rw [key]
  dsimp only
  rw [e2]
/-- A run of a part. -/
theorem part_run {g : List R4} {l r p : List R4} {a h : Int} (hg : g = l ++ partP p a h ++ r) (hl : (l.length : Int) = a) (hv : validProgB p = true) {s : Sto} (hs : storeB p s = true) : ∀ i, AliveP p s i →
    AliveP g ⟨toF (p.length : Int) a h s.p, s.xs⟩ i ∧ itP g ⟨toF (p.length : Int) a h s.p, s.xs⟩ i = ⟨toF (p.length : Int) a h (itP p s i).p, (itP p s i).xs⟩ := by
  intro i
  induction i with
  | zero => intro _; exact ⟨AliveP.zero _ _, rfl⟩
  | succ i ih =>
    intro hA
    have hA' : AliveP p s i := fun j hj => hA j (by omega)
    obtain ⟨h1, h2⟩ := ih hA'
    obtain ⟨he, hr⟩ := hA i (by omega)
    have hvs := hA'.valid hv hs
    rw [storeB_iff] at hvs
    unfold endP at he
    have ht : toF (p.length : Int) a h (itP p s i).p = (itP p s i).p + a := by unfold toF; rw [if_neg he]
    rw [ht] at h2
    obtain ⟨k1, k2⟩ := part_step hg hl hv (s := itP p s i) hvs.1 (by omega)
    have hgl : (g.length : Int) = a + (p.length : Int) + (r.length : Int) := by rw [hg]; simp [partP_len]; omega
    refine ⟨h1.next ?_ ?_, ?_⟩
    · rw [h2]; unfold endP; dsimp only; omega
    · rw [h2, k2]; exact hr
    · show stepP g (itP g _ i) = _
      rw [h2, k1]; rfl
/-- A loop ends with its register 0. -/
theorem loop_ends {r : Int} {b : List R4} (hv : validProgB b = true) (h0 : 0 ≤ r) (h1 : r < 24) (hl : b.length ≤ 398) {xs : List Int} (hx : xs.length = 24) (hxs : ∀ x ∈ xs, 0 ≤ x ∧ x ≤ 1000000) {i : Nat} (hA : AliveP (loopP r b) ⟨0, xs⟩ i) (he : endP (loopP r b) (itP (loopP r b) ⟨0, xs⟩ i)) :
    getI (itP (loopP r b) ⟨0, xs⟩ i).xs r = 0 := by
  have hlen := loopP_len r b
  have hgv := loopP_valid hv h0 h1 hl
  have hst : storeB (loopP r b) ⟨0, xs⟩ = true := by rw [storeB_iff]; exact ⟨by dsimp only; omega, by dsimp only; omega, hx, hxs⟩
  cases i with
  | zero => unfold endP at he; rw [hlen] at he; have h2 : (0 : Int) = ((b.length + 2 : Nat) : Int) := he; omega
  | succ i =>
    have hA' : AliveP (loopP r b) ⟨0, xs⟩ i := fun j hj => hA j (by omega)
    have hvs := hA'.valid hgv hst
    obtain ⟨hne, _⟩ := hA i (by omega)
    obtain ⟨s, hs⟩ : ∃ s, s = itP (loopP r b) ⟨0, xs⟩ i := ⟨_, rfl⟩
    rw [← hs] at hvs hne
    have e1 : itP (loopP r b) ⟨0, xs⟩ (i + 1) = stepP (loopP r b) s := by rw [hs]; rfl
    rw [e1] at he ⊢
    rw [storeB_iff, hlen] at hvs
    obtain ⟨s0, s1, s2, s3⟩ := hvs
    unfold endP at hne he
    rw [hlen] at hne he
    rcases Int.lt_or_le s.p 2 with h | h
    · rcases Int.lt_or_le s.p 1 with h' | h'
      · obtain hp : s.p = 0 := by omega
        have i0 : instrOf (loopP r b) s.p = ⟨1, r, 1, (b.length : Int) + 2⟩ := by rw [hp]; rfl
        have hm : 0 ≤ getI s.xs r := by
          unfold getI
          rw [List.getD_eq_getElem?_getD, List.getElem?_eq_getElem (by omega)]
          exact (s3 _ (List.getElem_mem _)).1
        by_cases hg : 0 < getI s.xs r
        · obtain ⟨p1, _⟩ := step_dec i0 h0 (by omega) hg
          rw [p1] at he; omega
        · obtain ⟨p1, _⟩ := step_else i0 (by omega)
          rw [p1]; dsimp only; omega
      · obtain hp : s.p = 1 := by omega
        have i0 : instrOf (loopP r b) s.p = ⟨0, r, if b.length = 0 then 0 else 2, 0⟩ := by rw [hp]; rfl
        obtain ⟨p1, _⟩ := step_inc i0 h0 (by omega)
        rw [p1] at he
        split at he <;> omega
    · obtain ⟨t, ht⟩ : ∃ t : Sto, t = ⟨s.p - 2, s.xs⟩ := ⟨_, rfl⟩
      have hts : s = ⟨t.p + 2, t.xs⟩ := by
        rw [ht]
        cases s
        simp
      have ht0 : 0 ≤ t.p := by rw [ht]; dsimp only; omega
      have ht1 : t.p < b.length := by rw [ht]; dsimp only; omega
      obtain ⟨k1, _⟩ := part_step (g := loopP r b) (l := [⟨1, r, 1, (b.length : Int) + 2⟩, ⟨0, r, if b.length = 0 then 0 else 2, 0⟩]) (r := []) (p := b) (a := 2) (h := 0) (by simp [loopP]) rfl hv (s := t) ht0 ht1
      rw [hts, k1] at he
      dsimp only at he
      obtain ⟨_, hvi⟩ := prog_instr hv ht0 ht1
      rw [validInstr_iff] at hvi
      have hb : (stepP b t).p ≤ b.length := by
        unfold stepP
        generalize instrOf b t.p = x at *
        dsimp only
        rcases hvi.2.2.2.2 with ⟨e, _⟩ | ⟨e, e2, e3⟩
        · rw [if_pos e]; exact hvi.2.2.2.1
        · rw [if_neg (by omega)]
          split
          · exact hvi.2.2.2.1
          · exact e3
      unfold toF at he
      split at he <;> omega
/-- A branch comes to where the chosen program comes. -/
theorem branch_runs {r : Int} {p q : List R4} (hp : validProgB p = true) (hq : validProgB q = true) (h0 : 0 ≤ r) (h1 : r < 24) {xs : List Int} (hx : xs.length = 24) (hxs : ∀ x ∈ xs, 0 ≤ x ∧ x ≤ 1000000) {k : Nat}
    (hA : AliveP (if 0 < getI xs r then q else p) ⟨0, xs⟩ k) (he : endP (if 0 < getI xs r then q else p) (itP (if 0 < getI xs r then q else p) ⟨0, xs⟩ k)) :
    ∃ n, k ≤ n ∧ n ≤ k + 2 ∧ AliveP (branchP r p q) ⟨0, xs⟩ n ∧ endP (branchP r p q) (itP (branchP r p q) ⟨0, xs⟩ n) ∧ (itP (branchP r p q) ⟨0, xs⟩ n).xs = (itP (if 0 < getI xs r then q else p) ⟨0, xs⟩ k).xs := by
  have hlen := branchP_len r p q
  have hm : 0 ≤ getI xs r ∧ getI xs r ≤ 1000000 := by
    unfold getI
    rw [List.getD_eq_getElem?_getD, List.getElem?_eq_getElem (by omega)]
    exact hxs _ (List.getElem_mem _)
  have i0 : instrOf (branchP r p q) 0 = ⟨1, r, 1, 2 + (q.length : Int)⟩ := rfl
  have i1 : instrOf (branchP r p q) 1 = ⟨0, r, if q.length = 0 then 2 + (q.length : Int) + (p.length : Int) else 2, 0⟩ := rfl
  by_cases hg : 0 < getI xs r
  · rw [if_pos hg] at hA he ⊢
    obtain ⟨p1, l1, g1, r1⟩ := step_dec (p := branchP r p q) (s := ⟨0, xs⟩) i0 h0 (by dsimp only; omega) hg
    obtain ⟨s1, hs1⟩ : ∃ s1, s1 = stepP (branchP r p q) ⟨0, xs⟩ := ⟨_, rfl⟩
    rw [← hs1] at p1 l1 g1
    have x1 : getI s1.xs r = getI xs r - 1 := by rw [g1 r h0, if_pos rfl]
    dsimp only at l1
    obtain ⟨p2, l2, g2, r2⟩ := step_inc (p := branchP r p q) (s := s1) (by rw [p1]; exact i1) h0 (by omega)
    have e2 : itP (branchP r p q) ⟨0, xs⟩ 2 = ⟨toF (q.length : Int) 2 (2 + (q.length : Int) + (p.length : Int)) 0, xs⟩ := by
      show stepP (branchP r p q) (stepP (branchP r p q) ⟨0, xs⟩) = _
      rw [← hs1]
      have ex : (stepP (branchP r p q) s1).xs = xs := by
        apply List.ext_getElem (by omega)
        intro j hj hj'
        have a1 := g2 (j : Int) (by omega)
        have a2 := g1 (j : Int) (by omega)
        have a3 : ∀ (ys : List Int) (h : j < ys.length), getI ys (j : Int) = ys[j] := by
          intro ys h
          unfold getI
          rw [Int.toNat_natCast, List.getD_eq_getElem?_getD, List.getElem?_eq_getElem h]; rfl
        rw [← a3 _ hj, ← a3 _ hj', a1]
        by_cases ej : (j : Int) = r
        · rw [if_pos ej, x1, ej]; omega
        · rw [if_neg ej, a2, if_neg ej]
      have ep : (stepP (branchP r p q) s1).p = toF (q.length : Int) 2 (2 + (q.length : Int) + (p.length : Int)) 0 := by
        rw [p2]; unfold toF
        by_cases e : q.length = 0
        · rw [if_pos e, if_pos (by omega)]
        · rw [if_neg e, if_neg (by omega)]; omega
      cases h : stepP (branchP r p q) s1
      rw [h] at ex ep
      simp only at ex ep
      rw [ex, ep]
    have hstq : storeB q ⟨0, xs⟩ = true := by rw [storeB_iff]; exact ⟨by dsimp only; omega, by dsimp only; omega, hx, hxs⟩
    obtain ⟨k1, k2⟩ := part_run (g := branchP r p q) (l := [⟨1, r, 1, 2 + (q.length : Int)⟩, ⟨0, r, if q.length = 0 then 2 + (q.length : Int) + (p.length : Int) else 2, 0⟩]) (r := partP p (2 + (q.length : Int)) (2 + (q.length : Int) + (p.length : Int))) (p := q) (a := 2) (h := 2 + (q.length : Int) + (p.length : Int)) rfl rfl hq hstq k hA
    refine ⟨2 + k, by omega, by omega, ?_, ?_, ?_⟩
    · refine AliveP.add (fun j hj => ?_) (by rw [e2]; exact k1)
      match j, hj with
      | 0, _ => exact ⟨by show ¬ (0 : Int) = _; omega, r1 (by dsimp only; omega)⟩
      | 1, _ => exact ⟨by show ¬ (stepP (branchP r p q) ⟨0, xs⟩).p = _; rw [← hs1, p1]; omega, by show roomP _ (stepP (branchP r p q) ⟨0, xs⟩); rw [← hs1]; exact r2 (by omega)⟩
    · rw [itP_add, e2, k2]
      unfold endP at he ⊢
      dsimp only
      rw [he]; unfold toF; rw [if_pos rfl]; omega
    · rw [itP_add, e2, k2]
  · rw [if_neg hg] at hA he ⊢
    obtain ⟨p1, r1⟩ := step_else (p := branchP r p q) (s := ⟨0, xs⟩) i0 (by dsimp only; omega)
    have e1 : itP (branchP r p q) ⟨0, xs⟩ 1 = ⟨toF (p.length : Int) (2 + (q.length : Int)) (2 + (q.length : Int) + (p.length : Int)) 0, xs⟩ := by
      show stepP (branchP r p q) ⟨0, xs⟩ = _
      rw [p1]
      unfold toF
      by_cases e : (0 : Int) = (p.length : Int)
      · rw [if_pos e]; congr 1; omega
      · rw [if_neg e]; congr 1; omega
    have hstp : storeB p ⟨0, xs⟩ = true := by rw [storeB_iff]; exact ⟨by dsimp only; omega, by dsimp only; omega, hx, hxs⟩
    obtain ⟨k1, k2⟩ := part_run (g := branchP r p q) (l := [⟨1, r, 1, 2 + (q.length : Int)⟩, ⟨0, r, if q.length = 0 then 2 + (q.length : Int) + (p.length : Int) else 2, 0⟩] ++ partP q 2 (2 + (q.length : Int) + (p.length : Int))) (r := []) (p := p) (a := 2 + (q.length : Int)) (h := 2 + (q.length : Int) + (p.length : Int)) (by simp [branchP]) (by simp [partP_len]; omega) hp hstp k hA
    refine ⟨1 + k, by omega, by omega, ?_, ?_, ?_⟩
    · exact AliveP.add (alive_one (by show ¬ (0 : Int) = _; omega) r1) (by rw [e1]; exact k1)
    · rw [itP_add, e1, k2]
      unfold endP at he ⊢
      dsimp only
      rw [he]; unfold toF; rw [if_pos rfl]; omega
    · rw [itP_add, e1, k2]
end Go.Proofs.Ytdlojbabnelbdaa
