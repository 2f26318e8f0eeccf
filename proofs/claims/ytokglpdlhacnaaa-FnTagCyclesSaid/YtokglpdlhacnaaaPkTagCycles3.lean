/-
  The cyclic tag system of a tag system comes to the same words. No program is in sight.
-/
import Derived.Test.YtokglpdlhacnaaaPkTagCycles0
import Derived.Test.YtokglpdlhacnaaaPkTagCycles1
import Derived.Test.YtokglpdlhacnaaaPkTagCycles2
namespace Go.Proofs.Ytokglpdlhacnaaa
open Go.RowKit

/-- The code of a letter: n digits, one of them 1. -/
def unitL (n x : Nat) : List Int := (List.range n).map fun k => if k = x then 1 else 0
def codesL (n : Nat) (w : List Int) : List Int := w.flatMap fun y => unitL n y.toNat
def cycWords (d : Nat) (words : List (List Int)) : List (List Int) := words.map (codesL words.length) ++ List.replicate (words.length * (d - 1)) []
theorem unitL_len (n x : Nat) : (unitL n x).length = n := by simp [unitL]
theorem codesL_len (n : Nat) (w : List Int) : (codesL n w).length = w.length * n := by
  induction w with
  | nil => simp [codesL]
  | cons y r ih => unfold codesL at ih ⊢; rw [List.flatMap_cons, List.length_append, ih, unitL_len, List.length_cons, Nat.succ_mul]; omega
theorem codesL_cons (n : Nat) (y : Int) (r : List Int) : codesL n (y :: r) = unitL n y.toNat ++ codesL n r := by simp [codesL]
theorem codesL_append (n : Nat) (a b : List Int) : codesL n (a ++ b) = codesL n a ++ codesL n b := by simp [codesL]
theorem codesL_drop (n : Nat) : ∀ (m : Nat) (w : List Int), m ≤ w.length → (codesL n w).drop (m * n) = codesL n (w.drop m) := by
  intro m
  induction m with
  | zero => intro w _; simp
  | succ m ih =>
    intro w h
    cases w with
    | nil => simp at h
    | cons y r =>
      rw [codesL_cons, List.drop_succ_cons, Nat.succ_mul, Nat.add_comm, ← List.drop_drop, List.drop_left' (unitL_len n _)]
      exact ih r (by simpa using h)
theorem cycWords_len {d : Nat} (hd : 1 ≤ d) (words : List (List Int)) : (cycWords d words).length = words.length * d := by
  obtain ⟨e, rfl⟩ : ∃ e, d = e + 1 := ⟨d - 1, by omega⟩
  simp [cycWords, Nat.mul_succ]; omega
theorem unit_step {n x k : Nat} (hk : k < n) : (unitL n x).drop k = (if k = x then 1 else 0) :: (unitL n x).drop (k + 1) := by
  rw [List.drop_eq_getElem_cons (by rw [unitL_len]; exact hk)]
  simp [unitL]
section
variable {d : Nat} {words : List (List Int)} {xs v : List Int} {x0 : Nat}
/-- The first n steps: the letter is read, its word's code is laid at the end. -/
theorem cyc_phase1 (hd : 1 ≤ d) {y0 : Int} {ys : List Int} (hy : y0 = (x0 : Int)) (hx0 : x0 < words.length) (hv : words[x0]? = some v) : ∀ k, k ≤ words.length →
    ((cycSys (cycWords d words)).it ⟨0, codesL words.length (y0 :: ys)⟩ k).word = (unitL words.length x0).drop k ++ codesL words.length ys ++ (if x0 < k then codesL words.length v else []) ∧
    (k < words.length * d → ((cycSys (cycWords d words)).it ⟨0, codesL words.length (y0 :: ys)⟩ k).at_ = (k : Int)) := by
  have hlen := cycWords_len hd words
  have hnd : words.length ≤ words.length * d := Nat.le_mul_of_pos_right _ hd
  intro k
  induction k with
  | zero => intro _; rw [Sys.it, codesL_cons, hy]; simp
  | succ k ih =>
    intro hk
    obtain ⟨h1, h2⟩ := ih (by omega)
    have h3 := h2 (by omega)
    have hnx : (cycSys (cycWords d words)).it ⟨0, codesL words.length (y0 :: ys)⟩ (k + 1) = cycNext (cycWords d words) ((cycSys (cycWords d words)).it ⟨0, codesL words.length (y0 :: ys)⟩ k) := rfl
    rw [hnx]
    clear hnx
    generalize (cycSys (cycWords d words)).it ⟨0, codesL words.length (y0 :: ys)⟩ k = z at *
    rw [unit_step (by omega), List.cons_append, List.cons_append] at h1
    obtain ⟨za, zw⟩ := z
    dsimp only at h1 h3
    subst h1
    subst h3
    have hg : (cycWords d words).getD (k : Int).toNat [] = codesL words.length (words.getD k []) := by
      unfold cycWords
      rw [Int.toNat_natCast, List.getD_eq_getElem?_getD, List.getElem?_append_left (by simp; omega), List.getElem?_map, List.getD_eq_getElem?_getD, List.getElem?_eq_getElem (show k < words.length by omega)]
      simp
    refine ⟨?_, fun hlt => ?_⟩
    · show ((unitL words.length x0).drop (k + 1) ++ codesL words.length ys ++ (if x0 < k then codesL words.length v else [])) ++ (if (if k = x0 then (1 : Int) else 0) = 1 then (cycWords d words).getD (k : Int).toNat [] else []) = _
      rw [hg]
      by_cases hkx : k = x0
      · subst hkx
        have hgv : words.getD k [] = v := by rw [List.getD_eq_getElem?_getD, hv]; rfl
        rw [hgv]
        simp
      · by_cases h4 : x0 < k
        · have h5 : x0 < k + 1 := by omega
          simp [hkx, h4, h5]
        · have h5 : ¬ x0 < k + 1 := by omega
          simp [hkx, h4, h5]
    · show ((k : Int) + 1).tmod (cycWords d words).length = _
      rw [hlen, Int.tmod_eq_emod_of_nonneg (by omega), Int.emod_eq_of_lt (by omega) (by omega)]; omega
/-- The steps behind: digits go, and nothing comes. -/
theorem cyc_phase2 (hd : 1 ≤ d) (q : List Int) (a : Nat) (ha : words.length ≤ a) : ∀ j, a + j ≤ words.length * d →
    ((cycSys (cycWords d words)).it ⟨(a : Int), q⟩ j).word = q.drop j ∧ (a + j < words.length * d → ((cycSys (cycWords d words)).it ⟨(a : Int), q⟩ j).at_ = ((a + j : Nat) : Int)) ∧ (a + j = words.length * d → 1 ≤ j → ((cycSys (cycWords d words)).it ⟨(a : Int), q⟩ j).at_ = 0) := by
  have hlen := cycWords_len hd words
  intro j
  induction j with
  | zero => intro _; refine ⟨by simp [Sys.it], fun _ => by simp [Sys.it], fun _ h => by omega⟩
  | succ j ih =>
    intro hj
    obtain ⟨h1, h2, _⟩ := ih (by omega)
    have h3 := h2 (by omega)
    generalize hz : (cycSys (cycWords d words)).it ⟨(a : Int), q⟩ j = z at *
    have hnx : (cycSys (cycWords d words)).it ⟨(a : Int), q⟩ (j + 1) = cycNext (cycWords d words) z := by rw [Sys.it, hz]; rfl
    rw [hnx]
    have hg : (cycWords d words).getD z.at_.toNat [] = [] := by
      rw [h3, Int.toNat_natCast]
      unfold cycWords
      rw [List.getD_eq_getElem?_getD, List.getElem?_append_right (by simp; omega)]
      cases hq : (List.replicate (words.length * (d - 1)) ([] : List Int))[a + j - (words.map (codesL words.length)).length]? with
      | none => rfl
      | some w =>
        have := List.mem_of_getElem? hq
        simp only [List.mem_replicate] at this
        rw [this.2]; rfl
    have hat : (cycNext (cycWords d words) z).at_ = (z.at_ + 1).tmod (cycWords d words).length := rfl
    refine ⟨?_, fun hlt => ?_, fun he _ => ?_⟩
    · unfold cycNext cycWord
      rw [hg, h1]
      simp
    · rw [hat, h3, hlen, Int.tmod_eq_emod_of_nonneg (by omega), Int.emod_eq_of_lt (by omega) (by omega)]; omega
    · rw [hat, h3, hlen, Int.tmod_eq_emod_of_nonneg (by omega), show ((a + j : Nat) : Int) + 1 = ((words.length * d : Nat) : Int) from by omega, Int.emod_self]
/-- A step of the tag system, as the cyclic one makes it. -/
theorem cyc_step (hd : 1 ≤ d) {y0 : Int} {ys : List Int} (hy : y0 = (x0 : Int)) (hx0 : x0 < words.length) (hv : words[x0]? = some v) (hl : d ≤ (y0 :: ys).length) :
    (cycSys (cycWords d words)).it ⟨0, codesL words.length (y0 :: ys)⟩ (words.length * d) = ⟨0, codesL words.length (((y0 :: ys) ++ v).drop d)⟩ ∧
    ∀ k, k < words.length * d → ((cycSys (cycWords d words)).it ⟨0, codesL words.length (y0 :: ys)⟩ k).word.length ≠ 0 := by
  obtain ⟨e, rfl⟩ : ∃ e, d = e + 1 := ⟨d - 1, by omega⟩
  have hn : 1 ≤ words.length := by omega
  have p1 := cyc_phase1 (d := e + 1) (ys := ys) hd hy hx0 hv
  have hfull : words.length * (e + 1) = words.length + words.length * e := by rw [Nat.mul_succ]; omega
  obtain ⟨q1, q2⟩ := p1 words.length (Nat.le_refl _)
  rw [List.drop_of_length_le (by rw [unitL_len]; exact Nat.le_refl _), if_pos hx0, List.nil_append, ← codesL_append] at q1
  have hlen2 : (codesL words.length (ys ++ v)).length = (ys ++ v).length * words.length := codesL_len _ _
  have hye : e ≤ ys.length := by simp at hl; omega
  have hge : words.length * e ≤ (codesL words.length (ys ++ v)).length := by
    rw [hlen2, Nat.mul_comm]; exact Nat.mul_le_mul_right _ (by rw [List.length_append]; omega)
  have hdrop : ((y0 :: ys) ++ v).drop (e + 1) = (ys ++ v).drop e := rfl
  have hcd : (codesL words.length (ys ++ v)).drop (words.length * e) = codesL words.length ((ys ++ v).drop e) := by
    rw [Nat.mul_comm]; exact codesL_drop _ _ _ (by rw [List.length_append]; omega)
  rw [hdrop]
  by_cases he : e = 0
  · subst he
    have h0 : ((cycSys (cycWords (0 + 1) words)).it ⟨0, codesL words.length (y0 :: ys)⟩ words.length).at_ = 0 := by
      obtain ⟨m, hm⟩ : ∃ m, words.length = m + 1 := ⟨words.length - 1, by omega⟩
      have h1 := (p1 m (by omega)).2 (by rw [hm]; omega)
      have hlen := cycWords_len hd words
      have h3 : ((cycSys (cycWords (0 + 1) words)).it ⟨0, codesL words.length (y0 :: ys)⟩ (m + 1)).at_ = (((cycSys (cycWords (0 + 1) words)).it ⟨0, codesL words.length (y0 :: ys)⟩ m).at_ + 1).tmod (cycWords (0 + 1) words).length := rfl
      have h4 : ∀ t, t = m + 1 → ((cycSys (cycWords (0 + 1) words)).it ⟨0, codesL words.length (y0 :: ys)⟩ t).at_ = 0 := by
        rintro t rfl
        rw [h3, h1, hlen, Int.tmod_eq_emod_of_nonneg (by omega), show (m : Int) + 1 = ((words.length * (0 + 1) : Nat) : Int) from by rw [hm]; omega, Int.emod_self]
      exact h4 _ hm
    refine ⟨?_, fun k hk => ?_⟩
    · rw [show words.length * (0 + 1) = words.length from by omega]
      generalize (cycSys (cycWords (0 + 1) words)).it ⟨0, codesL words.length (y0 :: ys)⟩ words.length = z at *
      obtain ⟨za, zw⟩ := z
      dsimp only at q1 h0
      rw [q1, h0]; rfl
    · rw [(p1 k (by omega)).1, List.length_append, List.length_append, List.length_drop, unitL_len]; omega
  · have hmul : words.length ≤ words.length * e := Nat.le_mul_of_pos_right _ (by omega)
    have q3 := q2 (by omega)
    have hst : (cycSys (cycWords (e + 1) words)).it ⟨0, codesL words.length (y0 :: ys)⟩ words.length = ⟨(words.length : Int), codesL words.length (ys ++ v)⟩ := by
      generalize (cycSys (cycWords (e + 1) words)).it ⟨0, codesL words.length (y0 :: ys)⟩ words.length = z at *
      obtain ⟨za, zw⟩ := z
      dsimp only at q1 q3
      rw [q1, q3]
    have p2 := cyc_phase2 (d := e + 1) hd (codesL words.length (ys ++ v)) words.length (Nat.le_refl _)
    refine ⟨?_, fun k hk => ?_⟩
    · rw [hfull, ← Sys.it_add, hst]
      obtain ⟨r1, _, r3⟩ := p2 (words.length * e) (by omega)
      have r4 := r3 (by omega) (by omega)
      rw [hcd] at r1
      generalize (cycSys (cycWords (e + 1) words)).it ⟨(words.length : Int), codesL words.length (ys ++ v)⟩ (words.length * e) = z at *
      obtain ⟨za, zw⟩ := z
      dsimp only at r1 r4
      rw [r1, r4]
    · by_cases hkn : k ≤ words.length
      · rw [(p1 k hkn).1]
        rw [List.length_append, List.length_append, List.length_drop, unitL_len, codesL_len]
        by_cases h5 : k < words.length
        · omega
        · have h6 : 1 * words.length ≤ ys.length * words.length := Nat.mul_le_mul_right _ (by omega)
          omega
      · obtain ⟨j, rfl⟩ : ∃ j, k = words.length + j := ⟨k - words.length, by omega⟩
        rw [← Sys.it_add, hst, (p2 j (by omega)).1, List.length_drop]
        omega
end
/-- Many steps. -/
theorem cyc_steps {d : Nat} (hd : 1 ≤ d) {words : List (List Int)} {hs xs : List Int} (hc : tagCodeF (d : Int) words hs xs = 0) : ∀ i, (∀ j, j < i → (tagSys (d : Int) words hs).halt ((tagSys (d : Int) words hs).it xs j) = false ∧ (tagSys (d : Int) words hs).room ((tagSys (d : Int) words hs).it xs j) = true) →
    (cycSys (cycWords d words)).it ⟨0, codesL words.length xs⟩ (i * (words.length * d)) = ⟨0, codesL words.length ((tagSys (d : Int) words hs).it xs i)⟩ ∧
    ∀ k, k < i * (words.length * d) → ((cycSys (cycWords d words)).it ⟨0, codesL words.length xs⟩ k).word.length ≠ 0 := by
  intro i
  induction i with
  | zero => intro _; exact ⟨by rw [Nat.zero_mul]; rfl, fun k hk => by omega⟩
  | succ i ih =>
    intro hal
    obtain ⟨h1, h2⟩ := ih (fun j hj => hal j (by omega))
    have hg := tagAlive_good hc (i := i) (fun j hj => hal j (by omega))
    obtain ⟨hh, _⟩ := hal i (by omega)
    have hdl : (d : Int) ≤ ((tagSys (d : Int) words hs).it xs i).length := haltsB_false hh
    have hlet := (tagCode_parts hg).2.2.2.2.1
    have hnx : (tagSys (d : Int) words hs).it xs (i + 1) = ((tagSys (d : Int) words hs).it xs i ++ tagWordOf words ((tagSys (d : Int) words hs).it xs i)).drop d := rfl
    rw [hnx]
    generalize hz : (tagSys (d : Int) words hs).it xs i = z at *
    cases z with
    | nil => simp at hdl; omega
    | cons y0 ys =>
      obtain ⟨hy1, hy2⟩ := hlet y0 (by simp)
      obtain ⟨x0, rfl⟩ : ∃ x0 : Nat, y0 = (x0 : Int) := ⟨y0.toNat, by omega⟩
      have hx0 : x0 < words.length := by omega
      have hv : words[x0]? = some words[x0] := List.getElem?_eq_getElem hx0
      have hw : tagWordOf words ((x0 : Int) :: ys) = words[x0] := by unfold tagWordOf; simp [List.getD_eq_getElem?_getD, hv]
      obtain ⟨s1, s2⟩ := cyc_step hd (ys := ys) (rfl : (x0 : Int) = (x0 : Int)) hx0 hv (by simp at hdl ⊢; omega)
      rw [hw]
      refine ⟨?_, fun k hk => ?_⟩
      · rw [Nat.succ_mul, ← Sys.it_add, h1, s1]
      · by_cases hlt : k < i * (words.length * d)
        · exact h2 k hlt
        · obtain ⟨j, rfl⟩ : ∃ j, k = i * (words.length * d) + j := ⟨k - i * (words.length * d), by omega⟩
          rw [← Sys.it_add, h1]
          exact s2 j (by rw [Nat.succ_mul] at hk; omega)
end Go.Proofs.Ytokglpdlhacnaaa

/-
  Frames: a set X of blocks that stay as they are.
-/
namespace Go.Proofs.Ytokglpdlhacnaaa
open Go.RowKit

/-- The blocks of X are in w' as in w. -/
structure Fr (X : Nat → Prop) (w w' : World) : Prop where
  size : w.heap.size ≤ w'.heap.size
  same : ∀ b, X b → b < w.heap.size → w'.heap[b]? = w.heap[b]?
section
variable {X : Nat → Prop} {w w1 w2 : World}
theorem Fr.refl (X : Nat → Prop) (w : World) : Fr X w w := ⟨Nat.le_refl _, fun _ _ _ => rfl⟩
theorem Fr.trans (h : Fr X w w1) (k : Fr X w1 w2) : Fr X w w2 := ⟨Nat.le_trans h.size k.size, fun b hb hlt => (k.same b hb (by have := h.size; omega)).trans (h.same b hb hlt)⟩
theorem Fr.of_below (z : Below w.heap.size w w1) : Fr X w w1 := ⟨z.size, fun b _ hlt => z.block b hlt⟩
theorem Fr.below (h : Fr X w w1) (z : Below w1.heap.size w1 w2) : Fr X w w2 := h.trans (Fr.of_below z)
theorem Fr.drewN (h : Fr X w w1) (q : Nat) : Fr X w (w1.drewN q) := ⟨h.size, h.same⟩
theorem Fr.set_ (h : Fr X w w1) {p : Addr} (hp : ¬ X p.block) (u : Value) : Fr X w (w1.setCell p u) :=
  ⟨by simpa [World.setCell] using h.size, fun b hb hlt => (Below.heap_setCell w1 p u b (fun e => hp (e ▸ hb))).trans (h.same b hb hlt)⟩
theorem Fr.grown {row : Option Nat} (h : Fr X w w1) (hg : w1.grownBy w2 row) (hr : ∀ b, row = some b → ¬ X b) : Fr X w w2 :=
  ⟨Nat.le_trans h.size hg.size, fun b hb hlt => (hg.block b (by have := h.size; omega) (fun e => hr b e.symm hb)).trans (h.same b hb hlt)⟩
end
theorem Own.fr {X : Nat → Prop} {w w' : World} {A : Option Addr} {n c s lo : Nat} {e : TypeId} {cs : List Value} (h : Own w lo e s A n c cs) (hf : Fr X w w') (hX : ∀ b, blk A = some b → X b) : Own w' lo e s A n c cs :=
  h.kept (fun b hb _ hlt => hf.same b (hX b hb) hlt)
theorem Blk.fr {X : Nat → Prop} {w w' : World} {g : Nat} {t : TypeId} {cs : Array Value} (h : Blk w g t cs) (hf : Fr X w w') (hX : X g) : Blk w' g t cs := (hf.same g hX h.lt).trans h
end Go.Proofs.Ytokglpdlhacnaaa

/-
  A step of impl's tagRun beside blocks that stay as they are; its word.
-/
namespace Go.Proofs.Ytokglpdlhacnaaa
open Go.RowKit

def StepXT (X : Nat → Prop) (w w0 : World) (g : Nat) (d : Int) (A : Option Addr) (n c : Nat) (B : Option Addr) (m k : Nat) (xs word : List Int) (e : Ending) (w' : World) : Prop :=
  ∃ Q r, e = .returned (.bool (decide ((xs ++ word).length ≤ 1000))) ∧ RunAt w' g d A n c B m k Q ((xs ++ word).drop d.toNat).length r ∧ Own w' w0.heap.size 2 1 Q ((xs ++ word).drop d.toNat).length r (ints ((xs ++ word).drop d.toNat)) ∧ (∀ b, blk Q = some b → ¬ X b) ∧ Below w0.heap.size w0 w' ∧ Fr X w w'
theorem blk_from (A : Option Addr) (c k : Nat) : blk (if c = k then A else A.map (fun x => x.add k)) = blk A := by
  unfold blk
  split
  · rfl
  · cases A with
    | none => rfl
    | some a =>
      simp only [Option.map_some]
      congr 1
      unfold Addr.add
      split <;> rfl

set_option maxHeartbeats 2000000 in
theorem tagStep_x (X : Nat → Prop) (w0 : World) (g : Nat) (d : Int) (A : Option Addr) (n c : Nat) (ts : List Sl) (B : Option Addr) (m k : Nat) (Q : Option Addr) (l r x0 : Nat) (xs : List Int) (t : Sl) (w : World) (hx : SII w0 A n ts) (hb0 : Below w0.heap.size w0 w) (hg : w0.heap.size ≤ g)
    (hr : RunAt w g d A n c B m k Q l r) (hQ : Own w w0.heap.size 2 1 Q l r (ints xs)) (hXg : Hid (¬ X g)) (hXQ : Hid (∀ b, blk Q = some b → ¬ X b)) (hXt : Hid (∀ b, X b → b < w.heap.size)) (hl : l ≤ 1048576) (hd : 1 ≤ d) (hdl : d ≤ l) (h0 : Hid (xs.headD 0 = (x0 : Int))) (hT : Hid (ts[x0]? = some t)) (hx0 : x0 < n) (htl : t.xs.length ≤ 1048576) :
    Calls Try.prog 195 #[.pointer (some ⟨g, 0, none⟩)] w (StepXT X w w0 g d A n c B m k xs t.xs) := by
  obtain ⟨k0, k1, k2, k3⟩ := runAt_cell hr
  have hl0 : 0 < l := by omega
  obtain ⟨b, off, rfl, hbl, hc⟩ := SI.at0 (xs := xs) hQ.rd hl0
  rw [h0.out] at hc
  obtain ⟨t', b', off', hT', htm, rfl, hbl', hc', hrow⟩ := (hx.below hb0).pick hx0
  obtain rfl : t = t' := by have h1 := hT.out; have h2 := hT'.out; rw [h1] at h2; simpa using h2
  clear hT'
  have i1 : (0 : Int) ≤ (x0 : Int) := by omega
  have i2 : (x0 : Int) < (n : Int) := by omega
  have i3 : (0 : Int) < (l : Int) := by omega
  have hb1 : b' < w0.heap.size := by
    obtain ⟨_, b1, o1, _, _, he, h, _⟩ := hx.pick hx0
    simp only [Option.some.injEq, Addr.mk.injEq, and_true] at he
    omega
  have hbb' : b' ≠ b := by have := hQ.blk_ge b rfl; omega
  have gne := hr.blk_ne hQ
  have HG := Lib.hid gne
  clear gne
  have gz : g < w.heap.size := (Array.getElem?_eq_some_iff.1 hr).1
  go_enter Try.func195, Try.ntmps195
  go_upto_region 1 with fail
  go_cut [2] (fun s2 wx => s2 = .bool false ∧ ∃ A2 c2, RunAt wx g d (some ⟨b', off', none⟩) n c B m k A2 (l + t.xs.length) c2 ∧ Own wx w0.heap.size 2 1 A2 (l + t.xs.length) c2 (ints (xs ++ t.xs)) ∧ Hid (∀ b, blk A2 = some b → ¬ X b) ∧ Below w0.heap.size w0 wx ∧ Fr X w wx)
  case first =>
    go_region_law
      ((refine step_append_Own rfl (.tmp 8) (.tmp 21) rfl elI (lo := w0.heap.size) rfl (by exact hQ.drewN _) rfl (by exact hrow.drewN _) (ints_one t.xs) (by omega) (by simp only [maxLen]; omega) (by exact hb0.size) ?_; intro A2 c2 w2 ho2 hg2 hwh2
        have hr2 : RunAt w2 g d (some ⟨b', off', none⟩) n c B m k (some ⟨b, off, none⟩) l r := RunAt.grown (w := w.drewN 1) hr hg2 HG.out
        have e3 := (runAt_cell hr2).2.2.2
        have f3 := hr2.frozen 3))
    all_goals
      go_wp2_with fail
      go_meet
      refine ⟨rfl, A2, c2, hr2.set3 A2 (l + t.xs.length) c2, ?_, ?_, ?_, ?_⟩
      · rw [← ints_append]
        exact ho2.far (p := ⟨g, 3, none⟩) (hr2.blk_ne ho2) _
      · show ∀ b2, blk A2 = some b2 → ¬ X b2
        intro b2 hb2 hX2
        rcases hwh2.1 with h | h
        · rw [h] at hb2; exact hXQ.out b2 hb2 hX2
        · rw [h] at hb2
          have h9 := hXt.out b2 hX2
          simp at hb2
          omega
      · have hb2 : Below w0.heap.size w0 w2 := (hQ.drewN 1).below_of (below_drewN hb0 1) hg2 hb0.size
        exact hb2.setCell (p := ⟨g, 3, none⟩) hg _
      · exact ((((Fr.refl X w).drewN 1).grown hg2 hXQ.out)).set_ (p := ⟨g, 3, none⟩) hXg.out _
  case rest =>
    obtain ⟨rfl, A2, c2, hr3, ho3, hXA, hb3, hf3⟩ := hcut
    obtain ⟨m0, m1, m2, m3⟩ := runAt_cell hr3
    have f3 := hr3.frozen 3
    clear k0 k1 k2 k3
    obtain ⟨dn, rfl⟩ := Int.eq_ofNat_of_zero_le (show 0 ≤ d by omega)
    have hdn : dn ≤ l + t.xs.length := by omega
    have hcap := ho3.le
    have hbk := Lib.hid (blk_from A2 c2 dn)
    go_wp2_with fail
    go_region
    have ho4 := ho3.from_ hdn
    rw [ints_drop] at ho4
    generalize hA3 : (if c2 = dn then A2 else Option.map (fun x => x.add dn) A2) = A3 at *
    clear hA3
    have hr4 := hr3.set3 A3 (l + t.xs.length - dn) (c2 - dn)
    have ho5 := ho4.far (p := ⟨g, 3, none⟩) (hr3.blk_ne ho4) (.slice A3 (l + t.xs.length - dn) (c2 - dn))
    have hb5 := (hb3.setCell (p := ⟨g, 3, none⟩) hg (.slice A3 (l + t.xs.length - dn) (c2 - dn))).drew
    have hf5 := (hf3.set_ (p := ⟨g, 3, none⟩) hXg.out (.slice A3 (l + t.xs.length - dn) (c2 - dn))).drewN 1
    have HXL : Hid (xs.length = l) := by have := hQ.1; rw [length_ints] at this; show _ = _; omega
    have e1 : ((xs ++ t.xs).drop dn).length = l + t.xs.length - dn := by rw [List.length_drop, List.length_append, HXL.out]
    have E1 := Lib.hid e1
    clear e1
    go_wp2_with fail
    go_ret
    refine ⟨A3, c2 - dn, ret_bool ?_, ?_, ?_, ?_, hb5, hf5⟩
    · rw [List.length_append, HXL.out, decide_eq_decide]; omega
    · rw [Int.toNat_natCast, E1.out]; exact hr4
    · rw [Int.toNat_natCast, E1.out]; exact ho5
    · intro b2 hb2; rw [hbk.out] at hb2; exact hXA.out b2 hb2

theorem tagWord_any (g : Nat) (d : Int) (A : Option Addr) (n c : Nat) (B : Option Addr) (m k : Nat) (Q : Option Addr) (l r : Nat) (w : World) (hr : RunAt w g d A n c B m k Q l r) :
    Calls Try.prog 196 #[.pointer (some ⟨g, 0, none⟩)] w fun e w' => e = .returned (.slice Q l r) ∧ w = w' := by
  obtain ⟨k0, k1, k2, k3⟩ := runAt_cell hr
  go_enter Try.func196, Try.ntmps196
  go_wp2
  go_ret
  exact ⟨rfl, rfl⟩
end Go.Proofs.Ytokglpdlhacnaaa

/-
  Contract of impl.runSystem: a system that makes steps, seen through an interface.
-/
namespace Go.Proofs.Ytokglpdlhacnaaa
open Go.RowKit

/-- What runSystem leaves. -/
def SysP {σ : Type} (s : Sys σ) (c : σ) (N : Nat) (vis : Nat → Bool) (K : Nat → World → Prop) (F : World → Prop) (e : Ending) (w' : World) : Prop :=
  (∃ i, i ≤ N ∧ s.Alive c i ∧ (∀ j, j < i → vis j = true) ∧ (vis i = false ∨ i = N ∨ s.halt (s.it c i) = true) ∧ e = .returned (.tuple #[.int .i64 (i : Int), .bool (s.halt (s.it c i)), .int .i64 0]) ∧ K i w') ∨
  (∃ i, i < N ∧ s.Alive c i ∧ (∀ j, j ≤ i → vis j = true) ∧ s.halt (s.it c i) = false ∧ s.room (s.it c i) = false ∧ e = .returned (.tuple #[.int .i64 0, .bool false, .int .i64 5]) ∧ F w')

theorem vis_next {vis : Nat → Bool} {i : Nat} (h : ∀ j, j < i → vis j = true) (hi : vis i = true) : ∀ j, j ≤ i → vis j = true := fun j hj => by
  by_cases e : j = i
  · subst e; exact hi
  · exact h j (by omega)

set_option maxRecDepth 100000 in
set_option maxHeartbeats 4000000 in
theorem runSystem_any {σ : Type} (s : Sys σ) (c : σ) (N : Nat) (T : TypeId) (v : Value) (fw fh fs fv : FuncId) (lb : Array Value) (vis : Nat → Bool) (I : Nat → World → Prop) (J : Nat → Value → World → Prop) (K : Nat → World → Prop) (F : World → Prop) (w : World)
    (hN : N ≤ 1000000) (mw : ∀ w, (method 337 T v "loop.example/g01079/impl.word").run Try.prog w = .ok (fw, v) w) (mh : ∀ w, (method 337 T v "loop.example/g01079/impl.halts").run Try.prog w = .ok (fh, v) w) (ms : ∀ w, (method 337 T v "loop.example/g01079/impl.step").run Try.prog w = .ok (fs, v) w)
    (cw : ∀ (args : Array Value) (w : World), (callFunc fw args).run Try.prog w = .ok (.enter fw args) w) (ch : ∀ (args : Array Value) (w : World), (callFunc fh args).run Try.prog w = .ok (.enter fh args) w) (cs : ∀ (args : Array Value) (w : World), (callFunc fs args).run Try.prog w = .ok (.enter fs args) w) (hcall : ∀ (args : Array Value) (w : World), (callFunc fv args).run Try.prog w = .ok (.enter fv args) w)
    (hA : ∀ i W, i ≤ N → s.Alive c i → I i W → Calls Try.prog fw #[v] W fun e W' => ∃ u, e = .returned u ∧ J i u W')
    (hB : ∀ i u W, i ≤ N → s.Alive c i → J i u W → Calls Try.prog fv (#[u] ++ lb) W fun e W' => e = .returned (.bool (vis i)) ∧ K i W')
    (hC : ∀ i W, i ≤ N → s.Alive c i → K i W → Calls Try.prog fh #[v] W fun e W' => e = .returned (.bool (s.halt (s.it c i))) ∧ K i W')
    (hD : ∀ i W, i < N → s.Alive c i → s.halt (s.it c i) = false → K i W → Calls Try.prog fs #[v] W fun e W' => e = .returned (.bool (s.room (s.it c i))) ∧ (s.room (s.it c i) = true → I (i + 1) W') ∧ (s.room (s.it c i) = false → F W')) (h0 : I 0 w) :
    Calls Try.prog 83 #[.iface T v, .int .i64 (N : Int), .func (.func fv) #[] lb] w (SysP s c N vis K F) := by
  go_enter Try.func83, Try.ntmps83
  go_wp2_with fail
  have HA := Lib.hid hA
  have HB := Lib.hid hB
  have HC := Lib.hid hC
  have HD := Lib.hid hD
  clear hA hB hC hD
  go_loopw [9] (fun n wr => ∃ i : Nat, n = .int .i64 (i : Int) ∧ i ≤ N ∧ s.Alive c i ∧ Hid (∀ j, j < i → vis j = true) ∧ I i wr) (fun n _ => N - (intOf n).toNat)
  case atStart => exact ⟨0, rfl, Nat.zero_le _, Sys.Alive.zero _ _, fun j h => absurd h (Nat.not_lt_zero j), h0⟩
  case round =>
    obtain ⟨i, rfl, hi, hal, hv, hI⟩ := hrel
    have HAL := Lib.hid hal
    have HA1 := Lib.hid (HA.out i wr hi hal hI)
    clear hal
    go_wp2_with fail
    refine HA1.out.mono ?_
    rintro e W1 ⟨u, rfl, hJ⟩
    have HB1 := Lib.hid (HB.out i u W1 hi HAL.out hJ)
    clear hI HA1
    go_wp2_with fail
    refine HB1.out.mono ?_
    rintro e W2 ⟨rfl, hK⟩
    have HC1 := Lib.hid (HC.out i W2 hi HAL.out hK)
    clear HB1 hJ
    cases hvi : vis i with
    | false =>
      have HVI := Lib.hid hvi
      clear hvi
      go_wp2_with fail
      refine HC1.out.mono ?_
      rintro e W3 ⟨rfl, hK3⟩
      go_wp2_with fail
      exact bodyPost_ret (v := .tuple #[.int .i64 (i : Int), .bool (s.halt (s.it c i)), .int .i64 0]) (by simp [results, Try.results83, go_sem]) rfl (.inl ⟨i, hi, HAL.out, hv.out, .inl HVI.out, rfl, hK3⟩)
    | true =>
      have HVI := Lib.hid hvi
      clear hvi
      by_cases hlt : i < N
      rotate_left
      · have hiN : i = N := by omega
        have HIN := Lib.hid hiN
        have hd : ((i : Int) == (N : Int)) = true := by simp; omega
        clear hiN
        go_wp2_with fail
        refine HC1.out.mono ?_
        rintro e W3 ⟨rfl, hK3⟩
        go_wp2_with fail
        exact bodyPost_ret (v := .tuple #[.int .i64 (i : Int), .bool (s.halt (s.it c i)), .int .i64 0]) (by simp [results, Try.results83, go_sem]) rfl (.inl ⟨i, hi, HAL.out, hv.out, .inr (.inl HIN.out), rfl, hK3⟩)
      have hd : ((i : Int) == (N : Int)) = false := by simp; omega
      go_wp2_with fail
      refine HC1.out.mono ?_
      rintro e W3 ⟨rfl, hK3⟩
      have HC3 := Lib.hid (HC.out i W3 hi HAL.out hK3)
      cases hh : s.halt (s.it c i) with
      | true =>
        have HH := Lib.hid hh
        rw [hh] at HC3
        clear hh
        go_wp2_with fail
        refine HC3.out.mono ?_
        rintro e W4 ⟨rfl, hK4⟩
        go_wp2_with fail
        exact bodyPost_ret (v := .tuple #[.int .i64 (i : Int), .bool true, .int .i64 0]) (by simp [results, Try.results83, go_sem]) rfl (.inl ⟨i, hi, HAL.out, hv.out, .inr (.inr HH.out), by rw [HH.out], hK4⟩)
      | false =>
        have HH := Lib.hid hh
        clear hh
        have HD1 := Lib.hid (HD.out i W3 hlt HAL.out HH.out hK3)
        go_wp2_with fail
        refine HD1.out.mono ?_
        rintro e W4 ⟨rfl, hI4, hF4⟩
        cases hr : s.room (s.it c i) with
        | true =>
          have HR := Lib.hid hr
          have hI5 := hI4 hr
          clear hr hI4 hF4
          go_wp2_with fail
          go_roundw
          case rel => exact ⟨i + 1, by go_num, by omega, HAL.out.step HH.out HR.out, (fun j hj => vis_next hv.out HVI.out j (by omega)), hI5⟩
          case measure => simp [intOf]; omega
        | false =>
          have HR := Lib.hid hr
          have hF5 := hF4 hr
          clear hr hI4 hF4
          go_wp2_with fail
          exact bodyPost_ret (v := .tuple #[.int .i64 0, .bool false, .int .i64 5]) (by simp [results, Try.results83, go_sem]) rfl (.inr ⟨i, hlt, HAL.out, (vis_next hv.out HVI.out), HH.out, HR.out, rfl, hF5⟩)
end Go.Proofs.Ytokglpdlhacnaaa

/-
  A tag system that runs: its state in memory, and runSystem over it.
-/
namespace Go.Proofs.Ytokglpdlhacnaaa
open Go.RowKit

def FrD (D : (Nat → Prop) → World → Prop) : Prop := ∀ X W W', D X W → Fr X W W' → D X W'
/-- The tag system that runs, as the contract speaks of it. -/
structure Tg where
  w0 : World
  g : Nat
  d : Int
  A : Option Addr
  n : Nat
  c : Nat
  ts : List Sl
  B : Option Addr
  m : Nat
  k : Nat
  hs : List Int
  xs : List Int
structure Tg.Ok (p : Tg) : Prop where
  code : tagCodeF p.d (nums p.ts) p.hs p.xs = 0
  words : SII p.w0 p.A p.n p.ts
  halts : SI p.w0 p.B p.m p.hs
  hg : p.w0.heap.size ≤ p.g
  hn : p.n ≤ 1048576
  hm : p.m ≤ 1048576
abbrev Tg.sys (p : Tg) : Sys (List Int) := tagSys p.d (nums p.ts) p.hs
abbrev Tg.it (p : Tg) (i : Nat) : List Int := p.sys.it p.xs i
/-- The system stands behind i steps, its word is the slice Q; X: blocks apart from its own; D: the caller's word on them. -/
structure TgO (p : Tg) (i : Nat) (Q : Option Addr) (r : Nat) (X : Nat → Prop) (W : World) : Prop where
  ng : ¬ X p.g
  lt : ∀ b, X b → b < W.heap.size
  run : RunAt W p.g p.d p.A p.n p.c p.B p.m p.k Q (p.it i).length r
  own : Own W p.w0.heap.size 2 1 Q (p.it i).length r (ints (p.it i))
  nq : ∀ b, blk Q = some b → ¬ X b
  low : Below p.w0.heap.size p.w0 W
def TgV (p : Tg) (i : Nat) (D : (Nat → Prop) → World → Prop) (u : Value) (W : World) : Prop := ∃ Q r X, u = .slice Q (p.it i).length r ∧ TgO p i Q r X W ∧ D X W
def TgS (p : Tg) (i : Nat) (D : (Nat → Prop) → World → Prop) (W : World) : Prop := ∃ u, TgV p i D u W
theorem TgO.drewN {p : Tg} {i : Nat} {Q : Option Addr} {r : Nat} {X : Nat → Prop} {W : World} (h : TgO p i Q r X W) (q : Nat) : TgO p i Q r X (W.drewN q) := ⟨h.ng, h.lt, h.run, h.own.drewN q, h.nq, below_drewN h.low q⟩
theorem TgO.fr {p : Tg} {i : Nat} {Q : Option Addr} {r : Nat} {X : Nat → Prop} {W W' : World} (h : TgO p i Q r X W) (z : Below W.heap.size W W') : TgO p i Q r X W' :=
  ⟨h.ng, fun b hb => by have := h.lt b hb; have := z.size; omega, (z.block p.g (Array.getElem?_eq_some_iff.1 h.run).1).trans h.run, h.own.below z, h.nq, h.low.trans (z.mono h.low.size)⟩

theorem tagHalts_g {p : Tg} {i r : Nat} {Q : Option Addr} {X : Nat → Prop} {W : World} (hp : p.Ok) (hal : p.sys.Alive p.xs i) (h : TgO p i Q r X W) :
    Calls Try.prog 194 #[.pointer (some ⟨p.g, 0, none⟩)] W fun e W' => e = .returned (.bool (p.sys.halt (p.it i))) ∧ ∃ q, W' = W.drewN q := by
  obtain ⟨v1, v2, v3, v4, v5, v6, v7, v8⟩ := tagCode_parts (tagAlive_good hp.code hal)
  exact tagHalts_any p.g p.d p.A p.n p.c p.B p.m p.k p.hs Q _ r (p.it i) W h.run (hp.halts.below h.low) h.own.rd hp.hm (by have : (p.it i).length ≤ 1000 := v4; omega) v1 (Lib.hid v3)
theorem tagStep_g {p : Tg} {i r : Nat} {Q : Option Addr} {X : Nat → Prop} {W : World} (hp : p.Ok) (hal : p.sys.Alive p.xs i) (hh : p.sys.halt (p.it i) = false) (h : TgO p i Q r X W) :
    Calls Try.prog 195 #[.pointer (some ⟨p.g, 0, none⟩)] W fun e W' => e = .returned (.bool (p.sys.room (p.it i))) ∧ (∃ Q' r', TgO p (i + 1) Q' r' X W') ∧ Fr X W W' := by
  obtain ⟨v1, v2, v3, v4, v5, v6, v7, v8⟩ := tagCode_parts (tagAlive_good hp.code hal)
  have hl4 : (p.it i).length ≤ 1000 := v4
  have hdl : p.d ≤ (p.it i).length := haltsB_false hh
  have hnl : (nums p.ts).length = p.n := by have := hp.words.len; simpa [nums] using this
  obtain ⟨x0, hx0, hx0e⟩ := head_letter (xs := p.it i) (n := p.n) (by omega) (by intro x hx'; have := v5 x hx'; rw [hnl] at this; exact this)
  have hlt : x0 < p.ts.length := by have := hp.words.len; omega
  have hT : p.ts[x0]? = some p.ts[x0] := List.getElem?_eq_getElem hlt
  have hw : tagWordOf (nums p.ts) (p.it i) = p.ts[x0].xs := by unfold tagWordOf; rw [hx0e]; simp [nums, hT]
  have htl : p.ts[x0].xs.length ≤ 1000 := v8 _ (List.mem_map.2 ⟨p.ts[x0], List.getElem_mem hlt, rfl⟩)
  refine (tagStep_x X p.w0 p.g p.d p.A p.n p.c p.ts p.B p.m p.k Q _ r x0 (p.it i) p.ts[x0] W hp.words h.low hp.hg h.run h.own (Lib.hid h.ng) (Lib.hid h.nq) (Lib.hid h.lt) (by omega) v1 hdl (Lib.hid hx0e) (Lib.hid hT) hx0 (by omega)).mono ?_
  rintro e W' ⟨Q', r', rfl, hr', ho', hn', hb', hf'⟩
  have hit : p.it (i + 1) = (p.it i ++ p.ts[x0].xs).drop p.d.toNat := by rw [← hw]; rfl
  refine ⟨ret_bool ?_, ⟨Q', r', h.ng, fun b hb => by have := h.lt b hb; have := hf'.size; omega, ?_, ?_, hn', hb'⟩, hf'⟩
  · rw [← hw]; rfl
  · rw [hit]; exact hr'
  · rw [hit]; exact ho'

theorem tagM_word (g : Nat) (w : World) : (method 337 128 (.pointer (some ⟨g, 0, none⟩)) "loop.example/g01079/impl.word").run Try.prog w = .ok (196, .pointer (some ⟨g, 0, none⟩)) w := by kernel_rfl
theorem tagM_halts (g : Nat) (w : World) : (method 337 128 (.pointer (some ⟨g, 0, none⟩)) "loop.example/g01079/impl.halts").run Try.prog w = .ok (194, .pointer (some ⟨g, 0, none⟩)) w := by kernel_rfl
theorem tagM_step (g : Nat) (w : World) : (method 337 128 (.pointer (some ⟨g, 0, none⟩)) "loop.example/g01079/impl.step").run Try.prog w = .ok (195, .pointer (some ⟨g, 0, none⟩)) w := by kernel_rfl

theorem runTagSys (p : Tg) (hp : p.Ok) (N : Nat) (fv : FuncId) (lb : Array Value) (vis : Nat → Bool) (D : Nat → (Nat → Prop) → World → Prop) (hD : ∀ i, FrD (D i)) (w : World) (hN : N ≤ 1000000)
    (hcall : ∀ (args : Array Value) (w : World), (callFunc fv args).run Try.prog w = .ok (.enter fv args) w)
    (hB : ∀ i u W, i ≤ N → p.sys.Alive p.xs i → TgV p i (D i) u W → Calls Try.prog fv (#[u] ++ lb) W fun e W' => e = .returned (.bool (vis i)) ∧ TgS p i (D (i + 1)) W') (h0 : TgS p 0 (D 0) w) :
    Calls Try.prog 83 #[.iface 128 (.pointer (some ⟨p.g, 0, none⟩)), .int .i64 (N : Int), .func (.func fv) #[] lb] w (SysP p.sys p.xs N vis (fun i W => TgS p i (D (i + 1)) W) (fun W => Below p.w0.heap.size p.w0 W)) := by
  refine runSystem_any p.sys p.xs N _ _ _ _ _ fv lb vis (fun i W => TgS p i (D i) W) (fun i u W => TgV p i (D i) u W) _ _ w hN (tagM_word p.g) (tagM_halts p.g) (tagM_step p.g) Try.call196 Try.call194 Try.call195 hcall ?_ hB ?_ ?_ h0
  · rintro i W _ _ ⟨u, Q, r, X, rfl, ho, hd⟩
    exact (tagWord_any p.g p.d p.A p.n p.c p.B p.m p.k Q _ r W ho.run).mono fun e W' ⟨he, hW⟩ => ⟨_, he, Q, r, X, rfl, hW ▸ ho, hW ▸ hd⟩
  · rintro i W _ hal ⟨u, Q, r, X, rfl, ho, hd⟩
    refine (tagHalts_g hp hal ho).mono ?_
    rintro e W' ⟨he, q, rfl⟩
    exact ⟨he, _, Q, r, X, rfl, ho.drewN q, hD _ X W _ hd ((Fr.refl X W).drewN q)⟩
  · rintro i W _ hal hh ⟨u, Q, r, X, rfl, ho, hd⟩
    refine (tagStep_g hp hal hh ho).mono ?_
    rintro e W' ⟨he, ⟨Q', r', ho'⟩, hf⟩
    exact ⟨he, fun _ => ⟨_, Q', r', X, rfl, ho', hD _ X W _ hd hf⟩, fun _ => ho'.low⟩
end Go.Proofs.Ytokglpdlhacnaaa

/-
  Contracts of the reference's smallest functions: l00In, l00Own.
-/
namespace Go.Proofs.Ytokglpdlhacnaaa
open Go.RowKit

set_option maxHeartbeats 400000 in
theorem l00In_any (n lo hi : Int) (w : World) :
    Calls Try.prog 110 #[.int .i64 n, .int .i64 lo, .int .i64 hi] w fun e w' => e = .returned (.bool (inB n lo hi)) ∧ w = w' := by
  by_cases h1 : lo ≤ n <;> by_cases h2 : n ≤ hi
  all_goals
    go_enter Try.func110, Try.ntmps110
    go_wp2
    go_ret
    exact ⟨ret_bool (by simp [inB]; omega), rfl⟩

theorem l00In_is {n lo hi : Int} {b : Bool} (h : inB n lo hi = b) (w : World) :
    Calls Try.prog 110 #[.int .i64 n, .int .i64 lo, .int .i64 hi] w fun e w' => e = .returned (.bool b) ∧ w = w' := h ▸ l00In_any n lo hi w

set_option maxHeartbeats 400000 in
theorem l00Own_any (A : Option Addr) (n c : Nat) (xs : List Int) (w : World) (hx : SI w A n xs) (hn : n ≤ 1048576) :
    Calls Try.prog 91 #[.slice A n c] w (NewI w xs) := by
  have HL := Lib.hid hx.len
  go_enter Try.func91, Try.ntmps91
  go_wp2_with (at_builtin; refine wpList_append_Own rfl (.tmp 3) (.tmp 4) rfl elI (lo := w.heap.size) rfl (Own.lit0 w _ 1) rfl (Rd.alloc hx _) (ints_one xs) (by omega) (by simp only [maxLen]; omega) (by simp) ?_; intro A2 c2 w2 ho2 hg2 _)
  go_ret
  have hbb := (Own.lit0 w 2 1).below_of ((Below.refl _ _).alloc (Nat.le_refl _) _) hg2 (by simp)
  simp only [List.nil_append] at ho2
  refine ⟨A2, c2, ?_, ?_, hbb⟩
  · rw [HL.out]; simp
  · rw [HL.out]; simpa using ho2

end Go.Proofs.Ytokglpdlhacnaaa

/-
  Contract of the reference's l05Budget.
-/
namespace Go.Proofs.Ytokglpdlhacnaaa
open Go.RowKit

theorem l05Budget_any (b : Int) (w : World) : Calls Try.prog 59 #[.int .i64 b] w fun e w' => e = .returned (.bool (inB b 1 20000)) ∧ w = w' := by
  go_enter Try.func59, Try.ntmps59
  go_wp2_with (go_at_call 110; refine (l00In_any _ _ _ _).mono ?_; rintro e w' ⟨rfl, rfl⟩)
  go_ret
  exact ⟨rfl, rfl⟩
theorem l05Budget_is {b : Int} {v : Bool} (h : inB b 1 20000 = v) (w : World) : Calls Try.prog 59 #[.int .i64 b] w fun e w' => e = .returned (.bool v) ∧ w = w' := h ▸ l05Budget_any b w
end Go.Proofs.Ytokglpdlhacnaaa

/-
  Budgets: impl.budgetOk, spec.l05Budget.
-/
namespace Go.Proofs.Ytokglpdlhacnaaa
open Go.RowKit
theorem budgetOk_any (b : Int) (w : World) : Calls Try.prog 41 #[.int .i64 b] w fun e w' => e = .returned (.bool (inB b 1 20000)) ∧ w = w' := by
  go_enter Try.func41, Try.ntmps41
  go_wp2_with (go_at_call 42; refine (within_any _ _ _ _).mono ?_; rintro e w' ⟨rfl, rfl⟩)
  go_ret
  exact ⟨rfl, rfl⟩
theorem budgetOk_is {b : Int} {v : Bool} (h : inB b 1 20000 = v) (w : World) : Calls Try.prog 41 #[.int .i64 b] w fun e w' => e = .returned (.bool v) ∧ w = w' := h ▸ budgetOk_any b w
end Go.Proofs.Ytokglpdlhacnaaa

/-
  Contract of impl.RunTag.
-/
namespace Go.Proofs.Ytokglpdlhacnaaa
open Go.RowKit

/-- A new slice, a number, a Bool and a code. -/
def NewI4 (w : World) (r : List Int × Int × Bool × Int) (e : Ending) (w' : World) : Prop :=
  ∃ A c, e = .returned (.tuple #[.slice A r.1.length c, .int .i64 r.2.1, .bool r.2.2.1, .int .i64 r.2.2.2]) ∧ Own w' w.heap.size 2 1 A r.1.length c (ints r.1) ∧ Below w.heap.size w w'
theorem i4_nil {w wf : World} {k : Int} {r : List Int × Int × Bool × Int} (hr : r = ([], 0, false, k)) (hz : Below w.heap.size w wf) : NewI4 w r (.returned (.tuple #[.slice none 0 0, .int .i64 0, .bool false, .int .i64 k])) wf := by
  subst hr; exact ⟨none, 0, rfl, Own.nil, hz⟩
theorem i4_of {w wf : World} {n' k : Int} {b : Bool} {r : List Int × Int × Bool × Int} {xs : List Int} {A : Option Addr} {n c : Nat} (hr : r = (xs, n', b, k)) (hn : n = xs.length) (ho : Own wf w.heap.size 2 1 A n c (ints xs)) (hz : Below w.heap.size w wf) : NewI4 w r (.returned (.tuple #[.slice A n c, .int .i64 n', .bool b, .int .i64 k])) wf := by
  subst hr; subst hn; exact ⟨A, c, rfl, ho, hz⟩
theorem runTagF_bad {d : Int} {words : List (List Int)} {hs xs : List Int} {b : Int} (h : tagCodeF d words hs xs = 1) : runTagF d words hs xs b = ([], 0, false, 1) := by unfold runTagF; rw [h]; simp
theorem runTagF_range {d : Int} {words : List (List Int)} {hs xs : List Int} {b : Int} (h : tagCodeF d words hs xs = 0) (h1 : inB b 1 20000 = false) : runTagF d words hs xs b = ([], 0, false, 2) := by unfold runTagF; rw [h, h1]; simp
theorem runTagF_ended {d : Int} {words : List (List Int)} {hs xs : List Int} {N i : Nat} (h : tagCodeF d words hs xs = 0) (h1 : inB (N : Int) 1 20000 = true) (h2 : (tagSys d words hs).Ended xs N i) :
    runTagF d words hs xs (N : Int) = ((tagSys d words hs).it xs i, (i : Int), haltsB d hs ((tagSys d words hs).it xs i), 0) := by
  unfold runTagF; rw [h, h1, Int.toNat_natCast, Sys.run_ended h2]; simp
theorem runTagF_full {d : Int} {words : List (List Int)} {hs xs : List Int} {N i : Nat} (h : tagCodeF d words hs xs = 0) (h1 : inB (N : Int) 1 20000 = true) (h2 : (tagSys d words hs).Full xs N i) :
    runTagF d words hs xs (N : Int) = ([], 0, false, 5) := by
  unfold runTagF; rw [h, h1, Int.toNat_natCast, Sys.run_full h2]; simp
theorem runTagF_len (d : Int) (words : List (List Int)) (hs xs : List Int) (b : Int) : (runTagF d words hs xs b).1.length ≤ 1048576 := by
  unfold runTagF
  split
  · rename_i h
    split
    · split
      · rename_i i hi
        have := (tagCode_parts (tagAlive_good h (Sys.run_alive hi))).2.2.2.1
        show ((tagSys d words hs).it xs i).length ≤ _
        omega
      · simp
    · simp
  · simp

theorem all_any (v : Value) (w : World) : Calls Try.prog 88 #[v] w fun e w' => e = .returned (.bool true) ∧ w = w' := by
  go_enter Try.func88, Try.ntmps88
  go_wp2_with fail
  go_ret
  exact ⟨rfl, rfl⟩

set_option maxRecDepth 100000 in
set_option maxHeartbeats 4000000 in
theorem runTagI_any (d : Int) (A : Option Addr) (n c : Nat) (ts : List Sl) (B : Option Addr) (m k : Nat) (hs : List Int) (C : Option Addr) (l r : Nat) (xs : List Int) (b : Int) (w : World) (hx : SII w A n ts) (hy : SI w B m hs) (hz : SI w C l xs) (hn : n ≤ 1048576) (hm : m ≤ 1048576) (hns : ∀ t ∈ ts, t.xs.length ≤ 1048576) (hl : l ≤ 1048576) :
    Calls Try.prog 35 #[.agg #[.int .i64 d, .slice A n c, .slice B m k], .slice C l r, .int .i64 b] w (NewI4 w (runTagF d (nums ts) hs xs b)) := by
  obtain ⟨W, hW_⟩ : ∃ W, W = w.alloc (.cells #[.int .i64 d, .slice A n c, .slice B m k] 70) := ⟨_, rfl⟩
  have b0 : Blk W w.heap.size 70 #[.int .i64 d, .slice A n c, .slice B m k] := by rw [hW_]; exact Blk.new w _ _
  have y0 : Below w.heap.size w W := by rw [hW_]; exact (Below.refl _ _).alloc (Nat.le_refl _) _
  have HW := Lib.hid hW_
  clear hW_
  have q0 : W.cell? ⟨w.heap.size, 0, none⟩ = some (.int .i64 d) := b0.cell 0
  have q1 : W.cell? ⟨w.heap.size, 1, none⟩ = some (.slice A n c) := b0.cell 1
  have q2 : W.cell? ⟨w.heap.size, 2, none⟩ = some (.slice B m k) := b0.cell 2
  have HNS := Lib.hid hns
  clear hns
  go_enter Try.func35, Try.ntmps35
  go_wp2_with fail
  rw [← HW.out]
  refine (tagCode_any _ _ _ _ ts _ _ _ hs _ _ _ xs _ (hx.below y0) (hy.below y0) (hz.below y0) hn hm hl (fun t ht => by have := HNS.out t ht; omega)).mono ?_
  rintro e w2 ⟨rfl, hb2⟩
  have y2 := y0.trans (hb2.mono y0.size)
  have b2 := b0.below' hb2
  clear q0 q1 q2
  have q0 : w2.cell? ⟨w.heap.size, 0, none⟩ = some (.int .i64 d) := b2.cell 0
  have q1 : w2.cell? ⟨w.heap.size, 1, none⟩ = some (.slice A n c) := b2.cell 1
  have q2 : w2.cell? ⟨w.heap.size, 2, none⟩ = some (.slice B m k) := b2.cell 2
  rcases tagCode_01 d (nums ts) hs xs with hcode | hcode
  rotate_left
  · have HF := Lib.hid (runTagF_bad (b := b) hcode)
    rw [hcode]
    clear hcode
    go_wp2_with fail
    exact bodyPost_ret (v := .tuple #[.slice none 0 0, .int .i64 0, .bool false, .int .i64 1]) (by simp [results, Try.results35, go_sem]) rfl (i4_nil HF.out y2)
  have HC := Lib.hid hcode
  rw [hcode]
  clear hcode
  cases a2 : inB b 1 20000
  · have HF := Lib.hid (runTagF_range HC.out a2)
    have A2 := Lib.hid a2
    clear a2
    go_wp2_with (go_at_call 41; refine (budgetOk_is A2.out _).mono ?_; rintro e w' ⟨rfl, rfl⟩)
    exact bodyPost_ret (v := .tuple #[.slice none 0 0, .int .i64 0, .bool false, .int .i64 2]) (by simp [results, Try.results35, go_sem]) rfl (i4_nil HF.out y2)
  have A2 := Lib.hid a2
  have hb := (inB_iff _ _ _).1 a2
  obtain ⟨N, rfl⟩ : ∃ N : Nat, b = (N : Int) := ⟨b.toNat, by omega⟩
  clear a2
  go_wp2_with (go_at_call 41; refine (budgetOk_is A2.out _).mono ?_; rintro e w' ⟨rfl, rfl⟩)
  refine (tagRunOf_any _ _ _ _ _ _ _ _ _ _ xs _ (hz.below y2) hl).mono ?_
  rintro e w3 ⟨g, Q, r3, rfl, hg3, hr3, ho3, hb3⟩
  have y3 := y2.trans (hb3.mono y2.size)
  clear q0 q1 q2
  obtain ⟨p, hp⟩ : ∃ p : Tg, p = ⟨w2, g, d, A, n, c, ts, B, m, k, hs, xs⟩ := ⟨_, rfl⟩
  have hok : p.Ok := by rw [hp]; exact ⟨HC.out, hx.below y2, hy.below y2, hg3, hn, hm⟩
  have h0 : TgS p 0 (fun _ _ => True) w3 := by
    rw [hp]
    exact ⟨_, Q, r3, fun _ => False, rfl, ⟨id, fun _ h => h.elim, hr3, ho3, fun _ _ h => h, hb3⟩, trivial⟩
  have hrun := runTagSys p hok N 88 #[] (fun _ => true) (fun _ _ _ => True) (fun _ _ _ _ _ _ => trivial) w3 (by omega) Try.call88 (fun i u W _ _ hv => (all_any u W).mono fun e W' ⟨he, hW⟩ => ⟨he, u, hW ▸ hv⟩) h0
  have hpg : p.g = g := by rw [hp]
  rw [hpg] at hrun
  have HRUN := Lib.hid hrun
  have HP := Lib.hid hp
  clear hrun hp h0 hpg hok
  go_wp2_with fail
  refine HRUN.out.mono ?_
  rintro e w4 (⟨i, hi, hal, _, hend, rfl, ⟨u, Q4, r4, X, _, ho, _⟩⟩ | ⟨i, hi, hal, _, hh, hro, rfl, hF⟩)
  · have hen : (tagSys d (nums ts) hs).Ended xs N i := by
      rw [HP.out] at hal hend
      exact ⟨hi, hal, by rcases hend with h | h | h; · cases h
                         · exact .inl h
                         · exact .inr h⟩
    have HF := Lib.hid (runTagF_ended HC.out A2.out hen)
    have hit : p.it i = (tagSys d (nums ts) hs).it xs i := by rw [HP.out]
    have hhal : p.sys.halt (p.it i) = haltsB d hs ((tagSys d (nums ts) hs).it xs i) := by rw [HP.out]; rfl
    have hlow : Below w2.heap.size w2 w4 := by have := ho.low; rwa [HP.out] at this
    have hrn : RunAt w4 g d A n c B m k Q4 (p.it i).length r4 := by have := ho.run; rwa [HP.out] at this ⊢
    have hown := ho.own.rd
    rw [hit] at hrn hown
    rw [show p.sys.halt (p.sys.it p.xs i) = _ from hhal]
    have hlen := (tagCode_parts (tagAlive_good HC.out hen.2.1)).2.2.2.1
    have y4 := y2.trans (hlow.mono y2.size)
    clear ho hal hend hen hit hhal
    generalize (tagSys d (nums ts) hs).it xs i = zs at *
    have k3 : w4.cell? ⟨g, 3, none⟩ = some (.slice Q4 zs.length r4) := (runAt_cell hrn).2.2.2
    go_wp2_with fail
    refine (cloneI_any _ _ _ zs _ hown (by omega)).mono ?_
    rintro e w5 ⟨A5, c5, rfl, ho5, hb5⟩
    go_wp2_with fail
    exact bodyPost_ret (v := .tuple #[.slice A5 zs.length c5, .int .i64 (i : Int), .bool (haltsB d hs zs), .int .i64 0]) (by simp [results, Try.results35, go_sem]) rfl (i4_of HF.out rfl (ho5.mono y4.size) (y4.trans (hb5.mono y4.size)))
  · have hfu : (tagSys d (nums ts) hs).Full xs N i := by
      rw [HP.out] at hal hh hro
      exact ⟨hi, hal, hh, hro⟩
    have HF := Lib.hid (runTagF_full HC.out A2.out hfu)
    have hlow : Below w2.heap.size w2 w4 := by have := hF; rwa [HP.out] at this
    clear hal hh hro hfu
    go_wp2_with fail
    exact bodyPost_ret (v := .tuple #[.slice none 0 0, .int .i64 0, .bool false, .int .i64 5]) (by simp [results, Try.results35, go_sem]) rfl (i4_nil HF.out (y2.trans (hlow.mono y2.size)))
end Go.Proofs.Ytokglpdlhacnaaa

/-
  Rounds that write into blocks of the caller's own, for tag systems.
-/
namespace Go.Proofs.Ytokglpdlhacnaaa
open Go.RowKit

/-- Blocks outside Y are as they were. -/
structure Keep (Y : Nat → Prop) (W W' : World) : Prop where
  os : W'.os = W.os
  tape : W'.tape = W.tape
  output : W'.output = W.output
  size : W.heap.size ≤ W'.heap.size
  block : ∀ b, b < W.heap.size → ¬ Y b → W'.heap[b]? = W.heap[b]?
section
variable {Y : Nat → Prop} {a W W' : World}
theorem Keep.refl (Y : Nat → Prop) (W : World) : Keep Y W W := ⟨rfl, rfl, rfl, Nat.le_refl _, fun _ _ _ => rfl⟩
theorem Keep.drewN (h : Keep Y a W) (n : Nat) : Keep Y a (W.drewN n) := ⟨h.os, h.tape, h.output, h.size, h.block⟩
theorem Keep.below (h : Keep Y a W) (z : Below W.heap.size W W') : Keep Y a W' := ⟨z.os.trans h.os, z.tape.trans h.tape, z.output.trans h.output, Nat.le_trans h.size z.size, fun b hb hy => (z.block b (by have := h.size; omega)).trans (h.block b hb hy)⟩
theorem Keep.set (h : Keep Y a W) {b o : Nat} (hb : Y b) (u : Value) : Keep Y a (W.setCell ⟨b, o, none⟩ u) :=
  ⟨h.os, h.tape, h.output, by simpa [World.setCell] using h.size, fun k hk hy => (Below.heap_setCell W ⟨b, o, none⟩ u k (fun e => hy (by rw [e]; exact hb))).trans (h.block k hk hy)⟩
theorem Keep.alloc (h : Keep Y a W) (o : Obj) : Keep Y a (W.alloc o) := ⟨h.os, h.tape, h.output, Nat.le_trans h.size (by simp), fun k hk hy => (Below.heap_alloc W o k (by have := h.size; omega)).trans (h.block k hk hy)⟩
theorem Keep.grown {row : Option Nat} (h : Keep Y a W) (hg : W.grownBy W' row) (hr : ∀ b, row = some b → Y b) : Keep Y a W' :=
  ⟨hg.os.trans h.os, hg.tape.trans h.tape, hg.output.trans h.output, Nat.le_trans h.size hg.size, fun k hk hy => (hg.block k (by have := h.size; omega) (fun e => hy (hr k e.symm))).trans (h.block k hk hy)⟩
theorem Keep.blk {b : Nat} {t : TypeId} {cs : Array Value} (k : Keep Y W W') (h : Blk W b t cs) (hn : ¬ Y b) : Blk W' b t cs := (k.block b h.lt hn).trans h
end
/-- The blocks of X, and new ones. -/
def XGrow (X : Nat → Prop) (s e : Nat) (b : Nat) : Prop := X b ∨ (s ≤ b ∧ b < e)
theorem TgO.turn {p : Tg} {i r : Nat} {Q : Option Addr} {X Y : Nat → Prop} {W W' : World} (h : TgO p i Q r X W) (k : Keep Y W W') (hY : ∀ b, Y b → X b ∧ p.w0.heap.size ≤ b) : TgO p i Q r (XGrow X W.heap.size W'.heap.size) W' := by
  have hg : p.g < W.heap.size := (Array.getElem?_eq_some_iff.1 h.run).1
  refine ⟨?_, ?_, ?_, ?_, ?_, ?_⟩
  · rintro (h1 | ⟨h1, _⟩)
    · exact h.ng h1
    · omega
  · rintro b (h1 | ⟨_, h1⟩)
    · have := h.lt b h1; have := k.size; omega
    · exact h1
  · exact (k.block p.g hg (fun hy => h.ng (hY _ hy).1)).trans h.run
  · exact h.own.kept fun b hb _ hlt => k.block b hlt (fun hy => h.nq b hb (hY b hy).1)
  · rintro b hb (h1 | ⟨h1, _⟩)
    · exact h.nq b hb h1
    · have := h.own.blk_lt b hb; omega
  · exact ⟨k.os.trans h.low.os, k.tape.trans h.low.tape, k.output.trans h.low.output, Nat.le_trans h.low.size k.size, fun b hb => (k.block b (by have := h.low.size; omega) (fun hy => by have := (hY b hy).2; omega)).trans (h.low.block b hb)⟩
end Go.Proofs.Ytokglpdlhacnaaa

/-
  What TraceTag returns; slices of rows that grow.
-/
namespace Go.Proofs.Ytokglpdlhacnaaa
open Go.RowKit

/-- The first i words of a run. -/
def wordsTo (s : Sys (List Int)) (xs : List Int) (i : Nat) : List (List Int) := (List.range i).map (s.it xs)
theorem wordsTo_next (s : Sys (List Int)) (xs : List Int) (i : Nat) : wordsTo s xs (i + 1) = wordsTo s xs i ++ [s.it xs i] := by unfold wordsTo; rw [List.range_succ]; simp
theorem wordsTo_len (s : Sys (List Int)) (xs : List Int) (i : Nat) : (wordsTo s xs i).length = i := by simp [wordsTo]
def traceTagF (d : Int) (words : List (List Int)) (hs xs : List Int) (b : Int) : List (List Int) × Int :=
  if tagCodeF d words hs xs = 0 then
    if inB b 0 60 then
      match (tagSys d words hs).run b.toNat xs with
      | some i => (wordsTo (tagSys d words hs) xs (i + 1), 0)
      | none => ([], 5)
    else ([], 2)
  else ([], 1)
theorem traceTagF_bad {d : Int} {words : List (List Int)} {hs xs : List Int} {b : Int} (h : tagCodeF d words hs xs = 1) : traceTagF d words hs xs b = ([], 1) := by unfold traceTagF; rw [h]; simp
theorem traceTagF_range {d : Int} {words : List (List Int)} {hs xs : List Int} {b : Int} (h : tagCodeF d words hs xs = 0) (h1 : inB b 0 60 = false) : traceTagF d words hs xs b = ([], 2) := by unfold traceTagF; rw [h, h1]; simp
theorem traceTagF_ended {d : Int} {words : List (List Int)} {hs xs : List Int} {N i : Nat} (h : tagCodeF d words hs xs = 0) (h1 : inB (N : Int) 0 60 = true) (h2 : (tagSys d words hs).Ended xs N i) :
    traceTagF d words hs xs (N : Int) = (wordsTo (tagSys d words hs) xs (i + 1), 0) := by
  unfold traceTagF; rw [h, h1, Int.toNat_natCast, Sys.run_ended h2]; simp
theorem traceTagF_full {d : Int} {words : List (List Int)} {hs xs : List Int} {N i : Nat} (h : tagCodeF d words hs xs = 0) (h1 : inB (N : Int) 0 60 = true) (h2 : (tagSys d words hs).Full xs N i) :
    traceTagF d words hs xs (N : Int) = ([], 5) := by
  unfold traceTagF; rw [h, h1, Int.toNat_natCast, Sys.run_full h2]; simp
theorem Sys.run_le {σ : Type} {s : Sys σ} : ∀ {N : Nat} {c : σ} {i : Nat}, s.run N c = some i → i ≤ N := by
  intro N
  induction N with
  | zero => intro c i h; unfold Sys.run at h; cases h; omega
  | succ N ih =>
    intro c i h
    unfold Sys.run at h
    split at h
    · cases h; omega
    · split at h
      · cases h3 : s.run N (s.next c) with
        | none => rw [h3] at h; cases h
        | some j =>
          rw [h3] at h
          have h4 := ih h3
          obtain rfl : j + 1 = i := by simpa using h
          omega
      · cases h
theorem sum_le {M : List (List Int)} {b : Nat} (h : ∀ x ∈ M, x.length ≤ b) : (M.map List.length).sum ≤ M.length * b := by
  induction M with
  | nil => simp
  | cons x r ih =>
    have h1 := h x (by simp)
    have h2 := ih (fun y hy => h y (by simp [hy]))
    simp only [List.map_cons, List.sum_cons, List.length_cons, Nat.succ_mul]
    omega
theorem traceTagF_len (d : Int) (words : List (List Int)) (hs xs : List Int) (b : Int) : (traceTagF d words hs xs b).1.length ≤ 1048576 ∧ ((traceTagF d words hs xs b).1.map List.length).sum ≤ 1048576 := by
  unfold traceTagF
  split
  · rename_i h
    split
    · rename_i h1
      have hb := (inB_iff _ _ _).1 h1
      split
      · rename_i i hi
        have h2 := Sys.run_le hi
        have h3 := Sys.run_alive hi
        have h4 : (wordsTo (tagSys d words hs) xs (i + 1)).length = i + 1 := wordsTo_len _ _ _
        have h5 := sum_le (M := wordsTo (tagSys d words hs) xs (i + 1)) (b := 1000) (fun x hx => by
          simp only [wordsTo, List.mem_map, List.mem_range] at hx
          obtain ⟨j, hj, rfl⟩ := hx
          exact (tagCode_parts (tagAlive_good h (fun k hk => h3 k (by omega)))).2.2.2.1)
        rw [h4] at h5
        exact ⟨by show (wordsTo (tagSys d words hs) xs (i + 1)).length ≤ _; omega, by show ((wordsTo (tagSys d words hs) xs (i + 1)).map List.length).sum ≤ _; omega⟩
      · simp
    · simp
  · simp
/-- A new slice of rows, and a code. -/
def NewII (w : World) (r : List (List Int) × Int) (e : Ending) (w' : World) : Prop :=
  ∃ A c us, e = .returned (.tuple #[.slice A r.1.length c, .int .i64 r.2]) ∧ OII w' w.heap.size 27 2 A r.1.length c us ∧ nums us = r.1 ∧ Below w.heap.size w w'
theorem newII_nil {w wf : World} {k : Int} {r : List (List Int) × Int} (hr : r = ([], k)) (hz : Below w.heap.size w wf) : NewII w r (.returned (.tuple #[.slice none 0 0, .int .i64 k])) wf := by
  subst hr; exact ⟨none, 0, [], rfl, OII.nil Own.nil, rfl, hz⟩
theorem newII_of {w wf : World} {k : Int} {r : List (List Int) × Int} {A : Option Addr} {n c : Nat} {us : List Sl} {M : List (List Int)} (hr : r = (M, k)) (hM : nums us = M) (ho : OII wf w.heap.size 27 2 A n c us) (hz : Below w.heap.size w wf) : NewII w r (.returned (.tuple #[.slice A n c, .int .i64 k])) wf := by
  subst hr; subst hM
  have hn : (nums us).length = n := by have := ho.len; simpa [nums] using this
  subst hn
  exact ⟨A, c, us, rfl, ho, rfl, hz⟩
end Go.Proofs.Ytokglpdlhacnaaa
