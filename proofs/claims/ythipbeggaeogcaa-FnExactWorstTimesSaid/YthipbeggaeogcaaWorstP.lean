/-
  Plain words for the greatest times of the words of each length.
-/
import Derived.Test.YthipbeggaeogcaaTimeS
namespace Go.Proofs.Ythipbeggaeogcaa
open Go.RowKit

/-- All words of n letters over 0 .. L - 1, in order. -/
def wordsL (L : Nat) : Nat → List (List Int)
  | 0 => [[]]
  | n + 1 => (wordsL L n).flatMap (fun w => (List.range L).map (fun l : Nat => w ++ [(l : Int)]))
def upW (w : List Int) : List Int := w.map (· + 1)
theorem mem_wordsL {L n : Nat} {w : List Int} : w ∈ wordsL L n ↔ w.length = n ∧ ∀ x ∈ w, 0 ≤ x ∧ x < (L : Int) := by
  induction n generalizing w with
  | zero =>
    simp only [wordsL, List.mem_singleton]
    constructor
    · rintro rfl; simp
    · rintro ⟨h, _⟩; exact List.eq_nil_of_length_eq_zero h
  | succ n ih =>
    simp only [wordsL, List.mem_flatMap, List.mem_map, List.mem_range]
    constructor
    · rintro ⟨u, hu, l, hl, rfl⟩
      obtain ⟨h1, h2⟩ := ih.1 hu
      refine ⟨by simp [h1], fun x hx => ?_⟩
      rcases List.mem_append.1 hx with hx | hx
      · exact h2 x hx
      · simp at hx; subst hx; omega
    · rintro ⟨h1, h2⟩
      have hne : w ≠ [] := by rintro rfl; simp at h1
      have hl := h2 (w.getLast hne) (List.getLast_mem hne)
      refine ⟨w.dropLast, ih.2 ⟨by simp [h1], fun x hx => h2 x ((List.dropLast_sublist w).mem hx)⟩, (w.getLast hne).toNat, by omega, ?_⟩
      rw [Int.toNat_of_nonneg hl.1]
      exact List.dropLast_concat_getLast hne
/-- The n lowest digits of a number, each one more. -/
def digs (L : Nat) : Nat → Nat → List Int
  | 0, _ => []
  | n + 1, k => (1 + ((k % L : Nat) : Int)) :: digs L n (k / L)
theorem digs_len (L n k : Nat) : (digs L n k).length = n := by
  induction n generalizing k with
  | zero => rfl
  | succ n ih => simp [digs, ih]
theorem digs_snoc (L n k : Nat) : digs L (n + 1) k = digs L n k ++ [1 + ((k / L ^ n % L : Nat) : Int)] := by
  induction n generalizing k with
  | zero => simp [digs]
  | succ n ih =>
    rw [digs, ih (k / L), digs, List.cons_append, Nat.div_div_eq_div_mul, Nat.pow_succ, Nat.mul_comm L (L ^ n)]
/-- The reference's words of n letters, in its order. -/
def wordsD (L n : Nat) : List (List Int) := (List.range (L ^ n)).map (digs L n)
theorem mem_wordsD {L n : Nat} (hL : 0 < L) {w : List Int} : w ∈ wordsD L n ↔ w.length = n ∧ ∀ x ∈ w, 1 ≤ x ∧ x ≤ (L : Int) := by
  unfold wordsD
  simp only [List.mem_map, List.mem_range]
  constructor
  · rintro ⟨k, _, rfl⟩
    refine ⟨digs_len _ _ _, ?_⟩
    have key : ∀ n k, ∀ x ∈ digs L n k, 1 ≤ x ∧ x ≤ (L : Int) := by
      intro n
      induction n with
      | zero => intro k x hx; simp [digs] at hx
      | succ n ih =>
        intro k x hx
        rcases List.mem_cons.1 hx with rfl | hx
        · have := Nat.mod_lt k hL; omega
        · exact ih _ x hx
    exact key n k
  · rintro ⟨h1, h2⟩
    have key : ∀ n (w : List Int), w.length = n → (∀ x ∈ w, 1 ≤ x ∧ x ≤ (L : Int)) → ∃ k, k < L ^ n ∧ digs L n k = w := by
      intro n
      induction n with
      | zero => intro w h _; exact ⟨0, by simp, by rw [List.eq_nil_of_length_eq_zero h]; rfl⟩
      | succ n ih =>
        intro w h hw
        cases w with
        | nil => simp at h
        | cons x r =>
          obtain ⟨k, hk, hr⟩ := ih r (by simpa using h) (fun y hy => hw y (List.mem_cons_of_mem _ hy))
          obtain ⟨hx1, hx2⟩ := hw x List.mem_cons_self
          obtain ⟨d, rfl⟩ : ∃ d : Nat, x = 1 + (d : Int) := ⟨(x - 1).toNat, by omega⟩
          have hd : d < L := by omega
          refine ⟨d + L * k, ?_, ?_⟩
          · have e1 : L ^ (n + 1) = L * L ^ n := by rw [Nat.pow_succ, Nat.mul_comm]
            have h2 : L * (k + 1) ≤ L * L ^ n := Nat.mul_le_mul_left L hk
            rw [Nat.mul_succ] at h2
            omega
          · rw [digs, Nat.add_mul_mod_self_left, Nat.mod_eq_of_lt hd, Nat.add_mul_div_left _ _ hL, Nat.div_eq_of_lt hd, Nat.zero_add, hr]
    exact key n w h1 h2
theorem mem_up {L n : Nat} {w : List Int} : w ∈ (wordsL L n).map upW ↔ w.length = n ∧ ∀ x ∈ w, 1 ≤ x ∧ x ≤ (L : Int) := by
  rw [List.mem_map]
  constructor
  · rintro ⟨u, hu, rfl⟩
    obtain ⟨h1, h2⟩ := mem_wordsL.1 hu
    refine ⟨by simp [upW, h1], fun x hx => ?_⟩
    obtain ⟨y, hy, rfl⟩ := List.mem_map.1 hx
    have := h2 y hy
    omega
  · rintro ⟨h1, h2⟩
    refine ⟨w.map (· - 1), mem_wordsL.2 ⟨by simp [h1], fun x hx => ?_⟩, ?_⟩
    · obtain ⟨y, hy, rfl⟩ := List.mem_map.1 hx
      have := h2 y hy
      omega
    · unfold upW
      rw [List.map_map]
      conv => rhs; rw [← List.map_id w]
      apply List.map_congr_left
      intro x _
      simp
theorem words_same {L n : Nat} (hL : 0 < L) (w : List Int) : w ∈ (wordsL L n).map upW ↔ w ∈ wordsD L n := by rw [mem_up, mem_wordsD hL]
theorem wordsL_len (L n : Nat) : (wordsL L n).length = L ^ n := by
  induction n with
  | zero => rfl
  | succ n ih =>
    have key : ∀ l : List (List Int), (l.flatMap (fun w => (List.range L).map (fun l : Nat => w ++ [(l : Int)]))).length = l.length * L := by
      intro l
      induction l with
      | nil => simp
      | cons x r ih => rw [List.flatMap_cons, List.length_append, ih, List.length_cons, Nat.succ_mul]; simp; omega
    rw [wordsL, key, ih, Nat.pow_succ]
/-! ### the worst -/
def maxT (l : List Int) : Int := l.foldl max 0
theorem foldl_max_le (l : List Int) : ∀ a b : Int, a ≤ b → (∀ x ∈ l, x ≤ b) → l.foldl max a ≤ b := by
  induction l with
  | nil => intro a b h _; exact h
  | cons x r ih =>
    intro a b h hx
    refine ih _ b ?_ (fun y hy => hx y (List.mem_cons_of_mem _ hy))
    have := hx x List.mem_cons_self
    omega
theorem le_foldl_max (l : List Int) : ∀ a : Int, a ≤ l.foldl max a ∧ ∀ x ∈ l, x ≤ l.foldl max a := by
  induction l with
  | nil => intro a; exact ⟨Int.le_refl _, by simp⟩
  | cons x r ih =>
    intro a
    obtain ⟨h1, h2⟩ := ih (max a x)
    refine ⟨Int.le_trans (by omega) h1, fun y hy => ?_⟩
    rcases List.mem_cons.1 hy with rfl | hy
    · exact Int.le_trans (by omega) h1
    · exact h2 y hy
theorem maxT_nonneg (l : List Int) : 0 ≤ maxT l := (le_foldl_max l 0).1
theorem maxT_congr {l l' : List Int} (h : ∀ x, x ∈ l ↔ x ∈ l') : maxT l = maxT l' :=
  Int.le_antisymm (foldl_max_le l 0 _ (maxT_nonneg l') (fun x hx => (le_foldl_max l' 0).2 x ((h x).1 hx))) (foldl_max_le l' 0 _ (maxT_nonneg l) (fun x hx => (le_foldl_max l 0).2 x ((h x).2 hx)))
theorem maxT_snoc (l : List Int) (x : Int) : maxT (l ++ [x]) = max (maxT l) x := by simp [maxT]
/-- The greatest of numbers, or -1 if one of them is negative. -/
def worstL (l : List Int) : Int := if l.any (fun x => decide (x < 0)) then -1 else maxT l
theorem worstL_congr {l l' : List Int} (h : ∀ x, x ∈ l ↔ x ∈ l') : worstL l = worstL l' := by
  have e : l.any (fun x => decide (x < 0)) = l'.any (fun x => decide (x < 0)) := by
    rw [Bool.eq_iff_iff, List.any_eq_true, List.any_eq_true]
    constructor
    · rintro ⟨x, hx, hp⟩; exact ⟨x, (h x).1 hx, hp⟩
    · rintro ⟨x, hx, hp⟩; exact ⟨x, (h x).2 hx, hp⟩
  unfold worstL
  rw [e, maxT_congr h]
theorem worstL_neg (l : List Int) : (worstL l < 0) ↔ l.any (fun x => decide (x < 0)) = true := by
  unfold worstL
  have h0 := maxT_nonneg l
  cases hh : l.any (fun x => decide (x < 0)) with
  | true => simp
  | false => simp; omega
theorem worstL_bad {l : List Int} {x : Int} (h : x < 0 ∨ worstL l < 0) : worstL (l ++ [x]) = -1 := by
  unfold worstL
  rw [if_pos]
  rw [List.any_append]
  rcases h with h | h
  · simp [h]
  · rw [(worstL_neg l).1 h]; rfl
theorem worstL_more {l : List Int} {x : Int} (h : ¬ x < 0) (h2 : ¬ worstL l < 0) : worstL (l ++ [x]) = if x < worstL l then worstL l else x := by
  have h3 : l.any (fun x => decide (x < 0)) = false := by
    cases hh : l.any (fun x => decide (x < 0)) with
    | false => rfl
    | true => exact absurd ((worstL_neg l).2 hh) h2
  have e1 : worstL l = maxT l := by unfold worstL; rw [h3]; rfl
  have e2 : worstL (l ++ [x]) = maxT (l ++ [x]) := by unfold worstL; rw [List.any_append, h3]; simp [h]
  rw [e2, e1, maxT_snoc]
  split <;> omega
/-- What slices.Max says. -/
def maxL : List Int → Int
  | [] => 0
  | x :: r => r.foldl max x
theorem maxL_worst {l : List Int} (hne : l ≠ []) (h : l.any (fun x => decide (x < 0)) = false) : maxL l = worstL l := by
  have e : worstL l = maxT l := by unfold worstL; rw [h]; rfl
  rw [e]
  cases l with
  | nil => exact absurd rfl hne
  | cons x r =>
    simp only [List.any_cons, Bool.or_eq_false_iff, decide_eq_false_iff_not] at h
    show r.foldl max x = r.foldl max (max 0 x)
    congr 1
    omega
def okL (f : List Int → Int × Int) (ws : List (List Int)) : Bool := ws.all (fun w => decide ((f w).2 = 0))
theorem okL_congr {f : List Int → Int × Int} {l l' : List (List Int)} (h : ∀ x, x ∈ l ↔ x ∈ l') : okL f l = okL f l' := by
  unfold okL
  rw [Bool.eq_iff_iff, List.all_eq_true, List.all_eq_true]
  exact ⟨fun hl x hx => hl x ((h x).2 hx), fun hl x hx => hl x ((h x).1 hx)⟩
def timesV (f : List Int → Int × Int) (ws : List (List Int)) : List Int := ws.map (fun w => (f w).1)
theorem timesV_congr {f : List Int → Int × Int} {l l' : List (List Int)} (h : ∀ x, x ∈ l ↔ x ∈ l') : ∀ x, x ∈ timesV f l ↔ x ∈ timesV f l' := by
  intro x
  unfold timesV
  rw [List.mem_map, List.mem_map]
  exact ⟨fun ⟨a, ha, e⟩ => ⟨a, (h a).1 ha, e⟩, fun ⟨a, ha, e⟩ => ⟨a, (h a).2 ha, e⟩⟩
/-- The worst times of the words of less than n letters. -/
def worstTo (f : List Int → Int × Int) (L n : Nat) : List Int := (List.range n).map (fun k => worstL (timesV f (wordsD L k)))
theorem worstTo_next (f : List Int → Int × Int) (L n : Nat) : worstTo f L (n + 1) = worstTo f L n ++ [worstL (timesV f (wordsD L n))] := by simp [worstTo, List.range_succ]
theorem worstTo_len (f : List Int → Int × Int) (L n : Nat) : (worstTo f L n).length = n := by simp [worstTo]
def okTo2 (f : List Int → Int × Int) (L n : Nat) : Bool := (List.range n).all (fun k => okL f (wordsD L k))
theorem okTo2_next (f : List Int → Int × Int) (L n : Nat) : okTo2 f L (n + 1) = (okTo2 f L n && okL f (wordsD L n)) := by simp [okTo2, List.range_succ, List.all_append]
theorem okTo2_bad {f : List Int → Int × Int} {L n k : Nat} (hk : k < n) (h : okL f (wordsD L k) = false) : okTo2 f L n = false := by
  unfold okTo2
  rw [List.all_eq_false]
  exact ⟨k, List.mem_range.2 hk, by simp [h]⟩
/-- What WorstTimes returns. -/
def worstF (sy st : Int) (rs : List R3) (l m b : Int) : List Int × Int :=
  if machB sy st rs then
    if inB b 1 20000 && inB l 1 (sy - 1) && inB m 0 8 && decide (l.toNat ^ m.toNat ≤ 256) then
      if okTo2 (timeF sy st rs b.toNat) l.toNat (m.toNat + 1) then (worstTo (timeF sy st rs b.toNat) l.toNat (m.toNat + 1), 0) else ([], 5)
    else ([], 2)
  else ([], 1)
theorem worstF_len (sy st : Int) (rs : List R3) (l m b : Int) : (worstF sy st rs l m b).1.length ≤ 1048576 := by
  unfold worstF
  split
  · split
    · rename_i h
      simp only [Bool.and_eq_true, inB_iff] at h
      split
      · rw [worstTo_len]; omega
      · simp
    · simp
  · simp
/-- A word of few letters starts. -/
theorem startF_word {sy st : Int} {rs : List R3} {w : List Int} {L n : Nat} (hm : machB sy st rs = true) (hL : (L : Int) ≤ sy - 1) (hw : w.length = n) (hn : n ≤ 8) (h : ∀ x ∈ w, 1 ≤ x ∧ x ≤ (L : Int)) : (startF sy st rs w).2 = 0 := by
  obtain ⟨k1, k2, k3, k4, _, _⟩ := machB_parts hm
  unfold startF
  have h1 : isWordB w = true := by
    unfold isWordB allIn
    simp only [Bool.and_eq_true, decide_eq_true_eq, List.all_eq_true, inB_iff]
    exact ⟨by omega, fun x hx => by have := h x hx; omega⟩
  have h2 : allIn w 0 (sy - 1) = true := by
    unfold allIn
    simp only [List.all_eq_true, inB_iff]
    exact fun x hx => by have := h x hx; omega
  obtain ⟨k, hk, e⟩ := trim_take w
  rw [hm, h1, h2, if_pos (by rfl), if_pos rfl, if_pos (by rw [e, List.length_take]; omega)]
theorem timeF_codes {sy st : Int} {rs : List R3} {N : Nat} {w : List Int} (h : (startF sy st rs w).2 = 0) (h2 : ¬ (timeF sy st rs N w).2 = 0) : (timeF sy st rs N w).2 = 5 := by
  unfold timeF at h2 ⊢
  rw [if_pos h] at h2 ⊢
  cases hr : runN sy rs N (startF sy st rs w).1 with
  | none => rfl
  | some i => rw [hr] at h2; exact absurd rfl h2
theorem timeF_ge {sy st : Int} {rs : List R3} {N : Nat} {w : List Int} : -1 ≤ (timeF sy st rs N w).1 := by
  unfold timeF
  split
  · split
    · dsimp only; split <;> omega
    · simp
  · simp
theorem timesF_five {f : List Int → Int × Int} {ws : List (List Int)} (hc : ∀ x ∈ ws, (f x).2 = 0 ∨ (f x).2 = 5) (h : okL f ws = false) : timesF f ws = ([], 5) := by
  induction ws with
  | nil => simp [okL] at h
  | cons x r ih =>
    by_cases hx : (f x).2 = 0
    · have h2 : okL f r = false := by
        unfold okL at h ⊢
        rw [List.all_cons, hx] at h
        simpa using h
      rw [timesF, if_pos hx, ih (fun y hy => hc y (List.mem_cons_of_mem _ hy)) h2]
      simp
    · rw [timesF, if_neg hx]
      rcases hc x List.mem_cons_self with h3 | h3
      · exact absurd h3 hx
      · rw [h3]
theorem timesF_all {f : List Int → Int × Int} {ws : List (List Int)} (h : okL f ws = true) : timesF f ws = (timesV f ws, 0) :=
  timesF_ok (fun x hx => by unfold okL at h; simpa using List.all_eq_true.1 h x hx)
theorem mem_neg {l : List Int} (h : ∀ x ∈ l, -1 ≤ x) : decide ((-1 : Int) ∈ l) = l.any (fun x => decide (x < 0)) := by
  rw [Bool.eq_iff_iff, decide_eq_true_eq, List.any_eq_true]
  constructor
  · intro hm; exact ⟨-1, hm, by simp⟩
  · rintro ⟨x, hx, hp⟩
    have h1 := h x hx
    simp at hp
    have : x = -1 := by omega
    rw [← this]; exact hx
/-- The first t words raised. -/
def upTo (ws : List (List Int)) (t : Nat) : List (List Int) := (ws.take t).map upW ++ ws.drop t
def upPart (x : List Int) (k : Nat) : List Int := upW (x.take k) ++ x.drop k
theorem upTo_zero (ws : List (List Int)) : upTo ws 0 = ws := by simp [upTo]
theorem upTo_end {ws : List (List Int)} {t : Nat} (h : ws.length ≤ t) : upTo ws t = ws.map upW := by unfold upTo; rw [List.take_of_length_le h, List.drop_of_length_le h, List.append_nil]
theorem upTo_len (ws : List (List Int)) (t : Nat) : (upTo ws t).length = ws.length := by simp [upTo]; omega
theorem upTo_at {ws : List (List Int)} {t : Nat} {x : List Int} (h : ws[t]? = some x) : (upTo ws t)[t]? = some x := by
  obtain ⟨hl, rfl⟩ := List.getElem?_eq_some_iff.1 h
  unfold upTo
  rw [List.getElem?_append_right (by simp; omega)]
  simp [Nat.min_eq_left (Nat.le_of_lt hl)]
theorem upTo_next {ws : List (List Int)} {t : Nat} {x : List Int} (h : ws[t]? = some x) : (upTo ws t).set t (upW x) = upTo ws (t + 1) := by
  obtain ⟨hl, rfl⟩ := List.getElem?_eq_some_iff.1 h
  unfold upTo
  rw [List.set_append_right _ _ (by simp; omega), List.take_succ_eq_append_getElem hl, List.drop_eq_getElem_cons hl, List.map_append]
  have e : t - ((ws.take t).map upW).length = 0 := by simp; omega
  rw [e, List.set_cons_zero]
  simp
theorem upPart_zero (x : List Int) : upPart x 0 = x := by simp [upPart, upW]
theorem upPart_end {x : List Int} {k : Nat} (h : x.length ≤ k) : upPart x k = upW x := by unfold upPart; rw [List.take_of_length_le h, List.drop_of_length_le h, List.append_nil]
theorem upPart_len (x : List Int) (k : Nat) : (upPart x k).length = x.length := by simp [upPart, upW]; omega
theorem upPart_at {x : List Int} {k : Nat} {v : Int} (h : x[k]? = some v) : (upPart x k)[k]? = some v := by
  obtain ⟨hl, rfl⟩ := List.getElem?_eq_some_iff.1 h
  unfold upPart upW
  rw [List.getElem?_append_right (by simp; omega)]
  simp [Nat.min_eq_left (Nat.le_of_lt hl)]
theorem upPart_next {x : List Int} {k : Nat} {v : Int} (h : x[k]? = some v) : (upPart x k).set k (v + 1) = upPart x (k + 1) := by
  obtain ⟨hl, rfl⟩ := List.getElem?_eq_some_iff.1 h
  unfold upPart upW
  rw [List.set_append_right _ _ (by simp; omega), List.take_succ_eq_append_getElem hl, List.drop_eq_getElem_cons hl, List.map_append]
  have e : k - ((x.take k).map (· + 1)).length = 0 := by simp; omega
  rw [e, List.set_cons_zero]
  simp
end Go.Proofs.Ythipbeggaeogcaa
