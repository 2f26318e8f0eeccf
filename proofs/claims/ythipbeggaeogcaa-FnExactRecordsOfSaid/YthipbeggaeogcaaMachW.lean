/-
  Runs of a machine, in plain words: the i-th configuration, runs that are alive, their ends.
-/
import Derived.Test.YthipbeggaeogcaaMachV
namespace Go.Proofs.Ythipbeggaeogcaa
open Go.RowKit

def haltC (sy : Int) (rs : List R3) (c : Conf) : Bool := !isRuleB (ruleOf sy rs c.q c.ys)
def nextC (sy : Int) (rs : List R3) (c : Conf) : Conf := stepC (ruleOf sy rs c.q c.ys) c.xs c.ys
def itC (sy : Int) (rs : List R3) (c : Conf) : Nat → Conf
  | 0 => c
  | i + 1 => nextC sy rs (itC sy rs c i)
def goodC (sy st : Int) (rs : List R3) (c : Conf) : Prop := validConfB sy st rs c.q c.xs c.ys = true

theorem side_push {sy : Int} {xs : List Int} {x : Int} (hx : ∀ y ∈ xs, 0 ≤ y ∧ y ≤ sy - 1) (h : 0 ≤ x ∧ x ≤ sy - 1) : ∀ y ∈ pushI xs x, 0 ≤ y ∧ y ≤ sy - 1 := by
  unfold pushI
  split
  · exact hx
  · intro y hy
    rcases List.mem_append.1 hy with h1 | h1
    · exact hx y h1
    · rw [List.mem_singleton.1 h1]; exact h
theorem side_of {sy : Int} {xs : List Int} (hl : xs.length ≤ 200) (hx : ∀ y ∈ xs, 0 ≤ y ∧ y ≤ sy - 1) (hg : xs = [] ∨ lastI xs ≠ 0) : sideB xs sy 200 = true := by
  unfold sideB allIn
  simp only [Bool.and_eq_true, decide_eq_true_eq, List.all_eq_true, inB_iff, Bool.or_eq_true, bne_iff_ne, ne_eq]
  exact ⟨⟨by omega, hx⟩, hg⟩
theorem goodC_next {sy st : Int} {rs : List R3} {c : Conf} (h : goodC sy st rs c) (hh : haltC sy rs c = false) (hr : roomC (nextC sy rs c) = true) : goodC sy st rs (nextC sy rs c) := by
  obtain ⟨h1, h2, h3, h4, hn, h5, h6, hx2, hy2, hxm, hym, hrs⟩ := conf_parts h
  obtain ⟨gx, gy⟩ := conf_good h
  have hv : machB sy st rs = true := by unfold goodC validConfB at h; simp only [Bool.and_eq_true] at h; exact h.1
  obtain ⟨_, _, _, _, idx, hidx, hlt⟩ := at_parts (ys := c.ys.reverse) h1 h2 h3 h4 hn h5 h6 (fun y hy => hym y (List.mem_reverse.1 hy))
  have hget := ruleOf_get (rs := rs) (ys := c.ys) hidx hlt
  have hval := hrs _ (List.mem_of_getElem? hget)
  have hru : isRuleB (ruleOf sy rs c.q c.ys) = true := by unfold haltC at hh; simpa using hh
  unfold nextC at hr ⊢
  revert hr hval hru
  generalize ruleOf sy rs c.q c.ys = r
  intro hr hval hru
  unfold validRuleB at hval
  rw [hru] at hval
  simp only [Bool.not_true, Bool.false_or, Bool.and_eq_true, inB_iff] at hval
  obtain ⟨⟨ha, hb⟩, hc⟩ := hval
  unfold roomC roomB at hr
  simp only [Bool.and_eq_true, decide_eq_true_eq] at hr
  have hl0 : 0 ≤ lastI c.xs.reverse ∧ lastI c.xs.reverse ≤ sy - 1 := by
    rcases lastI_mem (xs := c.xs.reverse) with h0 | h0
    · rw [h0]; omega
    · exact hxm _ (List.mem_reverse.1 h0)
  have hxr : ∀ y ∈ c.xs.reverse, 0 ≤ y ∧ y ≤ sy - 1 := fun y hy => hxm y (List.mem_reverse.1 hy)
  have hyr : ∀ y ∈ c.ys.reverse, 0 ≤ y ∧ y ≤ sy - 1 := fun y hy => hym y (List.mem_reverse.1 hy)
  have hyd : ∀ y ∈ c.ys.reverse.dropLast, 0 ≤ y ∧ y ≤ sy - 1 := fun y hy => hyr y (List.dropLast_subset _ hy)
  have hxd : ∀ y ∈ c.xs.reverse.dropLast, 0 ≤ y ∧ y ≤ sy - 1 := fun y hy => hxr y (List.dropLast_subset _ hy)
  have hL : ∀ y ∈ (stepL r c.xs.reverse).reverse, 0 ≤ y ∧ y ≤ sy - 1 := by
    intro y hy
    rw [List.mem_reverse] at hy
    unfold stepL at hy
    split at hy
    · exact side_push hxr ha y hy
    · exact hxd y hy
  have hR : ∀ y ∈ (stepR r c.xs.reverse c.ys.reverse).reverse, 0 ≤ y ∧ y ≤ sy - 1 := by
    intro y hy
    rw [List.mem_reverse] at hy
    unfold stepR at hy
    split at hy
    · exact hyd y hy
    · exact side_push (side_push hyd ha) hl0 y hy
  have hgL : (stepL r c.xs.reverse).reverse = [] ∨ lastI (stepL r c.xs.reverse).reverse ≠ 0 := by
    unfold stepL
    split
    · exact good_push gx _
    · rw [rev_dropLast]; exact good_tail gx
  have hgR : (stepR r c.xs.reverse c.ys.reverse).reverse = [] ∨ lastI (stepR r c.xs.reverse c.ys.reverse).reverse ≠ 0 := by
    unfold stepR
    split
    · rw [rev_dropLast]; exact good_tail gy
    · have g1 := good_tail gy
      have e1 : c.ys.reverse.dropLast = c.ys.tail.reverse := by rw [← rev_dropLast, List.reverse_reverse]
      rw [e1]
      have g2 := good_push g1 r.a
      have e2 : pushI c.ys.tail.reverse r.a = (pushI c.ys.tail.reverse r.a).reverse.reverse := by rw [List.reverse_reverse]
      rw [e2]
      exact good_push g2 _
  unfold goodC validConfB confB
  simp only [Bool.and_eq_true, inB_iff]
  exact ⟨hv, ⟨⟨hc.1, hc.2⟩, side_of hr.1 hL hgL⟩, side_of hr.2 hR hgR⟩

/-- The run makes i steps. -/
def Alive (sy : Int) (rs : List R3) (c : Conf) (i : Nat) : Prop := ∀ j, j < i → haltC sy rs (itC sy rs c j) = false ∧ roomC (itC sy rs c (j + 1)) = true
theorem Alive.zero (sy : Int) (rs : List R3) (c : Conf) : Alive sy rs c 0 := fun j h => absurd h (Nat.not_lt_zero j)
theorem Alive.next {sy : Int} {rs : List R3} {c : Conf} {i : Nat} (h : Alive sy rs c i) (h1 : haltC sy rs (itC sy rs c i) = false) (h2 : roomC (itC sy rs c (i + 1)) = true) : Alive sy rs c (i + 1) := fun j hj => by
  by_cases e : j = i
  · subst e; exact ⟨h1, h2⟩
  · exact h j (by omega)
theorem Alive.good {sy st : Int} {rs : List R3} {c : Conf} {i : Nat} (h : Alive sy rs c i) (hc : goodC sy st rs c) : goodC sy st rs (itC sy rs c i) := by
  induction i with
  | zero => exact hc
  | succ i ih => exact goodC_next (ih (fun j hj => h j (by omega))) (h i (by omega)).1 (h i (by omega)).2
/-- The run ends behind i of at most N steps. -/
def Ended (sy : Int) (rs : List R3) (c : Conf) (N i : Nat) : Prop := i ≤ N ∧ Alive sy rs c i ∧ (i = N ∨ haltC sy rs (itC sy rs c i) = true)
/-- The run has no room for the step behind i steps. -/
def Full (sy : Int) (rs : List R3) (c : Conf) (N i : Nat) : Prop := i < N ∧ Alive sy rs c i ∧ haltC sy rs (itC sy rs c i) = false ∧ roomC (itC sy rs c (i + 1)) = false

/-- What a run comes to: the number of steps, or none without room. -/
def runN (sy : Int) (rs : List R3) : Nat → Conf → Option Nat
  | 0, _ => some 0
  | N + 1, c => if haltC sy rs c then some 0 else if roomC (nextC sy rs c) then (runN sy rs N (nextC sy rs c)).map (· + 1) else none
theorem itC_shift (sy : Int) (rs : List R3) (c : Conf) (i : Nat) : itC sy rs (nextC sy rs c) i = itC sy rs c (i + 1) := by
  induction i with
  | zero => rfl
  | succ i ih => show nextC sy rs (itC sy rs (nextC sy rs c) i) = nextC sy rs (itC sy rs c (i + 1)); rw [ih]
theorem Alive.shift {sy : Int} {rs : List R3} {c : Conf} {i : Nat} (h : Alive sy rs c (i + 1)) : Alive sy rs (nextC sy rs c) i := fun j hj => by
  rw [itC_shift, itC_shift]; exact h (j + 1) (by omega)
theorem runN_ended {sy : Int} {rs : List R3} : ∀ {N : Nat} {c : Conf} {i : Nat}, Ended sy rs c N i → runN sy rs N c = some i := by
  intro N
  induction N with
  | zero => rintro c i ⟨h1, _, _⟩; obtain rfl : i = 0 := by omega
            rfl
  | succ N ih =>
    rintro c i ⟨h1, h2, h3⟩
    cases i with
    | zero =>
      rcases h3 with h3 | h3
      · omega
      · unfold runN; rw [if_pos (show haltC sy rs c = true from h3)]
    | succ i =>
      have h0 := h2 0 (by omega)
      unfold runN
      rw [if_neg (by rw [show haltC sy rs c = false from h0.1]; simp), if_pos (show roomC (nextC sy rs c) = true from h0.2), ih (i := i) ⟨by omega, h2.shift, ?_⟩]
      · rfl
      · rcases h3 with h3 | h3
        · left; omega
        · right; rw [itC_shift]; exact h3
theorem runN_full {sy : Int} {rs : List R3} : ∀ {N : Nat} {c : Conf} {i : Nat}, Full sy rs c N i → runN sy rs N c = none := by
  intro N
  induction N with
  | zero => rintro c i ⟨h1, _⟩; omega
  | succ N ih =>
    rintro c i ⟨h1, h2, h3, h4⟩
    cases i with
    | zero =>
      unfold runN
      rw [if_neg (by rw [show haltC sy rs c = false from h3]; simp), if_neg (by rw [show roomC (nextC sy rs c) = false from h4]; simp)]
    | succ i =>
      have h0 := h2 0 (by omega)
      unfold runN
      rw [if_neg (by rw [show haltC sy rs c = false from h0.1]; simp), if_pos (show roomC (nextC sy rs c) = true from h0.2), ih (i := i) ⟨by omega, h2.shift, by rw [itC_shift]; exact h3, by rw [itC_shift]; exact h4⟩]
      rfl
end Go.Proofs.Ythipbeggaeogcaa
