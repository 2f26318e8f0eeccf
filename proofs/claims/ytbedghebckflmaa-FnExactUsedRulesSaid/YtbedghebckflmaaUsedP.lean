/-
  What UsedRules returns, in plain words. No program is in sight.
-/
import Derived.Test.YtbedghebckflmaaRunU
import Derived.Test.YtbedghebckflmaaBools
namespace Go.Proofs.Ytbedghebckflmaa
open Go.RowKit

/-- The index of the rule that a configuration looks at. -/
def idxC (sy : Int) (c : Conf) : Nat := (atI sy c.q c.ys.reverse).toNat
/-- Which rules the first i steps have used, of n. -/
def usedL (sy : Int) (rs : List R3) (c : Conf) (n : Nat) : Nat → List Bool
  | 0 => List.replicate n false
  | i + 1 => (usedL sy rs c n i).set (idxC sy (itC sy rs c i)) true
theorem usedL_len (sy : Int) (rs : List R3) (c : Conf) (n i : Nat) : (usedL sy rs c n i).length = n := by
  induction i with
  | zero => simp [usedL]
  | succ i ih => simp [usedL, ih]
/-- Behind round i of at most N steps. -/
def usedR (sy : Int) (rs : List R3) (c : Conf) (n N : Nat) : Nat → List Bool
  | 0 => List.replicate n false
  | i + 1 => if i < N ∧ haltC sy rs (itC sy rs c i) = false then (usedR sy rs c n N i).set (idxC sy (itC sy rs c i)) true else usedR sy rs c n N i
theorem usedR_len (sy : Int) (rs : List R3) (c : Conf) (n N i : Nat) : (usedR sy rs c n N i).length = n := by
  induction i with
  | zero => simp [usedR]
  | succ i ih => unfold usedR; split <;> simp [ih]
theorem usedR_alive {sy : Int} {rs : List R3} {c : Conf} {n N i : Nat} (h : Alive sy rs c i) (hi : i ≤ N) : usedR sy rs c n N i = usedL sy rs c n i := by
  induction i with
  | zero => rfl
  | succ i ih =>
    unfold usedR usedL
    rw [if_pos ⟨by omega, (h i (by omega)).1⟩, ih (fun j hj => h j (by omega)) (by omega)]
theorem usedR_ended {sy : Int} {rs : List R3} {c : Conf} {n N i : Nat} (h : Ended sy rs c N i) : usedR sy rs c n N (i + 1) = usedL sy rs c n i := by
  have h1 := usedR_alive (n := n) h.2.1 h.1
  unfold usedR
  rw [if_neg, h1]
  rintro ⟨h2, h3⟩
  rcases h.2.2 with h4 | h4
  · omega
  · rw [h3] at h4; cases h4
theorem usedR_step {sy : Int} {rs : List R3} {c : Conf} {n N i : Nat} (h1 : i < N) (h2 : haltC sy rs (itC sy rs c i) = false) : usedR sy rs c n N (i + 1) = (usedR sy rs c n N i).set (idxC sy (itC sy rs c i)) true := by
  rw [usedR, if_pos ⟨h1, h2⟩]
theorem usedR_stay {sy : Int} {rs : List R3} {c : Conf} {n N i : Nat} (h : ¬ (i < N ∧ haltC sy rs (itC sy rs c i) = false)) : usedR sy rs c n N (i + 1) = usedR sy rs c n N i := by
  rw [usedR, if_neg h]
/-- What UsedRules returns. -/
def usedRulesF (sy st : Int) (rs : List R3) (q : Int) (xs ys : List Int) (b : Int) : List Int × Int :=
  if validConfB sy st rs q xs ys then
    (if inB b 1 20000 then
      match runN sy rs b.toNat ⟨q, xs, ys⟩ with
      | some i => (trueF (usedL sy rs ⟨q, xs, ys⟩ rs.length i), 0)
      | none => ([], 5)
    else ([], 2))
  else ([], 1)
theorem usedRulesF_ended {sy st : Int} {rs : List R3} {q : Int} {xs ys : List Int} {N i : Nat} (h1 : validConfB sy st rs q xs ys = true) (h2 : inB (N : Int) 1 20000 = true) (h : Ended sy rs ⟨q, xs, ys⟩ N i) :
    usedRulesF sy st rs q xs ys (N : Int) = (trueF (usedL sy rs ⟨q, xs, ys⟩ rs.length i), 0) := by
  unfold usedRulesF; rw [if_pos h1, if_pos h2, Int.toNat_natCast, runN_ended h]
theorem usedRulesF_full {sy st : Int} {rs : List R3} {q : Int} {xs ys : List Int} {N i : Nat} (h1 : validConfB sy st rs q xs ys = true) (h2 : inB (N : Int) 1 20000 = true) (h : Full sy rs ⟨q, xs, ys⟩ N i) :
    usedRulesF sy st rs q xs ys (N : Int) = ([], 5) := by
  unfold usedRulesF; rw [if_pos h1, if_pos h2, Int.toNat_natCast, runN_full h]
theorem usedRulesF_bad {sy st : Int} {rs : List R3} {q : Int} {xs ys : List Int} {b : Int} (h1 : validConfB sy st rs q xs ys = false) : usedRulesF sy st rs q xs ys b = ([], 1) := by
  unfold usedRulesF; rw [if_neg (by simp [h1])]
theorem usedRulesF_range {sy st : Int} {rs : List R3} {q : Int} {xs ys : List Int} {b : Int} (h1 : validConfB sy st rs q xs ys = true) (h2 : inB b 1 20000 = false) : usedRulesF sy st rs q xs ys b = ([], 2) := by
  unfold usedRulesF; rw [if_pos h1, if_neg (by simp [h2])]
theorem usedRulesF_len {sy st : Int} {rs : List R3} {q : Int} {xs ys : List Int} {b : Int} (h : rs.length ≤ 1048576) : (usedRulesF sy st rs q xs ys b).1.length ≤ 1048576 := by
  unfold usedRulesF
  split
  · split
    · split
      · show (trueF _).length ≤ _
        refine Nat.le_trans (trueTo_len _ _) ?_
        rw [usedL_len]; exact h
      · simp
    · simp
  · simp
/-- The index is that of a rule. -/
theorem idxC_lt {sy st : Int} {rs : List R3} {c : Conf} (hg : goodC sy st rs c) : idxC sy c < rs.length ∧ atI sy c.q c.ys.reverse = (idxC sy c : Int) := by
  obtain ⟨h1, h2, h3, h4, hnl, h5, h6, hx2, hy2, hxm, hym, hrsv⟩ := conf_parts hg
  obtain ⟨a1, a2, a3, a4, idx, hidx, hlt⟩ := at_parts (ys := c.ys.reverse) h1 h2 h3 h4 hnl h5 h6 (fun y hy => hym y (List.mem_reverse.1 hy))
  have e : idxC sy c = idx := by unfold idxC; rw [hidx]; simp
  rw [e]; exact ⟨hlt, hidx⟩
end Go.Proofs.Ytbedghebckflmaa
