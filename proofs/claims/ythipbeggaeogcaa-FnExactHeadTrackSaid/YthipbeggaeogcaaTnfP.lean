/-
  Plain words for the children of a machine.
-/
import Derived.Test.YthipbeggaeogcaaNodeS
import Derived.Test.YthipbeggaeogcaaMcs
namespace Go.Proofs.Ythipbeggaeogcaa
open Go.RowKit

def row3 (w mv : Int) (K : Nat) : List R3 := (List.range K).map (fun q : Nat => ⟨w, mv, (q : Int)⟩)
def row2 (w : Int) (ms : List Int) (K : Nat) : List R3 := ms.flatMap (fun mv => row3 w mv K)
def row1 (J : Nat) (ms : List Int) (K : Nat) : List R3 := (List.range J).flatMap (fun w : Nat => row2 (w : Int) ms K)
theorem row3_zero (w mv : Int) : row3 w mv 0 = [] := rfl
theorem row3_next (w mv : Int) (K : Nat) : row3 w mv (K + 1) = row3 w mv K ++ [⟨w, mv, (K : Int)⟩] := by simp [row3, List.range_succ]
theorem row3_len (w mv : Int) (K : Nat) : (row3 w mv K).length = K := by simp [row3]
theorem row2_nil (w : Int) (K : Nat) : row2 w [] K = [] := rfl
theorem row2_next {w : Int} {ms : List Int} {i : Nat} {mv : Int} (K : Nat) (h : ms[i]? = some mv) : row2 w (ms.take (i + 1)) K = row2 w (ms.take i) K ++ row3 w mv K := by
  obtain ⟨hi, rfl⟩ := List.getElem?_eq_some_iff.1 h
  unfold row2
  rw [List.take_succ_eq_append_getElem hi, List.flatMap_append]
  simp
theorem row2_len (w : Int) (ms : List Int) (K : Nat) : (row2 w ms K).length = ms.length * K := by
  induction ms with
  | nil => simp [row2]
  | cons m r ih =>
    have e : row2 w (m :: r) K = row3 w m K ++ row2 w r K := rfl
    rw [e, List.length_append, ih, row3_len, List.length_cons, Nat.succ_mul, Nat.add_comm]
theorem row1_zero (ms : List Int) (K : Nat) : row1 0 ms K = [] := rfl
theorem row1_next (J : Nat) (ms : List Int) (K : Nat) : row1 (J + 1) ms K = row1 J ms K ++ row2 (J : Int) ms K := by
  unfold row1
  rw [List.range_succ, List.flatMap_append]
  simp
theorem row1_len (J : Nat) (ms : List Int) (K : Nat) : (row1 J ms K).length = J * (ms.length * K) := by
  induction J with
  | zero => simp [row1]
  | succ J ih => rw [row1_next, List.length_append, ih, row2_len, Nat.succ_mul]
/-- The moves of the children's rules. -/
def movesF (rs : List R3) : List Int := if (usedF rs).2.2 = 0 then [1] else [-1, 1]
def wrF (sy : Int) (rs : List R3) : Nat := (min ((usedF rs).2.1 + 1) sy).toNat
def nxF (st : Int) (rs : List R3) : Nat := (min ((usedF rs).1 + 1) st).toNat
theorem if_max (a b : Int) : (if b < a then a else b) = max a b := by split <;> omega
theorem if_min (a b : Int) : (if a < b then a else b) = min a b := by split <;> omega
/-- The rules that the children of a machine have more. -/
def childR (sy st : Int) (rs : List R3) : List R3 := row1 (wrF sy rs) (movesF rs) (nxF st rs)
theorem movesF_len (rs : List R3) : (movesF rs).length ≤ 2 := by unfold movesF; split <;> simp
theorem childR_len {sy st : Int} {rs : List R3} (h2 : sy ≤ 6) (h4 : st ≤ 1000) : (childR sy st rs).length ≤ 12000 := by
  unfold childR
  rw [row1_len]
  have h1 : wrF sy rs ≤ 6 := by unfold wrF; omega
  have h3 : nxF st rs ≤ 1000 := by unfold nxF; omega
  have h5 := movesF_len rs
  calc wrF sy rs * ((movesF rs).length * nxF st rs) ≤ 6 * (2 * 1000) := Nat.mul_le_mul h1 (Nat.mul_le_mul h5 h3)
    _ = 12000 := rfl
/-- The children of a machine that halts at an index. -/
def childM (sy st : Int) (rs : List R3) (at_ : Nat) : List R3 → List Mch := fun l => l.map (fun r => ⟨sy, st, rs.set at_ r⟩)
/-- What TnfChildren returns. -/
def tnfF (sy st : Int) (rs : List R3) (b : Int) : List Mch × Int :=
  if codeF sy st rs blankC b = 0 then (if (nodeF sy rs b.toNat).1 = 0 then (childM sy st rs (nodeF sy rs b.toNat).2.1.toNat (childR sy st rs), 0) else ([], 6)) else ([], codeF sy st rs blankC b)
theorem tnfF_len (sy st : Int) (rs : List R3) (b : Int) : (tnfF sy st rs b).1.length ≤ 12000 := by
  unfold tnfF
  split
  · rename_i h
    split
    · have hg := (codeF_zero h).1
      have hm : machB sy st rs = true := by rw [← blank_good]; exact hg
      obtain ⟨_, k2, _, k4, _⟩ := machB_parts hm
      show ((childR sy st rs).map _).length ≤ _
      rw [List.length_map]
      exact childR_len k2 k4
    · simp
  · simp
theorem tnfF_side (sy st : Int) (rs : List R3) (b : Int) : ∀ x ∈ (tnfF sy st rs b).1, x.rs.length ≤ 6000 := by
  unfold tnfF
  split
  · rename_i h
    split
    · have hg := (codeF_zero h).1
      have hm : machB sy st rs = true := by rw [← blank_good]; exact hg
      obtain ⟨k1, k2, k3, k4, k5, _⟩ := machB_parts hm
      intro x hx
      obtain ⟨r, _, rfl⟩ := List.mem_map.1 hx
      show (rs.set _ r).length ≤ 6000
      rw [List.length_set]
      have h2 : st * sy ≤ 1000 * sy := Int.mul_le_mul_of_nonneg_right k4 (by omega)
      have h3 : (1000 : Int) * sy ≤ 1000 * 6 := Int.mul_le_mul_of_nonneg_left k2 (by omega)
      omega
    · simp
  · simp
theorem alive_cons {sy : Int} {rs : List R3} {c : Conf} {i : Nat} (h1 : haltC sy rs c = false) (h2 : roomC (nextC sy rs c) = true) (h : Alive sy rs (nextC sy rs c) i) : Alive sy rs c (i + 1) := fun j hj => by
  cases j with
  | zero => exact ⟨h1, h2⟩
  | succ j =>
    have := h j (by omega)
    rw [itC_shift, itC_shift] at this
    exact this
theorem run_cases (sy : Int) (rs : List R3) : ∀ (N : Nat) (c : Conf), (∃ i, Ended sy rs c N i) ∨ ∃ i, Full sy rs c N i := by
  intro N
  induction N with
  | zero => intro c; exact .inl ⟨0, Nat.le_refl _, Alive.zero _ _ _, .inl rfl⟩
  | succ N ih =>
    intro c
    cases hh : haltC sy rs c with
    | true => exact .inl ⟨0, Nat.zero_le _, Alive.zero _ _ _, .inr hh⟩
    | false =>
      cases hr : roomC (nextC sy rs c) with
      | false => exact .inr ⟨0, by omega, Alive.zero _ _ _, hh, hr⟩
      | true =>
        rcases ih (nextC sy rs c) with ⟨i, h1, h2, h3⟩ | ⟨i, h1, h2, h3, h4⟩
        · exact .inl ⟨i + 1, by omega, alive_cons hh hr h2, by rw [itC_shift] at h3; rcases h3 with h3 | h3; exact .inl (by omega); exact .inr h3⟩
        · exact .inr ⟨i + 1, by omega, alive_cons hh hr h2, by rw [itC_shift] at h3; exact h3, by rw [itC_shift] at h4; exact h4⟩
theorem nodeF_at {sy st : Int} {rs : List R3} {N : Nat} (hg : goodC sy st rs blankC) (h : (nodeF sy rs N).1 = 0) : ∃ idx : Nat, (nodeF sy rs N).2.1 = (idx : Int) ∧ idx < rs.length := by
  rcases run_cases sy rs N blankC with ⟨i, hi⟩ | ⟨i, hi⟩
  · cases hh : haltC sy rs (itC sy rs blankC i) with
    | false => rw [nodeF_runs hi hh] at h; cases h
    | true =>
      have hg2 := hi.2.1.good hg
      obtain ⟨h1, h2, h3, h4, hnl, h5, h6, hx2, hy2, hxm, hym, hrsv⟩ := conf_parts hg2
      obtain ⟨a1, a2, a3, a4, idx, hidx, hlt⟩ := at_parts (ys := (itC sy rs blankC i).ys.reverse) h1 h2 h3 h4 hnl h5 h6 (fun y hy => hym y (List.mem_reverse.1 hy))
      by_cases hf : (freeF rs).length = 1
      · rw [nodeF_last hi hh hf] at h; cases h
      · rw [nodeF_open hi hh hf]; exact ⟨idx, hidx, hlt⟩
  · rw [nodeF_full hi] at h; cases h
/-- A new slice of machines beside a code. -/
def NewMs (w : World) (r : List Mch × Int) (e : Ending) (w' : World) : Prop :=
  ∃ A c ts, e = .returned (.tuple #[.slice A r.1.length c, .int .i64 r.2]) ∧ OMs w' w.heap.size A r.1.length c ts ∧ machs ts = r.1 ∧ Below w.heap.size w w'
theorem newMs_nil {w wf : World} {k : Int} {r : List Mch × Int} (hr : r = ([], k)) (hz : Below w.heap.size w wf) : NewMs w r (.returned (.tuple #[.slice none 0 0, .int .i64 k])) wf := by
  subst hr
  exact ⟨none, 0, [], rfl, OMs.nil Own.nil, rfl, hz⟩
theorem newMs_of {w wf : World} {k : Int} {r : List Mch × Int} {xs : List Mch} {A : Option Addr} {c : Nat} {ts : List Mc} (hr : r = (xs, k)) (hx : machs ts = xs) (ho : OMs wf w.heap.size A xs.length c ts) (hz : Below w.heap.size w wf) : NewMs w r (.returned (.tuple #[.slice A xs.length c, .int .i64 k])) wf := by
  subst hr
  exact ⟨A, c, ts, rfl, ho, hx, hz⟩
end Go.Proofs.Ythipbeggaeogcaa
