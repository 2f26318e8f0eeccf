/-
  What TraceMachine and SpaceProfile return, in plain words.
-/
import Derived.Test.YtbedghebckflmaaRunV
import Derived.Test.YtbedghebckflmaaCfs
namespace Go.Proofs.Ytbedghebckflmaa
open Go.RowKit

/-- The first i configurations of a run. -/
def traceTo (sy : Int) (rs : List R3) (c : Conf) (i : Nat) : List Conf := (List.range i).map (itC sy rs c)
theorem traceTo_next (sy : Int) (rs : List R3) (c : Conf) (i : Nat) : traceTo sy rs c (i + 1) = traceTo sy rs c i ++ [itC sy rs c i] := by
  unfold traceTo; rw [List.range_succ]; simp
theorem traceTo_len (sy : Int) (rs : List R3) (c : Conf) (i : Nat) : (traceTo sy rs c i).length = i := by simp [traceTo]
def traceF (sy : Int) (rs : List R3) (c : Conf) (N : Nat) : List Conf × Int :=
  match runN sy rs N c with
  | some i => (traceTo sy rs c (i + 1), 0)
  | none => ([], 5)
theorem traceF_ended {sy : Int} {rs : List R3} {c : Conf} {N i : Nat} (h : Ended sy rs c N i) : traceF sy rs c N = (traceTo sy rs c (i + 1), 0) := by unfold traceF; rw [runN_ended h]
theorem traceF_full {sy : Int} {rs : List R3} {c : Conf} {N i : Nat} (h : Full sy rs c N i) : traceF sy rs c N = ([], 5) := by unfold traceF; rw [runN_full h]
def traceMachF (sy st : Int) (rs : List R3) (q : Int) (xs ys : List Int) (b : Int) : List Conf × Int :=
  if validConfB sy st rs q xs ys then (if inB b 0 60 then traceF sy rs ⟨q, xs, ys⟩ b.toNat else ([], 2)) else ([], 1)
theorem runN_le {sy : Int} {rs : List R3} : ∀ {N : Nat} {c : Conf} {i : Nat}, runN sy rs N c = some i → i ≤ N := by
  intro N
  induction N with
  | zero => intro c i h; unfold runN at h; cases h; omega
  | succ N ih =>
    intro c i h
    unfold runN at h
    split at h
    · cases h; omega
    · split at h
      · cases h3 : runN sy rs N (nextC sy rs c) with
        | none => rw [h3] at h; cases h
        | some j => rw [h3] at h; have := ih h3; obtain rfl : j + 1 = i := by simpa using h
                    omega
      · cases h
theorem traceMachF_len (sy st : Int) (rs : List R3) (q : Int) (xs ys : List Int) (b : Int) : (traceMachF sy st rs q xs ys b).1.length ≤ 61 := by
  unfold traceMachF
  split
  · split
    · rename_i h
      have hb := (inB_iff _ _ _).1 h
      unfold traceF
      split
      · rename_i i hi
        have := runN_le hi
        rw [traceTo_len]; omega
      · simp
    · simp
  · simp
theorem traceTo_side {sy st : Int} {rs : List R3} {c : Conf} {N i : Nat} (h : Ended sy rs c N i) (hg : goodC sy st rs c) : ∀ x ∈ traceTo sy rs c (i + 1), x.xs.length ≤ 200 ∧ x.ys.length ≤ 200 := by
  intro x hx
  simp only [traceTo, List.mem_map, List.mem_range] at hx
  obtain ⟨j, hj, rfl⟩ := hx
  have hgj : goodC sy st rs (itC sy rs c j) := Alive.good (fun k hk => h.2.1 k (by omega)) hg
  have hp := conf_parts hgj
  exact ⟨by have := hp.2.2.2.2.2.2.2.1; omega, by have := hp.2.2.2.2.2.2.2.2.1; omega⟩
theorem traceMachF_side (sy st : Int) (rs : List R3) (q : Int) (xs ys : List Int) (b : Int) : ∀ x ∈ (traceMachF sy st rs q xs ys b).1, x.xs.length ≤ 200 ∧ x.ys.length ≤ 200 := by
  unfold traceMachF
  split
  · rename_i h1
    split
    · unfold traceF
      split
      · rename_i i hi
        intro x hx
        simp only [traceTo, List.mem_map, List.mem_range] at hx
        obtain ⟨j, hj, rfl⟩ := hx
        have hal := runN_alive hi
        have hgj : goodC sy st rs (itC sy rs ⟨q, xs, ys⟩ j) := Alive.good (fun k hk => hal k (by omega)) h1
        have hp := conf_parts hgj
        exact ⟨by have := hp.2.2.2.2.2.2.2.1; omega, by have := hp.2.2.2.2.2.2.2.2.1; omega⟩
      · simp
    · simp
  · simp
/-- A new slice of configurations, and a code. -/
def NewCs (w : World) (r : List Conf × Int) (e : Ending) (w' : World) : Prop :=
  ∃ A c ts, e = .returned (.tuple #[.slice A r.1.length c, .int .i64 r.2]) ∧ OCs w' w.heap.size A r.1.length c ts ∧ confs ts = r.1 ∧ Below w.heap.size w w'
theorem newCs_nil {w wf : World} {k : Int} {r : List Conf × Int} (hr : r = ([], k)) (hz : Below w.heap.size w wf) : NewCs w r (.returned (.tuple #[.slice none 0 0, .int .i64 k])) wf := by
  subst hr
  exact ⟨none, 0, [], rfl, OCs.nil Own.nil, rfl, hz⟩
theorem newCs_of {w wf : World} {k : Int} {r : List Conf × Int} {A : Option Addr} {n c : Nat} {ts : List Cf} {cs : List Conf} (hr : r = (cs, k)) (hc : confs ts = cs) (ho : OCs wf w.heap.size A n c ts) (hz : Below w.heap.size w wf) : NewCs w r (.returned (.tuple #[.slice A n c, .int .i64 k])) wf := by
  subst hr; subst hc
  have hn : (confs ts).length = n := by have := ho.len; simpa [confs] using this
  subst hn
  exact ⟨A, c, ts, rfl, ho, rfl, hz⟩
/-- The numbers of cells. -/
def spacesF (cs : List Conf) : List Int := cs.map (fun c => (c.xs.length : Int) + (c.ys.length : Int))
def spaceF (r : List Conf × Int) : List Int × Int := if r.2 = 0 then (spacesF r.1, 0) else ([], r.2)
end Go.Proofs.Ytbedghebckflmaa
