/-
  Trees and programs read from their lists, and what RunWhile and RunStore return, as plain words. No program is in sight.
-/
import Derived.Test.YtfheepjfpgiaoaaExP
namespace Go.Proofs.Ytfheepjfpgiaoaa

def decT : Nat → List Bool → Option (Tr × List Bool)
  | 0, _ => none
  | _ + 1, [] => none
  | _ + 1, false :: l => some (.nil, l)
  | f + 1, true :: l => match decT f l with
    | some (a, l1) => match decT f l1 with
      | some (b, l2) => some (.nd a b, l2)
      | none => none
    | none => none
theorem decT_enc : ∀ (t : Tr) (f : Nat) (r : List Bool), t.nodes ≤ f → decT f (t.enc ++ r) = some (t, r)
  | .nil, 0, r, h => absurd h (by decide)
  | .nil, f + 1, r, _ => rfl
  | .nd a b, 0, r, h => absurd h (by rw [Tr.nodes]; omega)
  | .nd a b, f + 1, r, h => by
    rw [Tr.nodes] at h
    have e : (Tr.nd a b).enc ++ r = true :: (a.enc ++ (b.enc ++ r)) := by simp [Tr.enc]
    rw [e]
    simp only [decT, decT_enc a f _ (by omega), decT_enc b f _ (by omega)]
def trOf (l : List Bool) : Tr := match decT l.length l with | some (t, _) => t | none => .nil
theorem trOf_enc (t : Tr) : trOf t.enc = t := by
  have h := decT_enc t t.enc.length [] (by rw [enc_len]; exact Nat.le_refl _)
  rw [List.append_nil] at h
  unfold trOf; rw [h]
theorem enc_trOf {l : List Bool} (h : treeB l = true) : (trOf l).enc = l ∧ (trOf l).nodes ≤ 2000 := by
  obtain ⟨t, rfl, hn⟩ := (treeB_iff l).1 h
  rw [trOf_enc]; exact ⟨rfl, hn⟩
def decE : Nat → List R2 → Option (Ex × List R2)
  | 0, _ => none
  | _ + 1, [] => none
  | f + 1, x :: l =>
    if x.a = 0 then some (.nil, l)
    else if x.a = 1 then some (.var x.b.toNat, l)
    else if x.a = 3 then (decE f l).map fun r => (.hd r.1, r.2)
    else if x.a = 4 then (decE f l).map fun r => (.tl r.1, r.2)
    else (decE f l).bind fun r => (decE f r.2).map fun s => (if x.a = 2 then .cons r.1 s.1 else .same r.1 s.1, s.2)
theorem decE_enc : ∀ (e : Ex) (f : Nat) (r : List R2), e.len ≤ f → decE f (e.enc ++ r) = some (e, r)
  | e, 0, r, h => absurd h (by have := ex_pos e; omega)
  | .nil, f + 1, r, _ => rfl
  | .var v, f + 1, r, _ => by simp [Ex.enc, decE]
  | .cons a b, f + 1, r, h => by
    rw [Ex.len] at h
    simp [Ex.enc, decE, decE_enc a f _ (show a.len ≤ f by omega), decE_enc b f _ (show b.len ≤ f by omega)]
  | .hd a, f + 1, r, h => by
    rw [Ex.len] at h
    simp [Ex.enc, decE, decE_enc a f _ (show a.len ≤ f by omega)]
  | .tl a, f + 1, r, h => by
    rw [Ex.len] at h
    simp [Ex.enc, decE, decE_enc a f _ (show a.len ≤ f by omega)]
  | .same a b, f + 1, r, h => by
    rw [Ex.len] at h
    simp [Ex.enc, decE, decE_enc a f _ (show a.len ≤ f by omega), decE_enc b f _ (show b.len ≤ f by omega)]
def exOf (l : List R2) : Ex := match decE l.length l with | some (e, _) => e | none => .nil
theorem exOf_enc (e : Ex) : exOf e.enc = e := by
  have h := decE_enc e e.enc.length [] (by rw [ex_len]; exact Nat.le_refl _)
  rw [List.append_nil] at h
  unfold exOf; rw [h]
def decP : Nat → List Cmd → Pg
  | 0, _ => .done
  | _ + 1, [] => .done
  | f + 1, c :: r => if c.k = 0 then .set c.v.toNat (exOf c.e) (decP f r) else .wh (exOf c.e) (decP f (r.take c.l.toNat)) (decP f (r.drop c.l.toNat))
theorem decP_enc : ∀ (p : Pg) (f : Nat), p.enc.length ≤ f → decP f p.enc = p
  | .done, 0, _ => rfl
  | .done, f + 1, _ => rfl
  | .set v e r, 0, h => absurd h (by simp [Pg.enc])
  | .set v e r, f + 1, h => by
    simp only [Pg.enc, List.length_cons] at h
    simp [Pg.enc, decP, exOf_enc, decP_enc r f (by omega)]
  | .wh e b r, 0, h => absurd h (by simp [Pg.enc])
  | .wh e b r, f + 1, h => by
    simp only [Pg.enc, List.length_cons, List.length_append] at h
    simp [Pg.enc, decP, exOf_enc, decP_enc b f (by omega), decP_enc r f (by omega)]
def pgOf (l : List Cmd) : Pg := decP l.length l
theorem pgOf_enc (p : Pg) : pgOf p.enc = p := decP_enc p _ (Nat.le_refl _)
theorem enc_pgOf {l : List Cmd} (h : validC l = true) : (pgOf l).enc = l ∧ (pgOf l).ok := by
  obtain ⟨p, rfl, hk⟩ := (validC_iff l).1 h
  rw [pgOf_enc]; exact ⟨rfl, hk⟩
/-- Whether commands are a program of the program's. -/
def validWh (l : List Cmd) : Bool := decide (l.length ≤ 80) && validC l
theorem validWh_get {l : List Cmd} (h : validWh l = true) : l.length ≤ 80 ∧ (pgOf l).enc = l ∧ (pgOf l).ok := by
  unfold validWh at h
  rw [Bool.and_eq_true, decide_eq_true_iff] at h
  exact ⟨h.1, enc_pgOf h.2⟩
/-- The store at the start: the input, and nil five times. -/
def startW (t : Tr) : List Tr := [t, .nil, .nil, .nil, .nil, .nil]
/-- What RunWhile returns. -/
def runWhF (cs : List Cmd) (x : List Bool) (b : Int) : List Bool × Int × Bool × Int :=
  if (validWh cs && treeB x) = true then
    if inB b 1 20000 = true then
      match goW b.toNat 0 (pgOf cs) [] (startW (trOf x)) with
      | some (s, k, d) => ((s.getD 0 .nil).enc, (k : Int), d, 0)
      | none => ([], 0, false, 5)
    else ([], 0, false, 2)
  else ([], 0, false, 1)
def okStore (xs : List (List Bool)) : Bool := decide (xs.length = 6) && xs.all treeB
/-- What RunStore returns. -/
def runStF (cs : List Cmd) (xs : List (List Bool)) (b : Int) : List (List Bool) × Int × Bool × Int :=
  if (okStore xs && validWh cs) = true then
    if inB b 1 20000 = true then
      match goW b.toNat 0 (pgOf cs) [] (xs.map trOf) with
      | some (s, k, d) => (s.map Tr.enc, (k : Int), d, 0)
      | none => ([], 0, false, 5)
    else ([], 0, false, 2)
  else ([], 0, false, 1)
theorem runWhF_bad {cs : List Cmd} {x : List Bool} {b : Int} (h : (validWh cs && treeB x) = false) : runWhF cs x b = ([], 0, false, 1) := by unfold runWhF; rw [if_neg (by rw [h]; decide)]
theorem runWhF_range {cs : List Cmd} {x : List Bool} {b : Int} (h : (validWh cs && treeB x) = true) (hb : inB b 1 20000 = false) : runWhF cs x b = ([], 0, false, 2) := by unfold runWhF; rw [if_pos h, if_neg (by rw [hb]; decide)]
theorem runWhF_none {cs : List Cmd} {x : List Bool} {b : Int} (h : (validWh cs && treeB x) = true) (hb : inB b 1 20000 = true) (hg : goW b.toNat 0 (pgOf cs) [] (startW (trOf x)) = none) : runWhF cs x b = ([], 0, false, 5) := by unfold runWhF; rw [if_pos h, if_pos hb, hg]
theorem runWhF_some {cs : List Cmd} {x : List Bool} {b : Int} {s : List Tr} {k : Nat} {d : Bool} (h : (validWh cs && treeB x) = true) (hb : inB b 1 20000 = true) (hg : goW b.toNat 0 (pgOf cs) [] (startW (trOf x)) = some (s, k, d)) : runWhF cs x b = ((s.getD 0 .nil).enc, (k : Int), d, 0) := by unfold runWhF; rw [if_pos h, if_pos hb, hg]
theorem runStF_bad {cs : List Cmd} {x : List (List Bool)} {b : Int} (h : (okStore x && validWh cs) = false) : runStF cs x b = ([], 0, false, 1) := by unfold runStF; rw [if_neg (by rw [h]; decide)]
theorem runStF_range {cs : List Cmd} {x : List (List Bool)} {b : Int} (h : (okStore x && validWh cs) = true) (hb : inB b 1 20000 = false) : runStF cs x b = ([], 0, false, 2) := by unfold runStF; rw [if_pos h, if_neg (by rw [hb]; decide)]
theorem runStF_none {cs : List Cmd} {x : List (List Bool)} {b : Int} (h : (okStore x && validWh cs) = true) (hb : inB b 1 20000 = true) (hg : goW b.toNat 0 (pgOf cs) [] (x.map trOf) = none) : runStF cs x b = ([], 0, false, 5) := by unfold runStF; rw [if_pos h, if_pos hb, hg]
theorem runStF_some {cs : List Cmd} {x : List (List Bool)} {b : Int} {s : List Tr} {k : Nat} {d : Bool} (h : (okStore x && validWh cs) = true) (hb : inB b 1 20000 = true) (hg : goW b.toNat 0 (pgOf cs) [] (x.map trOf) = some (s, k, d)) : runStF cs x b = (s.map Tr.enc, (k : Int), d, 0) := by unfold runStF; rw [if_pos h, if_pos hb, hg]
theorem stepW_ok {p : Pg} {S : List Pg} {s : List Tr} (hs : ∀ t ∈ s, t.nodes ≤ 2000) {p' : Pg} {S' : List Pg} {s' : List Tr} (h : stepW p S s = some (p', S', s')) : (∀ t ∈ s', t.nodes ≤ 2000) ∧ s'.length = s.length := by
  cases p with
  | done => cases h; exact ⟨hs, rfl⟩
  | set v e r =>
    have h1 : (e.ev s).map (fun x => (r, S, s.set v x)) = some (p', S', s') := h
    cases hx : e.ev s with
    | none => rw [hx] at h1; cases h1
    | some x =>
      rw [hx] at h1
      cases h1
      refine ⟨fun t ht => ?_, by simp⟩
      rcases List.mem_or_eq_of_mem_set ht with h2 | h2
      · exact hs t h2
      · rw [h2]; exact ev_nodes hs e x hx
  | wh e b r =>
    have h1 : (e.ev s).map (fun x => if x = .nil then (r, S, s) else (b, .wh e b r :: S, s)) = some (p', S', s') := h
    cases hx : e.ev s with
    | none => rw [hx] at h1; cases h1
    | some x =>
      rw [hx] at h1
      have h2 : (if x = .nil then (r, S, s) else (b, .wh e b r :: S, s)) = (p', S', s') := Option.some.inj h1
      split at h2 <;> (cases h2; exact ⟨hs, rfl⟩)
theorem goW_ok : ∀ (f n : Nat) (p : Pg) (S : List Pg) (s : List Tr), (∀ t ∈ s, t.nodes ≤ 2000) → ∀ (s' : List Tr) (k : Nat) (d : Bool), goW f n p S s = some (s', k, d) → (∀ t ∈ s', t.nodes ≤ 2000) ∧ s'.length = s.length
  | 0, n, p, S, s, hs, s', k, d, h => by
    rw [goW] at h; cases h; exact ⟨hs, rfl⟩
  | f + 1, n, p, S, s, hs, s', k, d, h => by
    rw [goW] at h
    split at h
    · cases h; exact ⟨hs, rfl⟩
    · cases hst : stepW (normW p S).1 (normW p S).2 s with
      | none => rw [hst] at h; cases h
      | some r =>
        obtain ⟨p2, S2, s2⟩ := r
        rw [hst] at h
        have h2 := stepW_ok hs hst
        have h3 := goW_ok f (n + 1) p2 S2 s2 h2.1 s' k d h
        exact ⟨h3.1, h3.2.trans h2.2⟩
theorem startW_ok {t : Tr} (ht : t.nodes ≤ 2000) : ∀ x ∈ startW t, x.nodes ≤ 2000 := by
  intro x hx
  simp only [startW, List.mem_cons, List.not_mem_nil, or_false] at hx
  rcases hx with rfl | rfl | rfl | rfl | rfl | rfl
  · exact ht
  all_goals decide
theorem getD_nodes {s : List Tr} (hs : ∀ t ∈ s, t.nodes ≤ 2000) (k : Nat) : (s.getD k .nil).nodes ≤ 2000 := by
  rw [List.getD_eq_getElem?_getD]
  cases h : s[k]? with
  | none => decide
  | some y => exact hs _ (List.mem_of_getElem? h)
theorem runWhF_len (cs : List Cmd) (x : List Bool) (b : Int) : (runWhF cs x b).1.length ≤ 2000 := by
  unfold runWhF
  split
  · rename_i h
    rw [Bool.and_eq_true] at h
    split
    · cases hg : goW b.toNat 0 (pgOf cs) [] (startW (trOf x)) with
      | none => exact Nat.zero_le _
      | some r =>
        obtain ⟨s, k, d⟩ := r
        dsimp only
        rw [enc_len]
        exact getD_nodes (goW_ok _ _ _ _ _ (startW_ok (enc_trOf h.2).2) s k d hg).1 0
    · exact Nat.zero_le _
  · exact Nat.zero_le _
end Go.Proofs.Ytfheepjfpgiaoaa
