/-
  What a branch does, as plain words: behind as many steps as the chosen program makes, and six or seven more, the first four variables are the same. No program is in sight.
-/
import Derived.Test.YtfheepjfpgiaoaaWhF
namespace Go.Proofs.Ytfheepjfpgiaoaa

/-- Only the variables 0 to 2 are read. -/
def Ex.low : Ex → Prop
  | .nil => True
  | .var v => v < 4
  | .cons a b => a.low ∧ b.low
  | .hd a => a.low
  | .tl a => a.low
  | .same a b => a.low ∧ b.low
def Pg.low : Pg → Prop
  | .done => True
  | .set v e r => v < 4 ∧ e.low ∧ r.low
  | .wh e b r => e.low ∧ b.low ∧ r.low
/-- Two stores agree in the first four variables. -/
def Agr (s t : List Tr) : Prop := s.length = 6 ∧ t.length = 6 ∧ ∀ i, i < 4 → s.getD i .nil = t.getD i .nil
theorem Agr.set {s t : List Tr} (h : Agr s t) (v : Nat) (x : Tr) : Agr (s.set v x) (t.set v x) := by
  obtain ⟨h1, h2, h3⟩ := h
  refine ⟨by simpa using h1, by simpa using h2, fun i hi => ?_⟩
  have h4 := h3 i hi
  simp only [List.getD_eq_getElem?_getD, List.getElem?_set] at h4 ⊢
  by_cases hv : v = i
  · subst hv; rw [if_pos rfl, if_pos rfl, if_pos (by omega), if_pos (by omega)]
  · rw [if_neg hv, if_neg hv]; exact h4
theorem Agr.setR {s t : List Tr} (h : Agr s t) {v : Nat} (hv : 4 ≤ v) (x : Tr) : Agr s (t.set v x) := by
  obtain ⟨h1, h2, h3⟩ := h
  refine ⟨h1, by simpa using h2, fun i hi => ?_⟩
  have h4 := h3 i hi
  simp only [List.getD_eq_getElem?_getD, List.getElem?_set] at h4 ⊢
  rw [if_neg (by omega)]; exact h4
theorem ev_low {s t : List Tr} (h : Agr s t) : ∀ e : Ex, e.low → e.ev s = e.ev t
  | .nil, _ => rfl
  | .var v, hv => by rw [Ex.ev, Ex.ev, h.2.2 v hv]
  | .cons a b, ⟨h1, h2⟩ => by rw [Ex.ev, Ex.ev, ev_low h a h1, ev_low h b h2]
  | .hd a, h1 => by rw [Ex.ev, Ex.ev, ev_low h a h1]
  | .tl a, h1 => by rw [Ex.ev, Ex.ev, ev_low h a h1]
  | .same a b, ⟨h1, h2⟩ => by rw [Ex.ev, Ex.ev, ev_low h a h1, ev_low h b h2]
theorem getD_set_ne {t : List Tr} {v i : Nat} (h : v ≠ i) (x : Tr) : (t.set v x).getD i .nil = t.getD i .nil := by
  simp only [List.getD_eq_getElem?_getD, List.getElem?_set]; rw [if_neg h]
theorem getD_set_eq {t : List Tr} {v : Nat} (h : v < t.length) (x : Tr) : (t.set v x).getD v .nil = x := by
  simp [List.getD_eq_getElem?_getD, h]
/-- What is kept of a run that goes on in another store, over other loops. -/
theorem step_low {p : Pg} {S : List Pg} {s t : List Tr} (hp : p.low) (hS : ∀ q ∈ S, q.low) (h : Agr s t) {p' : Pg} {S' : List Pg} {s' : List Tr} (hs : stepW p S s = some (p', S', s')) :
    p'.low ∧ (∀ q ∈ S', q.low) ∧ ∃ t', (∀ S0, stepW p (S ++ S0) t = some (p', S' ++ S0, t')) ∧ Agr s' t' ∧ t'.getD 4 .nil = t.getD 4 .nil ∧ t'.getD 5 .nil = t.getD 5 .nil := by
  cases p with
  | done => cases hs; exact ⟨hp, hS, t, fun _ => rfl, h, rfl, rfl⟩
  | set v e r =>
    obtain ⟨hv, he, hr⟩ := hp
    have h1 : (e.ev s).map (fun x => (r, S, s.set v x)) = some (p', S', s') := hs
    have h2 : ∀ S0, stepW (.set v e r) (S ++ S0) t = (e.ev t).map (fun x => (r, S ++ S0, t.set v x)) := fun _ => rfl
    cases hx : e.ev s with
    | none => rw [hx] at h1; cases h1
    | some x =>
      rw [hx] at h1
      replace h2 : ∀ S0, stepW (.set v e r) (S ++ S0) t = some (r, S ++ S0, t.set v x) := fun S0 => (h2 S0).trans (by rw [← ev_low h e he, hx]; rfl)
      cases h1
      exact ⟨hr, hS, _, h2, h.set v x, getD_set_ne (by omega) x, getD_set_ne (by omega) x⟩
  | wh e b r =>
    obtain ⟨he, hb, hr⟩ := hp
    have h1 : (e.ev s).map (fun x => if x = .nil then (r, S, s) else (b, .wh e b r :: S, s)) = some (p', S', s') := hs
    have h2 : ∀ S0, stepW (.wh e b r) (S ++ S0) t = (e.ev t).map (fun x => if x = .nil then (r, S ++ S0, t) else (b, .wh e b r :: (S ++ S0), t)) := fun _ => rfl
    cases hx : e.ev s with
    | none => rw [hx] at h1; cases h1
    | some x =>
      rw [hx] at h1
      replace h2 : ∀ S0, stepW (.wh e b r) (S ++ S0) t = some (if x = .nil then (r, S ++ S0, t) else (b, .wh e b r :: (S ++ S0), t)) := fun S0 => (h2 S0).trans (by rw [← ev_low h e he, hx]; rfl)
      simp only [Option.map_some] at h1
      by_cases hxn : x = .nil
      · rw [if_pos hxn] at h1
        simp only [if_pos hxn] at h2
        cases h1
        exact ⟨hr, hS, t, h2, h, rfl, rfl⟩
      · rw [if_neg hxn] at h1
        simp only [if_neg hxn] at h2
        cases h1
        refine ⟨hb, fun q hq => ?_, t, h2, h, rfl, rfl⟩
        rcases List.mem_cons.1 hq with rfl | hq
        · exact ⟨he, hb, hr⟩
        · exact hS q hq
theorem goW_sim : ∀ (f n : Nat) (p : Pg) (S : List Pg) (s : List Tr) (s' : List Tr) (k : Nat), goW f n p S s = some (s', k, true) → p.low → (∀ q ∈ S, q.low) → ∀ (t : List Tr), Agr s t →
    ∃ m t', k = n + m ∧ m ≤ f ∧ Agr s' t' ∧ t'.getD 4 .nil = t.getD 4 .nil ∧ t'.getD 5 .nil = t.getD 5 .nil ∧ ∀ (g n2 : Nat) (S0 : List Pg), S0 ≠ [] → goW (m + g) n2 p (S ++ S0) t = goW g (n2 + m) .done S0 t'
  | 0, n, p, S, s, s', k, h, hp, hS, t, ha => by
    have h1 : some (s, n, doneW p S) = some (s', k, true) := h
    simp only [Option.some.injEq, Prod.mk.injEq] at h1
    obtain ⟨rfl, rfl, h2⟩ := h1
    obtain ⟨rfl, rfl⟩ : p = .done ∧ S = [] := by cases p <;> cases S <;> simp_all [doneW]
    exact ⟨0, t, rfl, Nat.le_refl _, ha, rfl, rfl, fun g n2 S0 _ => by rw [Nat.zero_add]; rfl⟩
  | f + 1, n, p, S, s, s', k, h, hp, hS, t, ha => by
    rw [goW] at h
    split at h
    · rename_i hd
      simp only [Option.some.injEq, Prod.mk.injEq] at h
      obtain ⟨rfl, rfl, _⟩ := h
      obtain ⟨rfl, rfl⟩ : p = .done ∧ S = [] := by cases p <;> cases S <;> simp_all [doneW]
      exact ⟨0, t, rfl, Nat.zero_le _, ha, rfl, rfl, fun g n2 S0 _ => by rw [Nat.zero_add]; rfl⟩
    · rename_i hd
      have hnl : (normW p S).1.low ∧ ∀ q ∈ (normW p S).2, q.low := by
        cases p with
        | done =>
          cases S with
          | nil => exact ⟨hp, hS⟩
          | cons q S => exact ⟨hS q List.mem_cons_self, fun x hx => hS x (List.mem_cons_of_mem _ hx)⟩
        | set v e r => exact ⟨hp, hS⟩
        | wh e b r => exact ⟨hp, hS⟩
      have hnn : ∀ S0, normW p (S ++ S0) = ((normW p S).1, (normW p S).2 ++ S0) := by
        intro S0
        cases p with
        | done =>
          cases S with
          | nil => exact absurd rfl hd
          | cons q S => rfl
        | set v e r => rfl
        | wh e b r => rfl
      have hnd : ∀ S0, doneW p (S ++ S0) = false := by
        intro S0
        cases p with
        | done =>
          cases S with
          | nil => exact absurd rfl hd
          | cons q S => rfl
        | set v e r => rfl
        | wh e b r => rfl
      cases hst : stepW (normW p S).1 (normW p S).2 s with
      | none => rw [hst] at h; cases h
      | some r =>
        obtain ⟨p2, S2, s2⟩ := r
        rw [hst] at h
        obtain ⟨l1, l2, t2, e2, a2, b4, b5⟩ := step_low hnl.1 hnl.2 ha hst
        obtain ⟨m, t', hk, hm, a3, c4, c5, he⟩ := goW_sim f (n + 1) p2 S2 s2 s' k h l1 l2 t2 a2
        refine ⟨m + 1, t', by omega, by omega, a3, c4.trans b4, c5.trans b5, fun g n2 S0 h0 => ?_⟩
        rw [show m + 1 + g = (m + g) + 1 by omega, goW, if_neg (by rw [hnd]; decide), hnn, e2]
        dsimp only
        rw [he g (n2 + 1) S0 h0, show n2 + 1 + m = n2 + (m + 1) by omega]
/-- The branch as a program. -/
def brP (e : Ex) (yes no : Pg) : Pg := .set 4 e (.set 5 (.cons .nil .nil) (.wh (.var 4) (.set 4 .nil (.set 5 .nil yes)) (.wh (.var 5) (.set 5 .nil no) .done)))
/-- The branch as commands. -/
def brF (e : List R2) (yes no : List Cmd) : List Cmd :=
  [⟨0, 4, 0, e⟩, ⟨0, 5, 0, [⟨2, 0⟩, ⟨0, 0⟩, ⟨0, 0⟩]⟩] ++ ((⟨1, 0, ((yes.length + 2 : Nat) : Int), [⟨1, 4⟩]⟩ :: ([⟨0, 4, 0, [⟨0, 0⟩]⟩, ⟨0, 5, 0, [⟨0, 0⟩]⟩] ++ yes)) ++ (⟨1, 0, ((no.length + 1 : Nat) : Int), [⟨1, 5⟩]⟩ :: ([⟨0, 5, 0, [⟨0, 0⟩]⟩] ++ no)))
theorem brF_enc (e : Ex) (yes no : Pg) : brF e.enc yes.enc no.enc = (brP e yes no).enc := by
  have e1 : ((yes.enc.length + 2 : Nat) : Int) = (((Pg.set 4 .nil (.set 5 .nil yes)).enc.length : Nat) : Int) := by simp [Pg.enc]; omega
  have e2 : ((no.enc.length + 1 : Nat) : Int) = (((Pg.set 5 .nil no).enc.length : Nat) : Int) := by simp [Pg.enc]
  unfold brF
  rw [e1, e2]
  simp [brP, Pg.enc, Ex.enc]
theorem brF_len (e : List R2) (yes no : List Cmd) : (brF e yes no).length = yes.length + no.length + 7 := by
  simp [brF]; omega
theorem brP_ok {e : Ex} {yes no : Pg} (he : e.good) (hy : yes.ok) (hn : no.ok) : (brP e yes no).ok := by
  refine ⟨by decide, he, by decide, ⟨⟨trivial, trivial⟩, by decide⟩, ⟨by show 4 < 6; decide, by decide⟩, ⟨by decide, ⟨trivial, by decide⟩, by decide, ⟨trivial, by decide⟩, hy⟩, ⟨by show 5 < 6; decide, by decide⟩, ⟨by decide, ⟨trivial, by decide⟩, hn⟩, trivial⟩
theorem goW_set {f n v : Nat} {e : Ex} {r : Pg} {S : List Pg} {s : List Tr} {x : Tr} (h : e.ev s = some x) : goW (f + 1) n (.set v e r) S s = goW f (n + 1) r S (s.set v x) := by
  have h1 : stepW (.set v e r) S s = some (r, S, s.set v x) := by show (e.ev s).map _ = _; rw [h]; rfl
  rw [goW, if_neg (by intro h; cases h)]
  show (match stepW (.set v e r) S s with | none => none | some (p', S', s') => goW f (n + 1) p' S' s') = _
  rw [h1]
theorem goW_whn {f n : Nat} {e : Ex} {b r : Pg} {S : List Pg} {s : List Tr} (h : e.ev s = some .nil) : goW (f + 1) n (.wh e b r) S s = goW f (n + 1) r S s := by
  have h1 : stepW (.wh e b r) S s = some (r, S, s) := by show (e.ev s).map _ = _; rw [h]; rfl
  rw [goW, if_neg (by intro h; cases h)]
  show (match stepW (.wh e b r) S s with | none => none | some (p', S', s') => goW f (n + 1) p' S' s') = _
  rw [h1]
theorem goW_why {f n : Nat} {e : Ex} {b r : Pg} {S : List Pg} {s : List Tr} {x : Tr} (h : e.ev s = some x) (hx : x ≠ .nil) : goW (f + 1) n (.wh e b r) S s = goW f (n + 1) b (.wh e b r :: S) s := by
  have h1 : stepW (.wh e b r) S s = some (b, .wh e b r :: S, s) := by show (e.ev s).map _ = _; rw [h, Option.map_some, if_neg hx]
  rw [goW, if_neg (by intro h; cases h)]
  show (match stepW (.wh e b r) S s with | none => none | some (p', S', s') => goW f (n + 1) p' S' s') = _
  rw [h1]
theorem goW_pop {f n : Nat} {e : Ex} {b r : Pg} {S : List Pg} {s : List Tr} : goW (f + 1) n .done (.wh e b r :: S) s = goW (f + 1) n (.wh e b r) S s := by
  rw [goW, if_neg (by intro h; cases h), goW, if_neg (by intro h; cases h)]
  rfl
/-- The run of the branch. -/
theorem branch_run {e : Ex} {yes no : Pg} (hel : e.low) (hy : yes.low) (hn : no.low) {s s0 : List Tr} (hs : s.length = 6) (h0 : s0 = (s.set 4 .nil).set 5 .nil) {x : Tr} (hx : e.ev s = some x) {f : Nat} {s' : List Tr} {k : Nat}
    (hr : goW f 0 (if x = .nil then no else yes) [] s0 = some (s', k, true)) (F : Nat) (hF : f + 7 ≤ F) :
    ∃ t, goW F 0 (brP e yes no) [] s0 = some (t, k + (if x = .nil then 6 else 7), true) ∧ t.length = 6 ∧ ∀ i, i < 4 → s'.getD i .nil = t.getD i .nil := by
  have h6 : s0.length = 6 := by rw [h0]; simpa using hs
  have ha0 : Agr s s0 := by
    have h1 : Agr s s := ⟨hs, hs, fun _ _ => rfl⟩
    rw [h0]; exact (h1.setR (by decide) _).setR (by decide) _
  have hx0 : e.ev s0 = some x := by rw [← ev_low ha0 e hel]; exact hx
  have hself : Agr s0 s0 := ⟨h6, h6, fun _ _ => rfl⟩
  obtain ⟨t1, ht1⟩ : ∃ t1, s0.set 4 x = t1 := ⟨_, rfl⟩
  obtain ⟨t2, ht2⟩ : ∃ t2, t1.set 5 (Tr.nd .nil .nil) = t2 := ⟨_, rfl⟩
  have l1 : t1.length = 6 := by rw [← ht1]; simpa using h6
  have l2 : t2.length = 6 := by rw [← ht2]; simpa using l1
  have g4 : t2.getD 4 .nil = x := by rw [← ht2, getD_set_ne (by decide), ← ht1, getD_set_eq (by omega)]
  have g5 : t2.getD 5 .nil = Tr.nd .nil .nil := by rw [← ht2, getD_set_eq (by omega)]
  have a2 : Agr s0 t2 := by rw [← ht2, ← ht1]; exact (hself.setR (by decide) _).setR (by decide) _
  have head : ∀ F, goW (F + 2) 0 (brP e yes no) [] s0 = goW F 2 (.wh (.var 4) (.set 4 .nil (.set 5 .nil yes)) (.wh (.var 5) (.set 5 .nil no) .done)) [] t2 := by
    intro F
    have e5 : Ex.ev t1 (.cons .nil .nil) = some (.nd .nil .nil) := rfl
    rw [brP, goW_set hx0, ht1, goW_set e5, ht2]
  by_cases hxn : x = .nil
  · rw [if_pos hxn] at hr ⊢
    obtain ⟨t3, ht3⟩ : ∃ t3, t2.set 5 Tr.nil = t3 := ⟨_, rfl⟩
    have a3 : Agr s0 t3 := by rw [← ht3]; exact a2.setR (by decide) _
    obtain ⟨m, t', hk, hm, a4, c4, c5, he⟩ := goW_sim f 0 no [] s0 s' k hr hn (by simp) t3 a3
    have g5' : t'.getD 5 .nil = .nil := by rw [c5, ← ht3, getD_set_eq (by omega)]
    refine ⟨t', ?_, a4.2.1, a4.2.2⟩
    obtain ⟨R, rfl⟩ : ∃ R, F = ((((m + (R + 1)) + 1) + 1) + 1) + 2 := ⟨F - m - 6, by omega⟩
    have v4 : Ex.ev t2 (.var 4) = some .nil := by rw [Ex.ev, g4, hxn]
    have v5 : Ex.ev t2 (.var 5) = some (.nd .nil .nil) := by rw [Ex.ev, g5]
    have v6 : Ex.ev t2 .nil = some .nil := rfl
    have v7 : Ex.ev t' (.var 5) = some .nil := by rw [Ex.ev, g5']
    rw [head, goW_whn v4, goW_why v5 (by simp), goW_set v6, ht3]
    have he2 := he (R + 1) (2 + 1 + 1 + 1) [.wh (.var 5) (.set 5 .nil no) .done] (by simp)
    rw [List.nil_append] at he2
    rw [he2, goW_pop, goW_whn v7]
    have e6 : 2 + 1 + 1 + 1 + m + 1 = k + 6 := by omega
    rw [e6]
    cases R <;> rfl
  · rw [if_neg hxn] at hr ⊢
    obtain ⟨t3, ht3⟩ : ∃ t3, (t2.set 4 Tr.nil).set 5 Tr.nil = t3 := ⟨_, rfl⟩
    have a3 : Agr s0 t3 := by rw [← ht3]; exact (a2.setR (by decide) _).setR (by decide) _
    obtain ⟨m, t', hk, hm, a4, c4, c5, he⟩ := goW_sim f 0 yes [] s0 s' k hr hy (by simp) t3 a3
    have g5' : t'.getD 5 .nil = .nil := by rw [c5, ← ht3, getD_set_eq (by simp; omega)]
    have g4' : t'.getD 4 .nil = .nil := by rw [c4, ← ht3, getD_set_ne (by decide), getD_set_eq (by omega)]
    refine ⟨t', ?_, a4.2.1, a4.2.2⟩
    obtain ⟨R, rfl⟩ : ∃ R, F = ((((m + ((R + 1) + 1)) + 1) + 1) + 1) + 2 := ⟨F - m - 7, by omega⟩
    have v4 : Ex.ev t2 (.var 4) = some x := by rw [Ex.ev, g4]
    have v5 : Ex.ev t2 .nil = some .nil := rfl
    have v6 : Ex.ev (t2.set 4 Tr.nil) .nil = some .nil := rfl
    have v7 : Ex.ev t' (.var 4) = some .nil := by rw [Ex.ev, g4']
    have v8 : Ex.ev t' (.var 5) = some .nil := by rw [Ex.ev, g5']
    rw [head, goW_why v4 hxn, goW_set v5, goW_set v6, ht3]
    have he2 := he ((R + 1) + 1) (2 + 1 + 1 + 1) [.wh (.var 4) (.set 4 .nil (.set 5 .nil yes)) (.wh (.var 5) (.set 5 .nil no) .done)] (by simp)
    rw [List.nil_append] at he2
    rw [he2, goW_pop, goW_whn v7, goW_whn v8]
    have e6 : 2 + 1 + 1 + 1 + m + 1 + 1 = k + 7 := by omega
    rw [e6]
    cases R <;> rfl
end Go.Proofs.Ytfheepjfpgiaoaa
