/-
  The ends of an expression's list are rows of whole expressions. No program is in sight.
-/
import Derived.Test.YtfheepjfpgiaoaaWhF
namespace Go.Proofs.Ytfheepjfpgiaoaa

def flatE (es : List Ex) : List R2 := (es.map Ex.enc).flatten
theorem flatE_cons (e : Ex) (es : List Ex) : flatE (e :: es) = e.enc ++ flatE es := by simp [flatE]
theorem flatE_append (us vs : List Ex) : flatE (us ++ vs) = flatE us ++ flatE vs := by simp [flatE]
theorem flatE_inj : ∀ {us vs : List Ex}, flatE us = flatE vs → us = vs
  | [], [], _ => rfl
  | [], b :: vs, h => by
    have h1 := congrArg List.length h
    rw [flatE_cons, List.length_append, ex_len] at h1
    have := ex_pos b
    simp [flatE] at h1; omega
  | a :: us, [], h => by
    have h1 := congrArg List.length h
    rw [flatE_cons, List.length_append, ex_len] at h1
    have := ex_pos a
    simp [flatE] at h1; omega
  | a :: us, b :: vs, h => by
    rw [flatE_cons, flatE_cons] at h
    have h1 := decE_enc a (a.len + b.len) (flatE us) (by omega)
    have h2 := decE_enc b (a.len + b.len) (flatE vs) (by omega)
    rw [h, h2] at h1
    have h3 := Option.some.inj h1
    have e1 : b = a := (Prod.mk.inj h3).1
    have e2 : flatE vs = flatE us := (Prod.mk.inj h3).2
    rw [e1, flatE_inj e2.symm]
/-- The end from an index on. -/
theorem suf_ex (s : List Tr) : ∀ (e : Ex) (j : Nat), ∃ es : List Ex, e.enc.drop j = flatE es ∧ (e.ev s ≠ none → ∀ x ∈ es, x.ev s ≠ none) ∧ (e.ok → ∀ x ∈ es, x.ok)
  | e, 0 => ⟨[e], by simp [flatE], fun h x hx => by rw [List.mem_singleton.1 hx]; exact h, fun h x hx => by rw [List.mem_singleton.1 hx]; exact h⟩
  | .nil, j + 1 => ⟨[], by simp [Ex.enc, flatE], by simp, by simp⟩
  | .var v, j + 1 => ⟨[], by simp [Ex.enc, flatE], by simp, by simp⟩
  | .hd a, j + 1 => by
    obtain ⟨es, h1, h2, h3⟩ := suf_ex s a j
    refine ⟨es, by rw [Ex.enc, List.drop_succ_cons]; exact h1, fun h => h2 (fun h4 => h (by rw [Ex.ev, h4]; rfl)), h3⟩
  | .tl a, j + 1 => by
    obtain ⟨es, h1, h2, h3⟩ := suf_ex s a j
    refine ⟨es, by rw [Ex.enc, List.drop_succ_cons]; exact h1, fun h => h2 (fun h4 => h (by rw [Ex.ev, h4]; rfl)), h3⟩
  | .cons a b, j + 1 => by
    obtain ⟨es, h1, h2, h3⟩ := suf_ex s a j
    obtain ⟨fs, k1, k2, k3⟩ := suf_ex s b (j - a.enc.length)
    have ha : (Ex.cons a b).ev s ≠ none → a.ev s ≠ none := fun h h4 => h (by rw [Ex.ev, h4])
    have hb : (Ex.cons a b).ev s ≠ none → b.ev s ≠ none := fun h h4 => h (by rw [Ex.ev, h4]; cases a.ev s <;> rfl)
    rcases Nat.lt_or_ge j a.enc.length with hj | hj
    · refine ⟨es ++ [b], by rw [Ex.enc, List.drop_succ_cons, List.drop_append_of_le_length (by omega), h1, flatE_append]; simp [flatE], fun h x hx => ?_, fun h x hx => ?_⟩
      · rcases List.mem_append.1 hx with hx | hx
        · exact h2 (ha h) x hx
        · rw [List.mem_singleton.1 hx]; exact hb h
      · rcases List.mem_append.1 hx with hx | hx
        · exact h3 h.1 x hx
        · rw [List.mem_singleton.1 hx]; exact h.2
    · exact ⟨fs, by rw [Ex.enc, List.drop_succ_cons, List.drop_append, List.drop_eq_nil_iff.2 hj, List.nil_append]; exact k1, fun h => k2 (hb h), fun h => k3 h.2⟩
  | .same a b, j + 1 => by
    obtain ⟨es, h1, h2, h3⟩ := suf_ex s a j
    obtain ⟨fs, k1, k2, k3⟩ := suf_ex s b (j - a.enc.length)
    have ha : (Ex.same a b).ev s ≠ none → a.ev s ≠ none := fun h h4 => h (by rw [Ex.ev, h4])
    have hb : (Ex.same a b).ev s ≠ none → b.ev s ≠ none := fun h h4 => h (by rw [Ex.ev, h4]; cases a.ev s <;> rfl)
    rcases Nat.lt_or_ge j a.enc.length with hj | hj
    · refine ⟨es ++ [b], by rw [Ex.enc, List.drop_succ_cons, List.drop_append_of_le_length (by omega), h1, flatE_append]; simp [flatE], fun h x hx => ?_, fun h x hx => ?_⟩
      · rcases List.mem_append.1 hx with hx | hx
        · exact h2 (ha h) x hx
        · rw [List.mem_singleton.1 hx]; exact hb h
      · rcases List.mem_append.1 hx with hx | hx
        · exact h3 h.1 x hx
        · rw [List.mem_singleton.1 hx]; exact h.2
    · exact ⟨fs, by rw [Ex.enc, List.drop_succ_cons, List.drop_append, List.drop_eq_nil_iff.2 hj, List.nil_append]; exact k1, fun h => k2 (hb h), fun h => k3 h.2⟩
/-- The values of a row of expressions. -/
def vals (s : List Tr) (es : List Ex) (St : List Tr) : Prop := es.map (fun e => e.ev s) = St.map some
theorem vals_nil {s : List Tr} : vals s [] [] := rfl
theorem vals_len {s : List Tr} {es : List Ex} {St : List Tr} (h : vals s es St) : St.length = es.length := by have := congrArg List.length h; simpa using this.symm
theorem vals_cons {s : List Tr} {e : Ex} {es : List Ex} {St : List Tr} (h : vals s (e :: es) St) : ∃ x St', St = x :: St' ∧ e.ev s = some x ∧ vals s es St' := by
  cases St with
  | nil => simp [vals] at h
  | cons x St' =>
    simp only [vals, List.map_cons, List.cons.injEq] at h
    exact ⟨x, St', rfl, h.1, h.2⟩
theorem vals_push {s : List Tr} {e : Ex} {es : List Ex} {St : List Tr} {x : Tr} (h : vals s es St) (hx : e.ev s = some x) : vals s (e :: es) (x :: St) := by
  simp only [vals, List.map_cons, List.cons.injEq]
  exact ⟨hx, h⟩
/-- What stands at an index, and behind it. -/
theorem suf_step (s : List Tr) {e : Ex} {j : Nat} (hok : e.ok) (hj : j < e.enc.length) {es : List Ex} (hes : e.enc.drop (j + 1) = flatE es) :
    ∃ e0 es', e.enc.drop j = flatE (e0 :: es') ∧ (e.ev s ≠ none → e0.ev s ≠ none) ∧
      ((e0 = .nil ∧ e.enc[j]? = some ⟨0, 0⟩ ∧ es = es') ∨ (∃ v, v < 6 ∧ e0 = .var v ∧ e.enc[j]? = some ⟨1, (v : Int)⟩ ∧ es = es') ∨ (∃ a b, e0 = .cons a b ∧ e.enc[j]? = some ⟨2, 0⟩ ∧ es = a :: b :: es') ∨
       (∃ a, e0 = .hd a ∧ e.enc[j]? = some ⟨3, 0⟩ ∧ es = a :: es') ∨ (∃ a, e0 = .tl a ∧ e.enc[j]? = some ⟨4, 0⟩ ∧ es = a :: es') ∨ (∃ a b, e0 = .same a b ∧ e.enc[j]? = some ⟨5, 0⟩ ∧ es = a :: b :: es')) := by
  obtain ⟨fs, h1, h2, h3⟩ := suf_ex s e j
  have hd := List.drop_eq_getElem_cons hj
  cases fs with
  | nil =>
    have h4 := congrArg List.length h1
    rw [List.length_drop] at h4
    simp [flatE] at h4; omega
  | cons e0 es' =>
    have hx : e.enc[j]? = some e.enc[j] := List.getElem?_eq_getElem hj
    rw [hd, flatE_cons] at h1
    have hh := h3 hok e0 List.mem_cons_self
    refine ⟨e0, es', by rw [hd, flatE_cons]; exact h1, fun h => h2 h e0 List.mem_cons_self, ?_⟩
    rw [hes] at h1
    cases e0 with
    | nil =>
      simp only [Ex.enc, List.cons_append, List.nil_append, List.cons.injEq] at h1
      exact .inl ⟨rfl, by rw [hx, h1.1], flatE_inj h1.2⟩
    | var v =>
      simp only [Ex.enc, List.cons_append, List.nil_append, List.cons.injEq] at h1
      exact .inr (.inl ⟨v, hh, rfl, by rw [hx, h1.1], flatE_inj h1.2⟩)
    | cons a b =>
      simp only [Ex.enc, List.cons_append, List.append_assoc, List.cons.injEq] at h1
      exact .inr (.inr (.inl ⟨a, b, rfl, by rw [hx, h1.1], flatE_inj (by rw [h1.2, flatE_cons, flatE_cons])⟩))
    | hd a =>
      simp only [Ex.enc, List.cons_append, List.cons.injEq] at h1
      exact .inr (.inr (.inr (.inl ⟨a, rfl, by rw [hx, h1.1], flatE_inj (by rw [h1.2, flatE_cons])⟩)))
    | tl a =>
      simp only [Ex.enc, List.cons_append, List.cons.injEq] at h1
      exact .inr (.inr (.inr (.inr (.inl ⟨a, rfl, by rw [hx, h1.1], flatE_inj (by rw [h1.2, flatE_cons])⟩))))
    | same a b =>
      simp only [Ex.enc, List.cons_append, List.append_assoc, List.cons.injEq] at h1
      exact .inr (.inr (.inr (.inr (.inr ⟨a, b, rfl, by rw [hx, h1.1], flatE_inj (by rw [h1.2, flatE_cons, flatE_cons])⟩))))
end Go.Proofs.Ytfheepjfpgiaoaa
