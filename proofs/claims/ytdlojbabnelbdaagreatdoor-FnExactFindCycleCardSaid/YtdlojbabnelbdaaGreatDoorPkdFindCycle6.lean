/-
  Partial configurations and their levels, as lists. No program is in sight.
-/
import Derived.Test.YtdlojbabnelbdaaGreatDoorPkdFindCycle0
import Derived.Test.YtdlojbabnelbdaaGreatDoorPkdFindCycle2
import Derived.Test.YtdlojbabnelbdaaGreatDoorPkdFindCycle3
import Derived.Test.YtdlojbabnelbdaaGreatDoorPkdFindCycle5
import Derived.Deep.RegionHeld3
import Derived.Deep.DeepCutAuto
namespace Go.Proofs.YtdlojbabnelbdaaGreatDoor
open Go.RowKit

/-- A state with a segment of the tape. -/
structure Pa where
  q : Int
  at_ : Int
  cs : List Int
  deriving DecidableEq
def paB (sy st : Int) (x : Pa) : Bool := inB x.q 0 (st - 1) && inB (x.cs.length : Int) 1 60 && inB x.at_ 0 ((x.cs.length : Int) - 1) && allIn x.cs 0 (sy - 1)
/-- Valid but for the length. -/
structure PaOk (sy st : Int) (x : Pa) : Prop where
  q0 : 0 ≤ x.q
  q1 : x.q < st
  a0 : 0 ≤ x.at_
  a1 : x.at_ < (x.cs.length : Int)
  cs : ∀ y ∈ x.cs, 0 ≤ y ∧ y < sy
theorem PaOk.len {sy st : Int} {x : Pa} (h : PaOk sy st x) : 1 ≤ x.cs.length := by have := h.a0; have := h.a1; omega
/-- The predecessor by the rule r at state p and symbol a. -/
def predF (x : Pa) (p a : Int) (r : R3) : Option Pa :=
  if r.c ≠ x.q then none
  else if x.at_ - r.b < 0 then some ⟨p, 0, a :: x.cs⟩
  else if x.at_ - r.b = (x.cs.length : Int) then some ⟨p, x.at_ - r.b, x.cs ++ [a]⟩
  else if x.cs.getD (x.at_ - r.b).toNat 0 ≠ r.a then none
  else some ⟨p, x.at_ - r.b, x.cs.set (x.at_ - r.b).toNat a⟩
/-- What the rule with number k gives. -/
def predK (sy : Int) (rs : List R3) (x : Pa) (k : Nat) : Option Pa :=
  if isRuleB (rs.getD k ⟨0, 0, -1⟩) then predF x ((k : Int) / sy) ((k : Int) % sy) (rs.getD k ⟨0, 0, -1⟩) else none
/-- The predecessors by the first rules, and none if one is too long. -/
def predsTo (sy : Int) (rs : List R3) (x : Pa) : Nat → Option (List Pa)
  | 0 => some []
  | k + 1 => (predsTo sy rs x k).bind fun l => match predK sy rs x k with
    | none => some l
    | some y => if 60 < y.cs.length then none else some (l ++ [y])
def predsF (sy : Int) (rs : List R3) (x : Pa) : Option (List Pa) := predsTo sy rs x rs.length
def addNew (l : List Pa) (y : Pa) : List Pa := if y ∈ l then l else l ++ [y]
/-- The next level, from the first elements. -/
def nextTo (sy : Int) (rs : List R3) (lv : List Pa) : Nat → Option (List Pa)
  | 0 => some []
  | k + 1 => (nextTo sy rs lv k).bind fun out => (predsF sy rs (lv.getD k ⟨0, 0, []⟩)).bind fun l => if 300 < (l.foldl addNew out).length then none else some (l.foldl addNew out)
def nextF (sy : Int) (rs : List R3) (lv : List Pa) : Option (List Pa) := nextTo sy rs lv lv.length
section
variable {sy st : Int} {rs : List R3}
theorem predsTo_none {x : Pa} {k : Nat} (h : predsTo sy rs x k = none) : ∀ n, k ≤ n → predsTo sy rs x n = none := by
  intro n hn
  induction n with
  | zero => obtain rfl : k = 0 := by omega
            exact h
  | succ n ih =>
    rcases Nat.lt_or_ge n k with h1 | h1
    · obtain rfl : k = n + 1 := by omega
      exact h
    · simp [predsTo, ih h1]
theorem nextTo_none {lv : List Pa} {k : Nat} (h : nextTo sy rs lv k = none) : ∀ n, k ≤ n → nextTo sy rs lv n = none := by
  intro n hn
  induction n with
  | zero => obtain rfl : k = 0 := by omega
            exact h
  | succ n ih =>
    rcases Nat.lt_or_ge n k with h1 | h1
    · obtain rfl : k = n + 1 := by omega
      exact h
    · simp [nextTo, ih h1]
theorem predF_ok {x y : Pa} {p a : Int} {r : R3} (hx : PaOk sy st x) (hp : 0 ≤ p ∧ p < st) (ha : 0 ≤ a ∧ a < sy) (hb : r.b = -1 ∨ r.b = 1) (h : predF x p a r = some y) : PaOk sy st y := by
  have h0 := hx.a0
  have h1 := hx.a1
  unfold predF at h
  split at h
  · cases h
  split at h
  · cases h
    exact ⟨hp.1, hp.2, Int.le_refl 0, by simp <;> omega, fun y hy => (List.mem_cons.1 hy).elim (fun h => h ▸ ha) (hx.cs y)⟩
  rename_i h2
  split at h
  · rename_i h3
    cases h
    exact ⟨hp.1, hp.2, by simp <;> omega, by simp <;> omega, fun y hy => (List.mem_append.1 hy).elim (hx.cs y) (fun h => by rw [List.mem_singleton.1 h]; exact ha)⟩
  rename_i h3
  split at h
  · cases h
  · cases h
    exact ⟨hp.1, hp.2, by simp <;> omega, by simp <;> omega, fun y hy => (List.mem_or_eq_of_mem_set hy).elim (hx.cs y) (fun h => by rw [h]; exact ha)⟩
theorem predF_len {x y : Pa} {p a : Int} {r : R3} (h : predF x p a r = some y) : y.cs.length ≤ x.cs.length + 1 := by
  unfold predF at h
  split at h
  · cases h
  split at h
  · cases h; simp
  split at h
  · cases h; simp
  split at h
  · cases h
  · cases h; simp
theorem predsTo_ok {x : Pa} (hm : machB sy st rs = true) (hx : PaOk sy st x) : ∀ {k : Nat} {l : List Pa}, k ≤ rs.length → predsTo sy rs x k = some l → (∀ y ∈ l, PaOk sy st y ∧ y.cs.length ≤ 60) ∧ l.length ≤ k := by
  unfold machB at hm
  simp only [Bool.and_eq_true, decide_eq_true_eq, inB_iff, List.all_eq_true] at hm
  obtain ⟨⟨⟨h1, h2⟩, h3⟩, h4⟩ := hm
  intro k
  induction k with
  | zero => intro l _ h; cases h; simp
  | succ k ih =>
    intro l hk h
    simp only [predsTo, Option.bind_eq_some_iff] at h
    obtain ⟨l0, e0, h⟩ := h
    obtain ⟨i1, i2⟩ := ih (by omega) e0
    have hr : rs[k]? = some (rs.getD k ⟨0, 0, -1⟩) := by rw [List.getD_eq_getElem?_getD, List.getElem?_eq_getElem (by omega)]; rfl
    cases e : predK sy rs x k with
    | none => rw [e] at h; cases h; exact ⟨i1, by omega⟩
    | some y =>
      rw [e] at h
      dsimp only at h
      split at h
      · cases h
      · cases h
        refine ⟨fun z hz => ?_, by simp; omega⟩
        rcases List.mem_append.1 hz with hz | hz
        · exact i1 z hz
        · obtain rfl := List.mem_singleton.1 hz
          refine ⟨?_, by omega⟩
          unfold predK at e
          split at e
          · rename_i hR
            have h5 := h4 _ (List.mem_of_getElem? hr)
            unfold validRuleB at h5
            rw [hR] at h5
            simp only [Bool.not_true, Bool.false_or, Bool.and_eq_true, Bool.or_eq_true, beq_iff_eq, inB_iff] at h5
            have hsy : 0 < sy := by omega
            have hkl : (k : Int) < st * sy := by omega
            refine predF_ok hx ⟨Int.ediv_nonneg (by omega) (by omega), Int.ediv_lt_of_lt_mul hsy (by omega)⟩ ⟨Int.emod_nonneg _ (by omega), Int.emod_lt_of_pos _ hsy⟩ h5.1.2 e
          · cases e
theorem predsF_ok {x : Pa} {l : List Pa} (hm : machB sy st rs = true) (hx : PaOk sy st x) (h : predsF sy rs x = some l) : (∀ y ∈ l, PaOk sy st y ∧ y.cs.length ≤ 60) ∧ l.length ≤ rs.length := predsTo_ok hm hx (Nat.le_refl _) h
theorem addNew_mem {l : List Pa} {y z : Pa} (h : z ∈ addNew l y) : z ∈ l ∨ z = y := by
  unfold addNew at h
  split at h
  · exact .inl h
  · rcases List.mem_append.1 h with h | h
    · exact .inl h
    · exact .inr (List.mem_singleton.1 h)
theorem foldl_addNew_mem {z : Pa} : ∀ (l out : List Pa), z ∈ l.foldl addNew out → z ∈ out ∨ z ∈ l := by
  intro l
  induction l with
  | nil => intro out h; exact .inl h
  | cons y l ih =>
    intro out h
    rcases ih _ h with h | h
    · rcases addNew_mem h with h | h
      · exact .inl h
      · exact .inr (by simp [h])
    · exact .inr (List.mem_cons_of_mem _ h)
theorem addNew_len (l : List Pa) (y : Pa) : l.length ≤ (addNew l y).length ∧ (addNew l y).length ≤ l.length + 1 := by
  unfold addNew; split <;> simp
theorem foldl_addNew_len : ∀ (l out : List Pa), out.length ≤ (l.foldl addNew out).length ∧ (l.foldl addNew out).length ≤ out.length + l.length := by
  intro l
  induction l with
  | nil => intro out; simp
  | cons y l ih =>
    intro out
    have h1 := ih (addNew out y)
    have h2 := addNew_len out y
    simp only [List.foldl_cons, List.length_cons]
    omega
theorem nextTo_ok {lv : List Pa} (hm : machB sy st rs = true) (hl : ∀ x ∈ lv, PaOk sy st x ∧ x.cs.length ≤ 60) : ∀ {k : Nat} {l : List Pa}, k ≤ lv.length → nextTo sy rs lv k = some l → (∀ y ∈ l, PaOk sy st y ∧ y.cs.length ≤ 60) ∧ l.length ≤ 300 := by
  intro k
  induction k with
  | zero => intro l _ h; cases h; simp
  | succ k ih =>
    intro l hk h
    simp only [nextTo, Option.bind_eq_some_iff] at h
    obtain ⟨l0, e0, l1, e1, h⟩ := h
    obtain ⟨i1, i2⟩ := ih (by omega) e0
    split at h
    · cases h
    · cases h
      have hk2 : lv.getD k ⟨0, 0, []⟩ ∈ lv := by rw [List.getD_eq_getElem?_getD, List.getElem?_eq_getElem (by omega)]; exact List.getElem_mem _
      obtain ⟨j1, _⟩ := predsF_ok hm (hl _ hk2).1 e1
      refine ⟨fun z hz => ?_, by omega⟩
      rcases foldl_addNew_mem _ _ hz with hz | hz
      · exact i1 z hz
      · exact j1 z hz
theorem nextF_ok {lv l : List Pa} (hm : machB sy st rs = true) (hl : ∀ x ∈ lv, PaOk sy st x ∧ x.cs.length ≤ 60) (h : nextF sy rs lv = some l) : (∀ y ∈ l, PaOk sy st y ∧ y.cs.length ≤ 60) ∧ l.length ≤ 300 := nextTo_ok hm hl (Nat.le_refl _) h
/-- The level that comes after d levels. -/
def ancF (sy : Int) (rs : List R3) : Nat → List Pa → Option (List Pa)
  | 0, lv => some lv
  | d + 1, lv => (nextF sy rs lv).bind (ancF sy rs d)
/-- The sizes of the levels up to a depth or the first empty one. -/
def sizesF (sy : Int) (rs : List R3) : Nat → List Pa → List Int → Option (List Int)
  | 0, _, out => some out
  | d + 1, lv, out => if lv = [] then some out else (nextF sy rs lv).bind fun l => sizesF sy rs d l (out ++ [(l.length : Int)])
/-- The number of the first empty level (d: how many more may be looked at; n: the number of this one; b: how many steps are left). -/
def depthF (sy : Int) (rs : List R3) : Nat → Int → Int → List Pa → Option Int
  | 0, n, _, lv => if lv = [] then some n else none
  | d + 1, n, b, lv => if lv = [] then some n else if b < (lv.length : Int) then none else (nextF sy rs lv).bind fun l => depthF sy rs d (n + 1) (b - lv.length) l
end
end Go.Proofs.YtdlojbabnelbdaaGreatDoor

/-
  The text of a partial configuration.
-/
namespace Go.Proofs.YtdlojbabnelbdaaGreatDoor
open Go.RowKit

/-- The text: digits, the state in brackets, digits. -/
def partL (x : Pa) : List UInt8 := digL (x.cs.take x.at_.toNat) ++ [91] ++ Lib.decDigits x.q.toNat ++ [93] ++ digL (x.cs.drop x.at_.toNat)
end Go.Proofs.YtdlojbabnelbdaaGreatDoor

/-
  Texts of partial configurations are equal only where the configurations are.
-/
namespace Go.Proofs.YtdlojbabnelbdaaGreatDoor
open Go.RowKit

theorem split_at {c : UInt8} : ∀ {l1 l2 r1 r2 : List UInt8}, c ∉ l1 → c ∉ l2 → l1 ++ c :: r1 = l2 ++ c :: r2 → l1 = l2 ∧ r1 = r2 := by
  intro l1
  induction l1 with
  | nil =>
    intro l2 r1 r2 _ h2 h
    cases l2 with
    | nil => exact ⟨rfl, by simpa using h⟩
    | cons y l2 =>
      simp only [List.nil_append, List.cons_append, List.cons.injEq] at h
      exact absurd (by rw [h.1]; simp) h2
  | cons x l1 ih =>
    intro l2 r1 r2 h1 h2 h
    cases l2 with
    | nil =>
      simp only [List.nil_append, List.cons_append, List.cons.injEq] at h
      exact absurd (by rw [← h.1]; simp) h1
    | cons y l2 =>
      simp only [List.cons_append, List.cons.injEq] at h
      obtain ⟨e1, e2⟩ := ih (fun hm => h1 (by simp [hm])) (fun hm => h2 (by simp [hm])) h.2
      exact ⟨by rw [h.1, e1], e2⟩
theorem byt_toNat {u : Nat} (hu : u ≤ 127) : (byt u).toNat = u := by unfold byt; rw [UInt8.toNat_ofNat']; omega
theorem digL_range {xs : List Int} (h : ∀ x ∈ xs, 0 ≤ x ∧ x ≤ 9) : ∀ b ∈ digL xs, 48 ≤ b.toNat ∧ b.toNat ≤ 57 := by
  intro b hb
  obtain ⟨x, hx, rfl⟩ := List.mem_map.1 hb
  have := h x hx
  rw [byt_toNat (by omega)]; omega
theorem decDigits_range : ∀ u : Nat, ∀ b ∈ Lib.decDigits u, 48 ≤ b.toNat ∧ b.toNat ≤ 57 := by
  intro u
  induction u using Nat.strongRecOn with
  | _ u ih =>
    intro b hb
    rw [Lib.decDigits] at hb
    split at hb
    · rename_i h
      rw [List.mem_singleton.1 hb, UInt8.toNat_ofNat']; omega
    · rename_i h
      rcases List.mem_append.1 hb with hb | hb
      · exact ih (u / 10) (by omega) b hb
      · rw [List.mem_singleton.1 hb, UInt8.toNat_ofNat']; omega
def valD (l : List UInt8) : Nat := l.foldl (fun n b => 10 * n + (b.toNat - 48)) 0
theorem valD_dec : ∀ u : Nat, valD (Lib.decDigits u) = u := by
  intro u
  induction u using Nat.strongRecOn with
  | _ u ih =>
    rw [Lib.decDigits]
    split
    · rename_i h
      unfold valD
      simp only [List.foldl_cons, List.foldl_nil]
      rw [UInt8.toNat_ofNat']; omega
    · rename_i h
      have h1 := ih (u / 10) (by omega)
      unfold valD at h1 ⊢
      rw [List.foldl_append, h1]
      simp only [List.foldl_cons, List.foldl_nil]
      rw [UInt8.toNat_ofNat']; omega
theorem decDigits_inj {u v : Nat} (h : Lib.decDigits u = Lib.decDigits v) : u = v := by rw [← valD_dec u, ← valD_dec v, h]
theorem digL_inj : ∀ {xs ys : List Int}, (∀ x ∈ xs, 0 ≤ x ∧ x ≤ 9) → (∀ x ∈ ys, 0 ≤ x ∧ x ≤ 9) → digL xs = digL ys → xs = ys := by
  intro xs
  induction xs with
  | nil =>
    intro ys _ _ h
    cases ys with
    | nil => rfl
    | cons y ys => simp [digL] at h
  | cons x xs ih =>
    intro ys hx hy h
    cases ys with
    | nil => simp [digL] at h
    | cons y ys =>
      simp only [digL, List.map_cons, List.cons.injEq] at h
      have h1 := hx x (by simp)
      have h2 := hy y (by simp)
      have h3 := congrArg UInt8.toNat h.1
      rw [byt_toNat (by omega), byt_toNat (by omega)] at h3
      rw [show x = y by omega, ih (fun z hz => hx z (by simp [hz])) (fun z hz => hy z (by simp [hz])) h.2]
theorem PaOk.digs {sy st : Int} {x : Pa} (h : PaOk sy st x) (hs : sy ≤ 10) : ∀ y ∈ x.cs, 0 ≤ y ∧ y ≤ 9 := fun y hy => by have := h.cs y hy; omega
theorem partL_inj {sy st : Int} {x y : Pa} (hx : PaOk sy st x) (hy : PaOk sy st y) (hs : sy ≤ 10) (h : partL x = partL y) : x = y := by
  have dx := hx.digs hs
  have dy := hy.digs hs
  have tx : ∀ z ∈ x.cs.take x.at_.toNat, 0 ≤ z ∧ z ≤ 9 := fun z hz => dx z (List.mem_of_mem_take hz)
  have ty : ∀ z ∈ y.cs.take y.at_.toNat, 0 ≤ z ∧ z ≤ 9 := fun z hz => dy z (List.mem_of_mem_take hz)
  have sx : ∀ z ∈ x.cs.drop x.at_.toNat, 0 ≤ z ∧ z ≤ 9 := fun z hz => dx z (List.mem_of_mem_drop hz)
  have sy' : ∀ z ∈ y.cs.drop y.at_.toNat, 0 ≤ z ∧ z ≤ 9 := fun z hz => dy z (List.mem_of_mem_drop hz)
  unfold partL at h
  simp only [List.append_assoc, List.singleton_append, List.cons_append, List.nil_append] at h
  have n91 : ∀ l : List UInt8, (∀ b ∈ l, 48 ≤ b.toNat ∧ b.toNat ≤ 57) → (91 : UInt8) ∉ l := fun l hl hm => by have := hl _ hm; simp at this
  have n93 : ∀ l : List UInt8, (∀ b ∈ l, 48 ≤ b.toNat ∧ b.toNat ≤ 57) → (93 : UInt8) ∉ l := fun l hl hm => by have := hl _ hm; simp at this
  obtain ⟨e1, h⟩ := split_at (n91 _ (digL_range tx)) (n91 _ (digL_range ty)) h
  obtain ⟨e2, e3⟩ := split_at (n93 _ (decDigits_range _)) (n93 _ (decDigits_range _)) h
  have f1 := digL_inj tx ty e1
  have f3 := digL_inj sx sy' e3
  have f2 := decDigits_inj e2
  have hc : x.cs = y.cs := by rw [← List.take_append_drop x.at_.toNat x.cs, ← List.take_append_drop y.at_.toNat y.cs, f1, f3]
  have hl := congrArg List.length f1
  rw [List.length_take, List.length_take] at hl
  have a1 := hx.a0; have a2 := hx.a1; have a3 := hy.a0; have a4 := hy.a1; have a5 := hx.q0; have a6 := hy.q0
  obtain ⟨q, a, cs⟩ := x
  obtain ⟨q', a', cs'⟩ := y
  dsimp only at *
  subst hc
  rw [show q = q' by omega, show a = a' by omega]
end Go.Proofs.YtdlojbabnelbdaaGreatDoor

/-
  The text of a configuration (configText); texts are equal only where the configurations are.
-/
namespace Go.Proofs.YtdlojbabnelbdaaGreatDoor
open Go.RowKit

/-- The text: digits, the state in brackets, digits. -/
def confL (c : Conf) : List UInt8 := digL c.xs.reverse ++ [40] ++ Lib.decDigits c.q.toNat ++ [41] ++ digL c.ys
def confT (c : Conf) : ByteArray := ⟨(confL c).toArray⟩
theorem confT_inj {c d : Conf} (hx : ∀ z ∈ c.xs, 0 ≤ z ∧ z ≤ 9) (hy : ∀ z ∈ c.ys, 0 ≤ z ∧ z ≤ 9) (hq : 0 ≤ c.q) (hx' : ∀ z ∈ d.xs, 0 ≤ z ∧ z ≤ 9) (hy' : ∀ z ∈ d.ys, 0 ≤ z ∧ z ≤ 9) (hq' : 0 ≤ d.q) (h : confT c = confT d) : c = d := by
  have h : confL c = confL d := by
    have h2 := congrArg (fun b : ByteArray => b.data.toList) h
    simpa [confT] using h2
  have rx : ∀ z ∈ c.xs.reverse, 0 ≤ z ∧ z ≤ 9 := fun z hz => hx z (List.mem_reverse.1 hz)
  have rx' : ∀ z ∈ d.xs.reverse, 0 ≤ z ∧ z ≤ 9 := fun z hz => hx' z (List.mem_reverse.1 hz)
  unfold confL at h
  simp only [List.append_assoc, List.cons_append, List.nil_append] at h
  have n40 : ∀ l : List UInt8, (∀ b ∈ l, 48 ≤ b.toNat ∧ b.toNat ≤ 57) → (40 : UInt8) ∉ l := fun l hl hm => by have := hl _ hm; simp at this
  have n41 : ∀ l : List UInt8, (∀ b ∈ l, 48 ≤ b.toNat ∧ b.toNat ≤ 57) → (41 : UInt8) ∉ l := fun l hl hm => by have := hl _ hm; simp at this
  obtain ⟨e1, h⟩ := split_at (n40 _ (digL_range rx)) (n40 _ (digL_range rx')) h
  obtain ⟨e2, e3⟩ := split_at (n41 _ (decDigits_range _)) (n41 _ (decDigits_range _)) h
  have f1 := List.reverse_inj.1 (digL_inj rx rx' e1)
  have f3 := digL_inj hy hy' e3
  have f2 := decDigits_inj e2
  obtain ⟨q, xs, ys⟩ := c
  obtain ⟨q', xs', ys'⟩ := d
  dsimp only at *
  subst f1 f3
  rw [show q = q' by omega]
set_option maxRecDepth 100000 in
set_option maxHeartbeats 4000000 in
theorem configText_any (q : Nat) (A : Option Addr) (n c : Nat) (xs : List Int) (B : Option Addr) (m d : Nat) (ys : List Int) (w : World) (hx : SI w A n xs) (hy : SI w B m ys) (hn : n ≤ 1000) (hm : m ≤ 1000) (hq : q ≤ 1000000) (hr : ∀ x ∈ xs, 0 ≤ x ∧ x ≤ 9) (hs : ∀ y ∈ ys, 0 ≤ y ∧ y ≤ 9) (ht : Tab w) :
    Calls Tryz.prog 21 #[.agg #[.int .i64 (q : Int), .slice A n c, .slice B m d], .int .i64 0] w fun e w' => e = .returned (.string (confT ⟨(q : Int), xs, ys⟩)) ∧ Below w.heap.size w w' := by
  have HLX := Lib.hid hx.len
  have HLY := Lib.hid hy.len
  obtain ⟨W, hW_⟩ : ∃ W, W = w.alloc (.cells #[.int .i64 (q : Int), .slice A n c, .slice B m d] 57) := ⟨_, rfl⟩
  have b0 : Blk W w.heap.size 57 #[.int .i64 (q : Int), .slice A n c, .slice B m d] := by rw [hW_]; exact Blk.new w _ _
  have y0 : Below w.heap.size w W := by rw [hW_]; exact (Below.refl _ _).alloc (Nat.le_refl _) _
  have HW := Lib.hid hW_
  clear hW_
  have q0 : W.cell? ⟨w.heap.size, 0, none⟩ = some (.int .i64 (q : Int)) := b0.cell 0
  have q1 : W.cell? ⟨w.heap.size, 1, none⟩ = some (.slice A n c) := b0.cell 1
  have q2 : W.cell? ⟨w.heap.size, 2, none⟩ = some (.slice B m d) := b0.cell 2
  have hg := b0.lt
  go_enter Tryz.func21, Tryz.ntmps21
  go_upto_region 3 with fail
  rw [← HW.out]
  have HX := Lib.hid (fun W' (h : Below w.heap.size w W') => hx.below h)
  have HY := Lib.hid (fun W' (h : Below w.heap.size w W') => hy.below h)
  have HT := Lib.hid (fun W' (h : Below w.heap.size w W') => ht.below h)
  have HR : Hid (∀ x ∈ xs.reverse, 0 ≤ x ∧ x ≤ 9) := Lib.hid (fun x hm => hr x (List.mem_reverse.1 hm))
  have HS := Lib.hid hs
  have HRL : Hid (xs.reverse.length = n) := Lib.hid (by rw [List.length_reverse]; exact HLX.out)
  obtain ⟨D1, hD1⟩ : ∃ D : ByteArray, D = ⟨(digL xs.reverse).toArray⟩ := ⟨_, rfl⟩
  obtain ⟨D2, hD2⟩ : ∃ D : ByteArray, D = ⟨(digL ys).toArray⟩ := ⟨_, rfl⟩
  obtain ⟨D3, hD3⟩ : ∃ D : ByteArray, D = decS q := ⟨_, rfl⟩
  have d1 : D1.size ≤ 1000 := by rw [hD1]; simp [ByteArray.size, digL]; have := HLX.out; omega
  have d2 : D2.size ≤ 1000 := by rw [hD2]; simp [ByteArray.size, digL]; have := HLY.out; omega
  have d3 : D3.size ≤ 19 := by rw [hD3]; exact decS_len q (by omega)
  have HD1 := Lib.hid (fun W' A' k' (h : SI W' A' n xs.reverse) => digitsText_any A' n k' xs.reverse W' h (by omega) HR.out)
  have HD2 := Lib.hid (fun W' (h : Below w.heap.size w W') => digitsText_any B m d ys W' (HY.out _ h) (by omega) HS.out)
  have HDE := Lib.hid (decimal_any q)
  rw [← hD1] at HD1
  rw [← hD2] at HD2
  rw [← hD3] at HDE
  have HE1 := Lib.hid hD1
  have HE2 := Lib.hid hD2
  have HE3 := Lib.hid hD3
  clear hD1 hD2 hD3
  have s1 : ¬ 9223372036854775807 < D1.size + 1 := by omega
  have s2 : ¬ 9223372036854775807 < D1.size + 1 + D3.size := by omega
  have s3 : ¬ 9223372036854775807 < D1.size + 1 + D3.size + 1 := by omega
  have s4 : ¬ 9223372036854775807 < D1.size + 1 + D3.size + 1 + D2.size := by omega
  have hp : Below w.heap.size w (W.drewN 1) := below_drewN y0 1
  have HSS := Lib.hid (fun W' (z : Below W.heap.size W W') => (⟨(z.cell (p := ⟨w.heap.size, 0, none⟩) hg).trans q0, (z.cell (p := ⟨w.heap.size, 1, none⟩) hg).trans q1, (z.cell (p := ⟨w.heap.size, 2, none⟩) hg).trans q2⟩ : W'.cell? ⟨w.heap.size, 0, none⟩ = some (.int .i64 (q : Int)) ∧ W'.cell? ⟨w.heap.size, 1, none⟩ = some (.slice A n c) ∧ W'.cell? ⟨w.heap.size, 2, none⟩ = some (.slice B m d)))
  clear hr hs hx hy ht
  go_region_held3 (fun w' => w'.cell? ⟨w.heap.size, 0, none⟩ = some (.int .i64 (q : Int)) ∧ w'.cell? ⟨w.heap.size, 1, none⟩ = some (.slice A n c) ∧ w'.cell? ⟨w.heap.size, 2, none⟩ = some (.slice B m d))
    (first
      | (go_keep; done)
      | (exact HSS.out _ zz5)
      | (exact HSS.out _ zz4)
      | (exact HSS.out _ zz3)
      | (exact HSS.out _ zz2))
    (first
      | (go_at_call 47; refine (reversed_any _ _ _ xs _ (HX.out _ hp) (by omega)).mono ?_; rintro e w2 ⟨L2, c2, rfl, o2, z2⟩; have zz2 : Below W.heap.size W w2 := below_undrew (n := 1) z2; have hp2 := y0.trans (zz2.mono y0.size); rw [HRL.out] at o2; try rw [HRL.out])
      | (go_at_call 48; refine (HDE.out _ (by omega) (HT.out _ hp3)).mono ?_; rintro e w4 ⟨rfl, z4⟩; have zz4 := zz3.trans (z4.mono zz3.size); have hp4 := hp3.trans (z4.mono hp3.size))
      | (go_at_call_of 46 (Value.slice B m d); refine (HD2.out _ hp4).mono ?_; rintro e w5 ⟨rfl, z5⟩; have zz5 := zz4.trans (z5.mono zz4.size); have hp5 := hp4.trans (z5.mono hp4.size))
      | (go_at_call 46; refine (HD1.out _ _ _ o2.rd).mono ?_; rintro e w3 ⟨rfl, z3⟩; have zz3 := zz2.trans (z3.mono zz2.size); have hp3 := hp2.trans (z3.mono hp2.size)))
  have hfin : D1 ++ ⟨#[40]⟩ ++ D3 ++ ⟨#[41]⟩ ++ D2 = confT ⟨(q : Int), xs, ys⟩ := by
    rw [HE1.out, HE2.out, HE3.out]
    apply ByteArray.ext
    apply Array.toList_inj.1
    simp [confT, confL, decS, ByteArray.data_append]
  have HF := Lib.hid hfin
  clear hfin s1 s2 s3 s4
  go_wp2_with fail
  go_ret
  exact ⟨by rw [← HF.out]; rfl, hp5⟩
end Go.Proofs.YtdlojbabnelbdaaGreatDoor

/-
  The first row with a property. No program is in sight.
-/
namespace Go.Proofs.YtdlojbabnelbdaaGreatDoor
open Go.RowKit

def firstB (p : List Int → Bool) (xss : List (List Int)) : Int := match xss.findIdx? p with | some k => k | none => -1
theorem firstB_at {p : List Int → Bool} {ts : List Sl} {t : Sl} {k : Nat} (hT : ts[k]? = some t) (h : p t.xs = true) (he : ((nums ts).take k).any p = false) : (k : Int) = firstB p (nums ts) := by
  unfold firstB
  obtain ⟨hk, rfl⟩ := List.getElem?_eq_some_iff.1 hT
  have : (nums ts).findIdx? p = some k := by
    rw [List.findIdx?_eq_some_iff_getElem]
    refine ⟨by simpa [nums] using hk, by simpa [nums] using h, fun j hj => ?_⟩
    rw [List.any_eq_false] at he
    have := he ((nums ts)[j]'(by simp [nums]; omega)) (by rw [List.mem_take_iff_getElem]; exact ⟨j, by simp [nums]; omega, rfl⟩)
    simpa using this
  rw [this]
theorem firstB_none {p : List Int → Bool} {ts : List Sl} {k n : Nat} (hk : n ≤ k) (hl : ts.length = n) (he : ((nums ts).take k).any p = false) : -1 = firstB p (nums ts) := by
  unfold firstB
  rw [List.take_of_length_le (by simp [nums]; omega)] at he
  have : (nums ts).findIdx? p = none := by
    rw [List.findIdx?_eq_none_iff]
    intro x hx
    rw [List.any_eq_false] at he
    simpa using he x hx
  rw [this]
theorem firstB_next {p : List Int → Bool} {ts : List Sl} {t : Sl} {k : Nat} (hT : ts[k]? = some t) (h : p t.xs = false) (he : ((nums ts).take k).any p = false) : ((nums ts).take (k + 1)).any p = false := by
  obtain ⟨hk, rfl⟩ := List.getElem?_eq_some_iff.1 hT
  rw [List.take_succ_eq_append_getElem (by simpa [nums] using hk), List.any_append, he]
  simpa [nums] using h
theorem firstB_ge (p : List Int → Bool) (xss : List (List Int)) : decide (0 ≤ firstB p xss) = xss.any p := by
  unfold firstB
  cases h : xss.findIdx? p with
  | some k =>
    obtain ⟨hk, hp, _⟩ := List.findIdx?_eq_some_iff_getElem.1 h
    have : xss.any p = true := List.any_eq_true.2 ⟨_, List.getElem_mem hk, hp⟩
    rw [this]; simp
  | none =>
    have : xss.any p = false := by rw [List.any_eq_false]; intro x hx; simpa using List.findIdx?_eq_none_iff.1 h x hx
    rw [this]; simp
end Go.Proofs.YtdlojbabnelbdaaGreatDoor

/-
  Contracts of the reference's l05OwnConfig, l05Halts, l05Step in the words of a configuration, and of l05Run.
-/
namespace Go.Proofs.YtdlojbabnelbdaaGreatDoor
open Go.RowKit

set_option maxHeartbeats 2000000 in
theorem l05OwnConfig_any (f : Nat) (q : Int) (L : Option Addr) (m c : Nat) (xs : List Int) (R : Option Addr) (l d : Nat) (ys : List Int) (w : World) (hc : ConfAt w f q L m c R l d) (hx : SI w L m xs) (hy : SI w R l ys) (hm : m ≤ 1048576) (hl : l ≤ 1048576) :
    Calls Tryz.prog 54 #[.pointer (some ⟨f, 0, none⟩)] w (NewConf w q xs ys) := by
  obtain ⟨W, hW⟩ : ∃ W, W = w.alloc (.cells #[.int .i64 0, .slice none 0 0, .slice none 0 0] 57) := ⟨_, rfl⟩
  have b0 : Blk W w.heap.size 57 #[.int .i64 0, .slice none 0 0, .slice none 0 0] := by rw [hW]; exact Blk.new w _ _
  have y0 : Below w.heap.size w W := by rw [hW]; exact (Below.refl _ _).alloc (Nat.le_refl _) _
  have HW := Lib.hid hW
  clear hW
  have hcW := hc.below y0
  have q3 : W.cell? ⟨f, 0, none⟩ = some (.int .i64 q) := hcW.1
  have q4 : W.cell? ⟨f, 1, none⟩ = some (.slice L m c) := hcW.2.1
  have q5 : W.cell? ⟨f, 2, none⟩ = some (.slice R l d) := hcW.2.2
  have hgw : f < w.heap.size := hc.lt
  have n1 : ¬ f = w.heap.size := by omega
  have hwW : w.heap.size < W.heap.size := b0.lt
  have slW := (hx.below y0).drewN 1
  have srW := hy.below y0
  have hxl : xs.length = m := hx.len
  have hyl : ys.length = l := hy.len
  have HXL := Lib.hid hxl
  have HYL := Lib.hid hyl
  clear hxl hyl
  have KEEP : Hid (∀ cur, Below W.heap.size W cur → cur.cell? ⟨f, 0, none⟩ = some (.int .i64 q) ∧ cur.cell? ⟨f, 1, none⟩ = some (.slice L m c) ∧ cur.cell? ⟨f, 2, none⟩ = some (.slice R l d)) := fun cur h => hcW.below h
  go_enter Tryz.func54, Tryz.ntmps54
  go_wp2_with fail
  rw [← HW.out]
  go_region_held3 (fun w' => w'.cell? ⟨f, 0, none⟩ = some (.int .i64 q) ∧ w'.cell? ⟨f, 1, none⟩ = some (.slice L m c) ∧ w'.cell? ⟨f, 2, none⟩ = some (.slice R l d))
    (first
      | (go_keep; done)
      | (exact ⟨far_set n1 (far_set n1 (far_set n1 (KEEP.out _ z3).1)), far_set n1 (far_set n1 (far_set n1 (KEEP.out _ z3).2.1)), far_set n1 (far_set n1 (far_set n1 (KEEP.out _ z3).2.2))⟩)
      | (exact KEEP.out _ z3)
      | (exact KEEP.out _ z2))
    (first
      | (go_at_call_of 74 (Value.slice L m c); refine (l00Own_any _ _ _ xs _ slW (by omega)).mono ?_; rintro e w2 ⟨L2, cl, rfl, ol2, z2'⟩; have z2 : Below W.heap.size W w2 := below_undrew z2')
      | (go_at_call_of 74 (Value.slice R l d); refine (l00Own_any _ _ _ ys _ (SI.below (xs := ys) srW z2) (by omega)).mono ?_; rintro e w3 ⟨R2, cr, rfl, or2, z3'⟩; have z3 : Below W.heap.size W w3 := z2.trans (z3'.mono z2.size)
         have e0 : w3.cell? ⟨w.heap.size, 0, none⟩ = some (.int .i64 0) := (b0.below' z3).cell 0
         have e1 : w3.cell? ⟨w.heap.size, 1, none⟩ = some (.slice none 0 0) := (b0.below' z3).cell 1
         have e2 : w3.cell? ⟨w.heap.size, 2, none⟩ = some (.slice none 0 0) := (b0.below' z3).cell 2
         have f0 := (b0.below' z3).frozen 0
         have f1 := (b0.below' z3).frozen 1
         have f2 := (b0.below' z3).frozen 2))
  go_wp2_with fail
  have d1 : Blk (((w3.setCell ⟨w.heap.size, 0, none⟩ (.int .i64 q)).setCell ⟨w.heap.size, 1, none⟩ (.slice L2 xs.length cl)).setCell ⟨w.heap.size, 2, none⟩ (.slice R2 ys.length cr)) w.heap.size 57 #[.int .i64 q, .slice L2 xs.length cl, .slice R2 ys.length cr] := (((b0.below' z3).set_ 0 _).set_ 1 _).set_ 2 _
  have hz2 : W.heap.size ≤ w2.heap.size := z2.size
  have olf : Own (((w3.setCell ⟨w.heap.size, 0, none⟩ (.int .i64 q)).setCell ⟨w.heap.size, 1, none⟩ (.slice L2 xs.length cl)).setCell ⟨w.heap.size, 2, none⟩ (.slice R2 ys.length cr)) W.heap.size 2 1 L2 xs.length cl (ints xs) :=
    (((Own.below ol2 z3').far (fun e => by have h : W.heap.size ≤ w.heap.size := ol2.blk_ge _ e; omega) _).far (fun e => by have h : W.heap.size ≤ w.heap.size := ol2.blk_ge _ e; omega) _).far (fun e => by have h : W.heap.size ≤ w.heap.size := ol2.blk_ge _ e; omega) _
  have orf : Own (((w3.setCell ⟨w.heap.size, 0, none⟩ (.int .i64 q)).setCell ⟨w.heap.size, 1, none⟩ (.slice L2 xs.length cl)).setCell ⟨w.heap.size, 2, none⟩ (.slice R2 ys.length cr)) w2.heap.size 2 1 R2 ys.length cr (ints ys) :=
    ((or2.far (fun e => by have h : w2.heap.size ≤ w.heap.size := or2.blk_ge _ e; omega) _).far (fun e => by have h : w2.heap.size ≤ w.heap.size := or2.blk_ge _ e; omega) _).far (fun e => by have h : w2.heap.size ≤ w.heap.size := or2.blk_ge _ e; omega) _
  have yf : Below w.heap.size w (((w3.setCell ⟨w.heap.size, 0, none⟩ (.int .i64 q)).setCell ⟨w.heap.size, 1, none⟩ (.slice L2 xs.length cl)).setCell ⟨w.heap.size, 2, none⟩ (.slice R2 ys.length cr)) := (((y0.trans (z3.mono y0.size)).setCell (Nat.le_refl _) _).setCell (Nat.le_refl _) _).setCell (Nat.le_refl _) _
  generalize ((w3.setCell ⟨w.heap.size, 0, none⟩ (.int .i64 q)).setCell ⟨w.heap.size, 1, none⟩ (.slice L2 xs.length cl)).setCell ⟨w.heap.size, 2, none⟩ (.slice R2 ys.length cr) = wf at *
  have g0 : wf.cell? ⟨w.heap.size, 0, none⟩ = some (.int .i64 q) := d1.cell 0
  have g1 : wf.cell? ⟨w.heap.size, 1, none⟩ = some (.slice L2 xs.length cl) := d1.cell 1
  have g2 : wf.cell? ⟨w.heap.size, 2, none⟩ = some (.slice R2 ys.length cr) := d1.cell 2
  have hres : NewConf w q xs ys (.returned (.agg #[.int .i64 q, .slice L2 xs.length cl, .slice R2 ys.length cr])) wf := by
    refine ⟨L2, cl, R2, cr, rfl, olf.mono (by omega), orf.mono (by omega), fun b h5 h6 => ?_, yf⟩
    have h7 := ol2.blk_lt b h5
    have h8 := or2.blk_ge b h6
    omega
  exact bodyPost_ret (v := .agg #[.int .i64 q, .slice L2 xs.length cl, .slice R2 ys.length cr]) (by simp [results, Tryz.results54, go_sem, g0, g1, g2]) rfl hres

/-- A configuration in a block, with its sides. -/
def ConfC (w : World) (lo f : Nat) (c : Conf) : Prop :=
  ∃ L a R d, Blk w f 57 #[.int .i64 c.q, .slice L c.xs.length a, .slice R c.ys.length d] ∧ Own w lo 2 1 L c.xs.length a (ints c.xs) ∧ Own w lo 2 1 R c.ys.length d (ints c.ys) ∧ (∀ b, blk L = some b → blk R ≠ some b)
theorem ConfC.below {w w' : World} {lo f : Nat} {c : Conf} (h : ConfC w lo f c) (z : Below w.heap.size w w') : ConfC w' lo f c := by
  obtain ⟨L, a, R, d, h1, h2, h3, h4⟩ := h
  exact ⟨L, a, R, d, h1.below' z, h2.below z, h3.below z, h4⟩
theorem ConfC.drewN {w : World} {lo f : Nat} {c : Conf} (h : ConfC w lo f c) (q : Nat) : ConfC (w.drewN q) lo f c := h

theorem l05Halts_c {w : World} {g : Nat} {sy st : Int} {A : Option Addr} {n k : Nat} {rs : List R3} {f lo : Nat} {c : Conf} (hm : MachAt w g sy st A n k) (hrs : S3 w A n rs) (hc : ConfC w lo f c) (hg : goodC sy st rs c) (hn : n ≤ 1048576) :
    Calls Tryz.prog 55 #[.pointer (some ⟨g, 0, none⟩), .pointer (some ⟨f, 0, none⟩)] w fun e w' => e = .returned (.bool (haltC sy rs c)) ∧ Below w.heap.size w w' := by
  obtain ⟨L, cl, R, d, hb, ol, or_, _⟩ := hc
  obtain ⟨h1, h2, h3, h4, hnl, h5, h6, hx2, hy2, hxm, hym, hrsv⟩ := conf_parts hg
  obtain ⟨a1, a2, a3, a4, idx, hidx, hlt⟩ := at_parts (ys := c.ys.reverse) h1 h2 h3 h4 hnl h5 h6 (fun y hy => hym y (List.mem_reverse.1 hy))
  have hget := ruleOf_get (rs := rs) (ys := c.ys) hidx hlt
  have hln : rs.length = n := hrs.len
  exact l05Halts_any g sy st A n k rs f c.q L _ cl R _ d c.ys idx (ruleOf sy rs c.q c.ys) w hm hrs hb.confAt or_.rd (by omega) a1 (by omega) a3 (by omega) (Lib.hid hidx) (by omega) (Lib.hid hget) hn
theorem l05At_c {w : World} {g : Nat} {sy st : Int} {A : Option Addr} {n k : Nat} {rs : List R3} {f lo : Nat} {c : Conf} (hm : MachAt w g sy st A n k) (hc : ConfC w lo f c) (hg : goodC sy st rs c) :
    Calls Tryz.prog 58 #[.pointer (some ⟨g, 0, none⟩), .pointer (some ⟨f, 0, none⟩)] w fun e w' => e = .returned (.int .i64 (atI sy c.q c.ys.reverse)) ∧ ∃ nq, w' = w.drewN nq := by
  obtain ⟨L, cl, R, d, hb, ol, or_, _⟩ := hc
  obtain ⟨h1, h2, h3, h4, hnl, h5, h6, hx2, hy2, hxm, hym, hrsv⟩ := conf_parts hg
  obtain ⟨a1, a2, a3, a4, idx, hidx, hlt⟩ := at_parts (ys := c.ys.reverse) h1 h2 h3 h4 hnl h5 h6 (fun y hy => hym y (List.mem_reverse.1 hy))
  exact l05At_any g sy st A n k f c.q L _ cl R _ d c.ys w hm hb.confAt or_.rd (by omega) a1 (by omega) a3 (by omega)
theorem l05Step_c {w : World} {g : Nat} {sy st : Int} {A : Option Addr} {n k : Nat} {rs : List R3} {f lo : Nat} {c : Conf} (hm : MachAt w g sy st A n k) (hrs : S3 w A n rs) (hc : ConfC w lo f c) (hg : goodC sy st rs c) (hn : n ≤ 1048576) :
    Calls Tryz.prog 39 #[.pointer (some ⟨g, 0, none⟩), .pointer (some ⟨f, 0, none⟩)] w (SpecConf w (nextC sy rs c) (roomC (nextC sy rs c))) := by
  obtain ⟨L, cl, R, d, hb, ol, or_, _⟩ := hc
  obtain ⟨h1, h2, h3, h4, hnl, h5, h6, hx2, hy2, hxm, hym, hrsv⟩ := conf_parts hg
  obtain ⟨gx, gy⟩ := conf_good hg
  obtain ⟨a1, a2, a3, a4, idx, hidx, hlt⟩ := at_parts (ys := c.ys.reverse) h1 h2 h3 h4 hnl h5 h6 (fun y hy => hym y (List.mem_reverse.1 hy))
  have hget := ruleOf_get (rs := rs) (ys := c.ys) hidx hlt
  have hln : rs.length = n := hrs.len
  have := l05Step_any g sy st A n k rs f c.q L _ cl c.xs R _ d c.ys idx (ruleOf sy rs c.q c.ys) w hm hrs hb.confAt ol.rd or_.rd (by omega) (by omega) ol.le or_.le a1 (by omega) a3 (by omega) (Lib.hid hidx) (by omega) (Lib.hid hget) hn
  rw [stepS_eq gx gy] at this
  exact this
theorem ConfC.set3 {w : World} {lo f : Nat} {cs : Array Value} {a0 b0 c0 : Value} {c : Conf} {L R : Option Addr} {a d : Nat} (hcs : cs = #[a0, b0, c0]) (hb : Blk w f 57 cs) (h2 : Own w lo 2 1 L c.xs.length a (ints c.xs)) (h3 : Own w lo 2 1 R c.ys.length d (ints c.ys)) (h4 : ∀ b, blk L = some b → blk R ≠ some b) :
    ConfC (((w.setCell ⟨f, 0, none⟩ (.int .i64 c.q)).setCell ⟨f, 1, none⟩ (.slice L c.xs.length a)).setCell ⟨f, 2, none⟩ (.slice R c.ys.length d)) lo f c := by
  subst hcs
  have e : ∀ {X : Option Addr} {n' c' : Nat} {xs : List Value}, Own w lo 2 1 X n' c' xs → blk X ≠ some f := by
    intro X n' c' xs h hbk
    rcases h.2 with ⟨rfl, _⟩ | ⟨b, off, cur, rfl, _, hg, _⟩
    · simp [blk] at hbk
    · simp [blk] at hbk; subst hbk
      unfold Blk at hb
      rw [hg] at hb
      simp at hb
  exact ⟨L, a, R, d, conf_set hb _ _ _, ((h2.far (p := ⟨f, 0, none⟩) (e h2) _).far (p := ⟨f, 1, none⟩) (e h2) _).far (p := ⟨f, 2, none⟩) (e h2) _, ((h3.far (p := ⟨f, 0, none⟩) (e h3) _).far (p := ⟨f, 1, none⟩) (e h3) _).far (p := ⟨f, 2, none⟩) (e h3) _, h4⟩
end Go.Proofs.YtdlojbabnelbdaaGreatDoor

/-
  Contract of the reference's l05Run.
-/
namespace Go.Proofs.YtdlojbabnelbdaaGreatDoor
open Go.RowKit

def SpecRun (w : World) (sy : Int) (rs : List R3) (c : Conf) (N : Nat) (e : Ending) (w' : World) : Prop :=
  ((∃ i, Ended sy rs c N i ∧ ∃ L a R d, e = .returned (.tuple #[.agg #[.int .i64 (itC sy rs c i).q, .slice L (itC sy rs c i).xs.length a, .slice R (itC sy rs c i).ys.length d], .int .i64 (i : Int), .bool (haltC sy rs (itC sy rs c i)), .bool true]) ∧
      Own w' w.heap.size 2 1 L (itC sy rs c i).xs.length a (ints (itC sy rs c i).xs) ∧ Own w' w.heap.size 2 1 R (itC sy rs c i).ys.length d (ints (itC sy rs c i).ys) ∧ (∀ b, blk L = some b → blk R ≠ some b)) ∨
    (∃ i, Full sy rs c N i) ∧ e = .returned (.tuple #[.agg #[.int .i64 0, .slice none 0 0, .slice none 0 0], .int .i64 0, .bool false, .bool false])) ∧ Below w.heap.size w w'

set_option maxRecDepth 100000 in
set_option maxHeartbeats 4000000 in
theorem l05Run_any (g : Nat) (sy st : Int) (A : Option Addr) (n k : Nat) (rs : List R3) (c : Conf) (L : Option Addr) (a : Nat) (R : Option Addr) (d : Nat) (N : Nat) (w : World) (hm : MachAt w g sy st A n k) (hrs : S3 w A n rs) (hx : SI w L c.xs.length c.xs) (hy : SI w R c.ys.length c.ys) (hgc : goodC sy st rs c) (hn : n ≤ 1048576) (hN : N ≤ 1000000) :
    Calls Tryz.prog 34 #[.pointer (some ⟨g, 0, none⟩), .agg #[.int .i64 c.q, .slice L c.xs.length a, .slice R c.ys.length d], .int .i64 (N : Int)] w (SpecRun w sy rs c N) := by
  obtain ⟨W, hW⟩ : ∃ W, W = (w.alloc (.cells #[.int .i64 c.q, .slice L c.xs.length a, .slice R c.ys.length d] 57)).alloc (.cells #[.int .i64 0, .slice none 0 0, .slice none 0 0] 57) := ⟨_, rfl⟩
  have s1 : (w.alloc (.cells #[.int .i64 c.q, .slice L c.xs.length a, .slice R c.ys.length d] 57)).heap.size = w.heap.size + 1 := by simp
  have b0 : Blk W w.heap.size 57 #[.int .i64 c.q, .slice L c.xs.length a, .slice R c.ys.length d] := by rw [hW]; exact (Blk.new w _ _).alloc _
  have b1 : Blk W (w.heap.size + 1) 57 #[.int .i64 0, .slice none 0 0, .slice none 0 0] := by rw [hW, ← s1]; exact Blk.new _ _ _
  have y0 : Below w.heap.size w W := by rw [hW]; exact ((Below.refl _ _).alloc (Nat.le_refl _) _).alloc (by simp) _
  have HW := Lib.hid hW
  clear hW s1
  have hl := conf_parts hgc
  have hxl : c.xs.length ≤ 1048576 := by have := hl.2.2.2.2.2.2.2.1; omega
  have hyl : c.ys.length ≤ 1048576 := by have := hl.2.2.2.2.2.2.2.2.1; omega
  clear hl
  go_enter Tryz.func34, Tryz.ntmps34
  go_wp2_with fail
  rw [← HW.out]
  clear HW
  refine (l05OwnConfig_any _ _ _ _ _ c.xs _ _ _ c.ys _ b0.confAt (hx.below y0) (hy.below y0) hxl hyl).mono ?_
  rintro e W1 ⟨L1, a1, R1, d1, rfl, o1, o1', hap1, z1⟩
  have HAP1 := Lib.hid hap1
  clear hap1
  obtain ⟨W2, hW2⟩ : ∃ W, W = W1.alloc (.cells #[.int .i64 c.q, .slice L1 c.xs.length a1, .slice R1 c.ys.length d1] 57) := ⟨_, rfl⟩
  have b2 : Blk W2 W1.heap.size 57 #[.int .i64 c.q, .slice L1 c.xs.length a1, .slice R1 c.ys.length d1] := by rw [hW2]; exact Blk.new W1 _ _
  have z2 : Below W1.heap.size W1 W2 := by rw [hW2]; exact (Below.refl _ _).alloc (Nat.le_refl _) _
  have y2 : Below w.heap.size w W2 := (y0.trans (z1.mono y0.size)).trans (z2.mono (y0.trans (z1.mono y0.size)).size)
  have hC2 : ConfC W2 w.heap.size W1.heap.size c := ⟨L1, a1, R1, d1, b2, (o1.below z2).mono y0.size, (o1'.below z2).mono y0.size, HAP1.out⟩
  have b12 := (b1.below' z1).below' z2
  have hf : w.heap.size + 1 < W1.heap.size := by have := (b1.below' z1).lt; omega
  have HW2 := Lib.hid hW2
  clear hW2 b0 b1 o1 o1' HAP1 b2
  go_wp2_with fail
  rw [← HW2.out]
  clear HW2
  obtain ⟨f, hf'⟩ : ∃ f, f = W1.heap.size := ⟨_, rfl⟩
  rw [← hf'] at hC2 hf
  rw [← hf']
  clear hf' z1 z2
  go_loopw [11] (fun s wr => ∃ i : Nat, s = .int .i64 (i : Int) ∧ i ≤ N ∧ Alive sy rs c i ∧ ConfC wr w.heap.size f (itC sy rs c i) ∧ Blk wr (w.heap.size + 1) 57 #[.int .i64 0, .slice none 0 0, .slice none 0 0] ∧ Below w.heap.size w wr) (fun s _ => N - (intOf s).toNat)
  case atStart => exact ⟨0, rfl, Nat.zero_le _, Alive.zero _ _ _, hC2, b12, y2⟩
  case round =>
    obtain ⟨i, rfl, hi, hal, hC, hB, hY⟩ := hrel
    have HGOOD := Lib.hid (hal.good hgc)
    have HAL := Lib.hid hal
    clear hal hC2 b12 y2 y0
    have hhalt := l05Halts_c (hm.below hY) (hrs.below hY) hC HGOOD.out hn
    have HHALT := Lib.hid hhalt
    clear hhalt
    have hBlt : w.heap.size + 1 < wr.heap.size := hB.lt
    by_cases hlt : i < N
    · go_wp2_with fail
      refine HHALT.out.mono ?_
      rintro e W3 ⟨rfl, z3⟩
      have hC3 := hC.below z3
      have hB3 := hB.below' z3
      have hY3 : Below w.heap.size w W3 := hY.trans (z3.mono hY.size)
      cases hh : haltC sy rs (itC sy rs c i) with
      | true =>
        have HH := Lib.hid hh
        clear hh
        obtain ⟨L3, a3, R3', d3, bc, ol, or_, hap⟩ := hC3
        have HAP := Lib.hid hap
        clear hap
        have c0 : W3.cell? ⟨f, 0, none⟩ = some (.int .i64 (itC sy rs c i).q) := bc.cell 0
        have c1 : W3.cell? ⟨f, 1, none⟩ = some (.slice L3 (itC sy rs c i).xs.length a3) := bc.cell 1
        have c2 : W3.cell? ⟨f, 2, none⟩ = some (.slice R3' (itC sy rs c i).ys.length d3) := bc.cell 2
        have u0 : W3.cell? ⟨w.heap.size + 1, 0, none⟩ = some (.int .i64 0) := hB3.cell 0
        have u1 : W3.cell? ⟨w.heap.size + 1, 1, none⟩ = some (.slice none 0 0) := hB3.cell 1
        have u2 : W3.cell? ⟨w.heap.size + 1, 2, none⟩ = some (.slice none 0 0) := hB3.cell 2
        have f0 := hB3.frozen 0
        have f1 := hB3.frozen 1
        have f2 := hB3.frozen 2
        go_wp2_with fail
        have hCf := ConfC.set3 (c := itC sy rs c i) rfl hB3 ol or_ HAP.out
        have hYf := conf_below hY3 (show w.heap.size ≤ w.heap.size + 1 by omega) (.int .i64 (itC sy rs c i).q) (.slice L3 (itC sy rs c i).xs.length a3) (.slice R3' (itC sy rs c i).ys.length d3)
        generalize ((W3.setCell ⟨w.heap.size + 1, 0, none⟩ (.int .i64 (itC sy rs c i).q)).setCell ⟨w.heap.size + 1, 1, none⟩ (.slice L3 (itC sy rs c i).xs.length a3)).setCell ⟨w.heap.size + 1, 2, none⟩ (.slice R3' (itC sy rs c i).ys.length d3) = Wf at *
        obtain ⟨Lf, af, Rf, df, bf, olf, orf, hapf⟩ := hCf
        have g0 : Wf.cell? ⟨w.heap.size + 1, 0, none⟩ = some (.int .i64 (itC sy rs c i).q) := bf.cell 0
        have g1 : Wf.cell? ⟨w.heap.size + 1, 1, none⟩ = some (.slice Lf (itC sy rs c i).xs.length af) := bf.cell 1
        have g2 : Wf.cell? ⟨w.heap.size + 1, 2, none⟩ = some (.slice Rf (itC sy rs c i).ys.length df) := bf.cell 2
        exact bodyPost_ret (v := .tuple #[.agg #[.int .i64 (itC sy rs c i).q, .slice Lf (itC sy rs c i).xs.length af, .slice Rf (itC sy rs c i).ys.length df], .int .i64 (i : Int), .bool true, .bool true]) (by simp [results, Tryz.results34, go_sem, g0, g1, g2]) rfl ⟨.inl ⟨i, ⟨hi, HAL.out, .inr HH.out⟩, Lf, af, Rf, df, by rw [HH.out], olf, orf, hapf⟩, hYf⟩
      | false =>
        have HH := Lib.hid hh
        clear hh
        have hstep := l05Step_c (hm.below hY3) (hrs.below hY3) hC3 HGOOD.out hn
        have HSTEP := Lib.hid hstep
        clear hstep
        go_wp2_with fail
        refine HSTEP.out.mono ?_
        rintro e W4 ⟨L4, a4, R4, d4, rfl, ol4, or4, hap4, z4⟩
        have HAP4 := Lib.hid hap4
        clear hap4 HSTEP HHALT
        have hY4 : Below w.heap.size w W4 := hY3.trans (z4.mono hY3.size)
        obtain ⟨W5, hW5⟩ : ∃ W, W = W4.alloc (.cells #[.int .i64 (nextC sy rs (itC sy rs c i)).q, .slice L4 (nextC sy rs (itC sy rs c i)).xs.length a4, .slice R4 (nextC sy rs (itC sy rs c i)).ys.length d4] 57) := ⟨_, rfl⟩
        have b5 : Blk W5 W4.heap.size 57 #[.int .i64 (nextC sy rs (itC sy rs c i)).q, .slice L4 (nextC sy rs (itC sy rs c i)).xs.length a4, .slice R4 (nextC sy rs (itC sy rs c i)).ys.length d4] := by rw [hW5]; exact Blk.new W4 _ _
        have z5 : Below W4.heap.size W4 W5 := by rw [hW5]; exact (Below.refl _ _).alloc (Nat.le_refl _) _
        have HW5 := Lib.hid hW5
        clear hW5
        have hY5 : Below w.heap.size w W5 := hY4.trans (z5.mono hY4.size)
        have hB5 := (hB3.below' z4).below' z5
        have hC5 := (hC3.below z4).below z5
        obtain ⟨L5, a5, R5, d5, bc5, _, _, _⟩ := hC5
        have hfW : f < W4.heap.size := by obtain ⟨_, _, _, _, b4, _⟩ := hC3.below z4; exact b4.lt
        have hB5lt : w.heap.size + 1 < W4.heap.size := (hB3.below' z4).lt
        cases hro : roomC (nextC sy rs (itC sy rs c i)) with
        | true =>
          have HRO := Lib.hid hro
          clear hro
          go_upto_region 8 with fail
          rw [← HW5.out]
          clear HW5
          have c0 : W5.cell? ⟨W4.heap.size, 0, none⟩ = some (.int .i64 (nextC sy rs (itC sy rs c i)).q) := b5.cell 0
          have c1 : W5.cell? ⟨W4.heap.size, 1, none⟩ = some (.slice L4 (nextC sy rs (itC sy rs c i)).xs.length a4) := b5.cell 1
          have c2 : W5.cell? ⟨W4.heap.size, 2, none⟩ = some (.slice R4 (nextC sy rs (itC sy rs c i)).ys.length d4) := b5.cell 2
          have u0 : W5.cell? ⟨f, 0, none⟩ = some (.int .i64 (itC sy rs c i).q) := bc5.cell 0
          have u1 : W5.cell? ⟨f, 1, none⟩ = some (.slice L5 (itC sy rs c i).xs.length a5) := bc5.cell 1
          have u2 : W5.cell? ⟨f, 2, none⟩ = some (.slice R5 (itC sy rs c i).ys.length d5) := bc5.cell 2
          have f0 := bc5.frozen 0
          have f1 := bc5.frozen 1
          have f2 := bc5.frozen 2
          go_wp2_with fail
          have hCf := ConfC.set3 (c := nextC sy rs (itC sy rs c i)) rfl bc5 ((ol4.below z5).mono hY3.size) ((or4.below z5).mono hY3.size) HAP4.out
          have hYf := conf_below hY5 (show w.heap.size ≤ f by omega) (.int .i64 (nextC sy rs (itC sy rs c i)).q) (.slice L4 (nextC sy rs (itC sy rs c i)).xs.length a4) (.slice R4 (nextC sy rs (itC sy rs c i)).ys.length d4)
          have hBf := ((hB5.far (p := ⟨f, 0, none⟩) (show w.heap.size + 1 ≠ f by omega) (.int .i64 (nextC sy rs (itC sy rs c i)).q)).far (p := ⟨f, 1, none⟩) (show w.heap.size + 1 ≠ f by omega) (.slice L4 (nextC sy rs (itC sy rs c i)).xs.length a4)).far (p := ⟨f, 2, none⟩) (show w.heap.size + 1 ≠ f by omega) (.slice R4 (nextC sy rs (itC sy rs c i)).ys.length d4)
          go_roundw
          case rel => exact ⟨i + 1, by go_num, by omega, HAL.out.next HH.out HRO.out, hCf, hBf, hYf⟩
          case measure => simp [intOf]; omega
        | false =>
          have HRO := Lib.hid hro
          clear hro
          go_upto_region 8 with fail
          rw [← HW5.out]
          clear HW5
          have u0 : W5.cell? ⟨w.heap.size + 1, 0, none⟩ = some (.int .i64 0) := hB5.cell 0
          have u1 : W5.cell? ⟨w.heap.size + 1, 1, none⟩ = some (.slice none 0 0) := hB5.cell 1
          have u2 : W5.cell? ⟨w.heap.size + 1, 2, none⟩ = some (.slice none 0 0) := hB5.cell 2
          have f0 := hB5.frozen 0
          have f1 := hB5.frozen 1
          have f2 := hB5.frozen 2
          go_wp2_with fail
          have d1 := conf_set hB5 (.int .i64 0) (.slice none 0 0) (.slice none 0 0)
          exact bodyPost_ret (v := .tuple #[.agg #[.int .i64 0, .slice none 0 0, .slice none 0 0], .int .i64 0, .bool false, .bool false]) (by simp [results, Tryz.results34, go_sem, d1.cell 0, d1.cell 1, d1.cell 2]) rfl ⟨.inr ⟨⟨i, hlt, HAL.out, HH.out, HRO.out⟩, rfl⟩, conf_below hY5 (by omega) _ _ _⟩
    · have hC0 := hC
      obtain ⟨L3, a3, R3', d3, bc0, ol0, or0, hap⟩ := hC0
      have HAP := Lib.hid hap
      clear hap
      have c0 : wr.cell? ⟨f, 0, none⟩ = some (.int .i64 (itC sy rs c i).q) := bc0.cell 0
      have c1 : wr.cell? ⟨f, 1, none⟩ = some (.slice L3 (itC sy rs c i).xs.length a3) := bc0.cell 1
      have c2 : wr.cell? ⟨f, 2, none⟩ = some (.slice R3' (itC sy rs c i).ys.length d3) := bc0.cell 2
      clear HHALT
      have hhalt := l05Halts_c (w := wr.drewN 1) ((hm.below hY).drewN 1) ((hrs.below hY).drewN 1) (hC.drewN 1) HGOOD.out hn
      have HHALT := Lib.hid hhalt
      clear hhalt
      have n1 : ¬ f = w.heap.size + 1 := by omega
      go_wp2_with fail
      go_region_held3 (fun w' => w'.cell? ⟨f, 0, none⟩ = some (.int .i64 (itC sy rs c i).q) ∧ w'.cell? ⟨f, 1, none⟩ = some (.slice L3 (itC sy rs c i).xs.length a3) ∧ w'.cell? ⟨f, 2, none⟩ = some (.slice R3' (itC sy rs c i).ys.length d3))
        (first
          | (go_keep; done)
          | (exact ⟨(bc0.below' z3).cell 0, (bc0.below' z3).cell 1, (bc0.below' z3).cell 2⟩)
          | (exact ⟨far_set n1 (far_set n1 (far_set n1 ((bc0.below' z3).cell 0))), far_set n1 (far_set n1 (far_set n1 ((bc0.below' z3).cell 1))), far_set n1 (far_set n1 (far_set n1 ((bc0.below' z3).cell 2)))⟩))
        ((go_at_call 55; refine HHALT.out.mono ?_; rintro e W3 ⟨rfl, z3'⟩; have z3 : Below wr.heap.size wr W3 := below_undrew z3'; have hB3 := hB.below' z3; have u0 : W3.cell? ⟨w.heap.size + 1, 0, none⟩ = some (.int .i64 0) := hB3.cell 0; have u1 : W3.cell? ⟨w.heap.size + 1, 1, none⟩ = some (.slice none 0 0) := hB3.cell 1; have u2 : W3.cell? ⟨w.heap.size + 1, 2, none⟩ = some (.slice none 0 0) := hB3.cell 2; have f0 := hB3.frozen 0; have f1 := hB3.frozen 1; have f2 := hB3.frozen 2))
      go_wp2_with fail
      have hCf := ConfC.set3 (c := itC sy rs c i) rfl hB3 (ol0.below z3) (or0.below z3) HAP.out
      have hY3 : Below w.heap.size w W3 := hY.trans (z3.mono hY.size)
      have hYf := conf_below hY3 (show w.heap.size ≤ w.heap.size + 1 by omega) (.int .i64 (itC sy rs c i).q) (.slice L3 (itC sy rs c i).xs.length a3) (.slice R3' (itC sy rs c i).ys.length d3)
      generalize ((W3.setCell ⟨w.heap.size + 1, 0, none⟩ (.int .i64 (itC sy rs c i).q)).setCell ⟨w.heap.size + 1, 1, none⟩ (.slice L3 (itC sy rs c i).xs.length a3)).setCell ⟨w.heap.size + 1, 2, none⟩ (.slice R3' (itC sy rs c i).ys.length d3) = Wf at *
      obtain ⟨Lf, af, Rf, df, bf, olf, orf, hapf⟩ := hCf
      have g0 : Wf.cell? ⟨w.heap.size + 1, 0, none⟩ = some (.int .i64 (itC sy rs c i).q) := bf.cell 0
      have g1 : Wf.cell? ⟨w.heap.size + 1, 1, none⟩ = some (.slice Lf (itC sy rs c i).xs.length af) := bf.cell 1
      have g2 : Wf.cell? ⟨w.heap.size + 1, 2, none⟩ = some (.slice Rf (itC sy rs c i).ys.length df) := bf.cell 2
      have hiN : i = N := by omega
      exact bodyPost_ret (v := .tuple #[.agg #[.int .i64 (itC sy rs c i).q, .slice Lf (itC sy rs c i).xs.length af, .slice Rf (itC sy rs c i).ys.length df], .int .i64 (N : Int), .bool (haltC sy rs (itC sy rs c i)), .bool true]) (by simp [results, Tryz.results34, go_sem, g0, g1, g2]) rfl ⟨.inl ⟨i, ⟨hi, HAL.out, .inl hiN⟩, Lf, af, Rf, df, by rw [hiN], olf, orf, hapf⟩, hYf⟩
end Go.Proofs.YtdlojbabnelbdaaGreatDoor

/-
  Contracts of impl's nodeStatus and NodeStatus.
-/
namespace Go.Proofs.YtdlojbabnelbdaaGreatDoor
open Go.RowKit

theorem at_c {X : Nat → Prop} {w : World} {lo g : Nat} {sy st : Int} {A : Option Addr} {n k : Nat} {rs : List R3} {c : Conf} (hs : RunC X w lo g sy st A n k c) (hg : goodC sy st rs c) :
    Calls Tryz.prog 72 #[.pointer (some ⟨g, 0, none⟩)] w fun e w' => e = .returned (.int .i64 (atI sy c.q c.ys.reverse)) ∧ ∃ nq, w' = w.drewN nq := by
  obtain ⟨L, cl, R, d, hr, ol, or_, _⟩ := hs
  obtain ⟨h1, h2, h3, h4, hnl, h5, h6, hx2, hy2, hxm, hym, hrsv⟩ := conf_parts hg
  obtain ⟨a1, a2, a3, a4, idx, hidx, hlt⟩ := at_parts (ys := c.ys.reverse) h1 h2 h3 h4 hnl h5 h6 (fun y hy => hym y (List.mem_reverse.1 hy))
  exact at_any g sy st A n k c.q L _ cl R _ d c.ys.reverse w hr or_.rd (by rw [List.length_reverse]; omega) a1 (by omega) a3 (by omega)

/-- The status of a machine, the index at which it halts, and the number of steps. -/
def nodeF (sy : Int) (rs : List R3) (N : Nat) : Int × Int × Int :=
  match runN sy rs N blankC with
  | none => (3, 0, 0)
  | some i => if haltC sy rs (itC sy rs blankC i) then ((if (freeF rs).length = 1 then 1 else 0), atI sy (itC sy rs blankC i).q (itC sy rs blankC i).ys.reverse, (i : Int)) else (2, 0, (i : Int))
theorem nodeF_full {sy : Int} {rs : List R3} {N i : Nat} (h : Full sy rs blankC N i) : nodeF sy rs N = (3, 0, 0) := by unfold nodeF; rw [runN_full h]
theorem nodeF_runs {sy : Int} {rs : List R3} {N i : Nat} (h : Ended sy rs blankC N i) (hh : haltC sy rs (itC sy rs blankC i) = false) : nodeF sy rs N = (2, 0, (i : Int)) := by unfold nodeF; rw [runN_ended h]; simp [hh]
theorem nodeF_last {sy : Int} {rs : List R3} {N i : Nat} (h : Ended sy rs blankC N i) (hh : haltC sy rs (itC sy rs blankC i) = true) (hf : (freeF rs).length = 1) : nodeF sy rs N = (1, atI sy (itC sy rs blankC i).q (itC sy rs blankC i).ys.reverse, (i : Int)) := by unfold nodeF; rw [runN_ended h]; simp [hh, hf]
theorem nodeF_open {sy : Int} {rs : List R3} {N i : Nat} (h : Ended sy rs blankC N i) (hh : haltC sy rs (itC sy rs blankC i) = true) (hf : ¬ (freeF rs).length = 1) : nodeF sy rs N = (0, atI sy (itC sy rs blankC i).q (itC sy rs blankC i).ys.reverse, (i : Int)) := by unfold nodeF; rw [runN_ended h]; simp [hh, hf]

def NodeP (w : World) (v : Int × Int × Int) (e : Ending) (w' : World) : Prop := e = .returned (.tuple #[.int .i64 v.1, .int .i64 v.2.1, .int .i64 v.2.2]) ∧ Below w.heap.size w w'
theorem nodeP {w w' : World} {v : Int × Int × Int} {a b c : Int} (h : v = (a, b, c)) (z : Below w.heap.size w w') : NodeP w v (.returned (.tuple #[.int .i64 a, .int .i64 b, .int .i64 c])) w' := by subst h; exact ⟨rfl, z⟩

/-- The four numbers that NodeStatus returns. -/
def nodeStatusF (sy st : Int) (rs : List R3) (b : Int) : Int × Int × Int × Int :=
  if codeF sy st rs blankC b = 0 then ((nodeF sy rs b.toNat).1, (nodeF sy rs b.toNat).2.1, (nodeF sy rs b.toNat).2.2, 0) else (0, 0, 0, codeF sy st rs blankC b)
def Node4 (w : World) (v : Int × Int × Int × Int) (e : Ending) (w' : World) : Prop := e = .returned (.tuple #[.int .i64 v.1, .int .i64 v.2.1, .int .i64 v.2.2.1, .int .i64 v.2.2.2]) ∧ Below w.heap.size w w'
theorem node4 {w w' : World} {v : Int × Int × Int × Int} {a b c d : Int} (h : v = (a, b, c, d)) (z : Below w.heap.size w w') : Node4 w v (.returned (.tuple #[.int .i64 a, .int .i64 b, .int .i64 c, .int .i64 d])) w' := by subst h; exact ⟨rfl, z⟩
theorem codeF_zero {sy st : Int} {rs : List R3} {c : Conf} {b : Int} (h : codeF sy st rs c b = 0) : goodC sy st rs c ∧ 1 ≤ b ∧ b ≤ 20000 := by
  unfold codeF at h
  split at h
  · rename_i h1
    split at h
    · rename_i h2
      unfold inB at h2
      simp at h2
      exact ⟨h1, h2.1, h2.2⟩
    · cases h
  · cases h

end Go.Proofs.YtdlojbabnelbdaaGreatDoor

/-
  Contract of the reference's l05Budget.
-/
namespace Go.Proofs.YtdlojbabnelbdaaGreatDoor
open Go.RowKit

theorem l05Budget_any (b : Int) (w : World) : Calls Tryz.prog 33 #[.int .i64 b] w fun e w' => e = .returned (.bool (inB b 1 20000)) ∧ w = w' := by
  go_enter Tryz.func33, Tryz.ntmps33
  go_wp2_with (go_at_call 52; refine (l00In_any _ _ _ _).mono ?_; rintro e w' ⟨rfl, rfl⟩)
  go_ret
  exact ⟨rfl, rfl⟩
theorem l05Budget_is {b : Int} {v : Bool} (h : inB b 1 20000 = v) (w : World) : Calls Tryz.prog 33 #[.int .i64 b] w fun e w' => e = .returned (.bool v) ∧ w = w' := h ▸ l05Budget_any b w
end Go.Proofs.YtdlojbabnelbdaaGreatDoor

/-
  Contracts of the reference's l00Max, l30Used, l05Budget, l30Status, NodeStatus.
-/
namespace Go.Proofs.YtdlojbabnelbdaaGreatDoor
open Go.RowKit

/-- The numbers of used states and symbols, and of rules, of the first k rules. -/
def usedTo (rs : List R3) : Nat → Int × Int × Int
  | 0 => (1, 1, 0)
  | k + 1 => let u := usedTo rs k; let r := rs.getD k ⟨0, 0, -1⟩
    if isRuleB r then ((if r.c + 1 < u.1 then u.1 else r.c + 1), (if r.a + 1 < u.2.1 then u.2.1 else r.a + 1), u.2.2 + 1) else u
def usedF (rs : List R3) : Int × Int × Int := usedTo rs rs.length
theorem usedTo_yes {rs : List R3} {k : Nat} {r : R3} (h : rs[k]? = some r) (hr : isRuleB r = true) : usedTo rs (k + 1) = ((if r.c + 1 < (usedTo rs k).1 then (usedTo rs k).1 else r.c + 1), (if r.a + 1 < (usedTo rs k).2.1 then (usedTo rs k).2.1 else r.a + 1), (usedTo rs k).2.2 + 1) := by
  have e : rs.getD k ⟨0, 0, -1⟩ = r := by simp [List.getD, h]
  show (if isRuleB (rs.getD k ⟨0, 0, -1⟩) then _ else _) = _
  rw [e, hr]; rfl
theorem usedTo_no {rs : List R3} {k : Nat} {r : R3} (h : rs[k]? = some r) (hr : isRuleB r = false) : usedTo rs (k + 1) = usedTo rs k := by
  have e : rs.getD k ⟨0, 0, -1⟩ = r := by simp [List.getD, h]
  show (if isRuleB (rs.getD k ⟨0, 0, -1⟩) then _ else _) = _
  rw [e, hr]; rfl
theorem usedTo_free {rs : List R3} {k : Nat} (hk : k ≤ rs.length) : (usedTo rs k).2.2 + ((freeTo rs k).length : Int) = (k : Int) := by
  induction k with
  | zero => simp [usedTo, freeTo]
  | succ k ih =>
    have ih := ih (by omega)
    have hg : rs[k]? = some rs[k] := List.getElem?_eq_getElem (by omega)
    cases hr : isRuleB rs[k] with
    | true => rw [usedTo_yes hg hr, freeTo_no hg hr]; show (usedTo rs k).2.2 + 1 + _ = _; omega
    | false => rw [usedTo_no hg hr, freeTo_yes hg hr]; simp; omega
theorem used_free (rs : List R3) : (usedF rs).2.2 + ((freeF rs).length : Int) = (rs.length : Int) := usedTo_free (Nat.le_refl _)

/-- The fields of a machine's rules are small. -/
def SmallR (rs : List R3) : Prop := ∀ r ∈ rs, isRuleB r = true → 0 ≤ r.a ∧ r.a ≤ 100000 ∧ 0 ≤ r.c ∧ r.c ≤ 100000
theorem usedTo_small {rs : List R3} (h : SmallR rs) {k : Nat} (hk : k ≤ rs.length) : 1 ≤ (usedTo rs k).1 ∧ (usedTo rs k).1 ≤ 100001 ∧ 1 ≤ (usedTo rs k).2.1 ∧ (usedTo rs k).2.1 ≤ 100001 ∧ 0 ≤ (usedTo rs k).2.2 ∧ (usedTo rs k).2.2 ≤ k := by
  induction k with
  | zero => simp [usedTo]
  | succ k ih =>
    have ih := ih (by omega)
    have hg : rs[k]? = some rs[k] := List.getElem?_eq_getElem (by omega)
    cases hr : isRuleB rs[k] with
    | true =>
      have hs := h _ (List.getElem_mem (by omega : k < rs.length)) hr
      rw [usedTo_yes hg hr]
      dsimp only
      repeat' split
      all_goals omega
    | false => rw [usedTo_no hg hr]; omega

theorem small_of {sy st : Int} {rs : List R3} (h : machB sy st rs = true) : SmallR rs := fun r hr hi => by
  obtain ⟨k1, k2, k3, k4, _, k6⟩ := machB_parts h
  have hv := k6 r hr
  unfold validRuleB at hv
  rw [hi] at hv
  simp only [Bool.not_true, Bool.false_or, Bool.and_eq_true, inB_iff] at hv
  omega
theorem blank_good (sy st : Int) (rs : List R3) : validConfB sy st rs 0 [] [] = machB sy st rs := by
  unfold validConfB
  cases h : machB sy st rs with
  | false => rfl
  | true =>
    obtain ⟨k1, k2, k3, k4, _, _⟩ := machB_parts h
    have : confB sy st 0 [] [] = true := by
      unfold confB sideB allIn
      simp [inB]
      omega
    rw [this]; rfl

end Go.Proofs.YtdlojbabnelbdaaGreatDoor
