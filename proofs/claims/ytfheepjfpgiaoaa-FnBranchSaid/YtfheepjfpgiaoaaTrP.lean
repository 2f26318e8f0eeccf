/-
  Trees and their nodes, as plain words: where a list of nodes ends, which lists are trees, head, tail, mirror. No program is in sight.
-/
import Derived.Test.YtfheepjfpgiaoaaWords
namespace Go.Proofs.Ytfheepjfpgiaoaa

/-- How many elements the first n terms of a list have, if they are whole; f tells how many terms follow an element. -/
def endI {α : Type} (f : α → Nat) : List α → Nat → Option Nat
  | _, 0 => some 0
  | [], _ + 1 => none
  | x :: l, n + 1 => (endI f l (n + f x)).map (· + 1)
theorem endI_zero {α : Type} (f : α → Nat) (l : List α) : endI f l 0 = some 0 := by cases l <;> rfl
theorem endI_nil {α : Type} (f : α → Nat) (n : Nat) : endI f ([] : List α) (n + 1) = none := rfl
theorem endI_cons {α : Type} (f : α → Nat) (x : α) (l : List α) (n : Nat) : endI f (x :: l) (n + 1) = (endI f l (n + f x)).map (· + 1) := rfl
theorem endI_le {α : Type} (f : α → Nat) : ∀ (l : List α) (n j : Nat), endI f l n = some j → j ≤ l.length
  | l, 0, j, h => by rw [endI_zero] at h; cases h; exact Nat.zero_le _
  | [], n + 1, j, h => by cases h
  | x :: l, n + 1, j, h => by
    rw [endI_cons] at h
    cases hq : endI f l (n + f x) with
    | none => rw [hq] at h; cases h
    | some i => rw [hq] at h; cases h; have := endI_le f l _ i hq; simpa using this
/-- The index behind the terms that are still open at index k, or -1. -/
def endV {α : Type} (f : α → Nat) (l : List α) (o k : Nat) : Int := match endI f (l.drop k) o with | some j => ((k + j : Nat) : Int) | none => -1
theorem endV_zero {α : Type} (f : α → Nat) (l : List α) (k : Nat) : endV f l 0 k = (k : Int) := by unfold endV; rw [endI_zero]; rfl
theorem endV_out {α : Type} (f : α → Nat) {l : List α} {o k : Nat} (ho : 0 < o) (hk : l.length ≤ k) : endV f l o k = -1 := by
  obtain ⟨n, rfl⟩ : ∃ n, o = n + 1 := ⟨o - 1, by omega⟩
  unfold endV; rw [List.drop_of_length_le hk]; rfl
theorem endV_next {α : Type} (f : α → Nat) {l : List α} {o k : Nat} {x : α} (ho : 0 < o) (hx : l[k]? = some x) : endV f l o k = endV f l (o - 1 + f x) (k + 1) := by
  obtain ⟨n, rfl⟩ : ∃ n, o = n + 1 := ⟨o - 1, by omega⟩
  obtain ⟨hk, rfl⟩ := List.getElem?_eq_some_iff.1 hx
  unfold endV
  rw [List.drop_eq_getElem_cons hk, endI_cons, Nat.add_sub_cancel]
  cases endI f (l.drop (k + 1)) (n + f l[k]) with
  | none => rfl
  | some j => show ((k + (j + 1) : Nat) : Int) = ((k + 1 + j : Nat) : Int); omega

/-- How many trees follow a node. -/
def fB (b : Bool) : Nat := if b then 2 else 0
inductive Tr where
  | nil : Tr
  | nd (h t : Tr) : Tr
deriving DecidableEq
def Tr.enc : Tr → List Bool
  | .nil => [false]
  | .nd h t => true :: (h.enc ++ t.enc)
def Tr.nodes : Tr → Nat
  | .nil => 1
  | .nd h t => 1 + h.nodes + t.nodes
def Tr.hd : Tr → Tr
  | .nil => .nil
  | .nd h _ => h
def Tr.tl : Tr → Tr
  | .nil => .nil
  | .nd _ t => t
def Tr.mir : Tr → Tr
  | .nil => .nil
  | .nd h t => .nd t.mir h.mir
theorem enc_len : ∀ t : Tr, t.enc.length = t.nodes
  | .nil => rfl
  | .nd h t => by rw [Tr.enc, Tr.nodes, List.length_cons, List.length_append, enc_len h, enc_len t]; omega
theorem nodes_pos : ∀ t : Tr, 1 ≤ t.nodes
  | .nil => Nat.le_refl _
  | .nd h t => by rw [Tr.nodes]; omega
theorem hd_nodes (t : Tr) : t.hd.nodes ≤ t.nodes := by
  cases t with
  | nil => exact Nat.le_refl _
  | nd h t => show h.nodes ≤ 1 + h.nodes + t.nodes; omega
theorem tl_nodes (t : Tr) : t.tl.nodes ≤ t.nodes := by
  cases t with
  | nil => exact Nat.le_refl _
  | nd h t => show t.nodes ≤ 1 + h.nodes + t.nodes; omega
theorem mir_nodes : ∀ t : Tr, t.mir.nodes = t.nodes
  | .nil => rfl
  | .nd h t => by rw [Tr.mir, Tr.nodes, Tr.nodes, mir_nodes h, mir_nodes t]; omega
theorem mir_mir : ∀ t : Tr, t.mir.mir = t
  | .nil => rfl
  | .nd h t => by rw [Tr.mir, Tr.mir, mir_mir h, mir_mir t]
theorem endI_enc : ∀ (t : Tr) (r : List Bool) (n : Nat), endI fB (t.enc ++ r) (n + 1) = (endI fB r n).map (· + t.nodes)
  | .nil, r, n => by rw [Tr.enc, List.singleton_append, endI_cons]; rfl
  | .nd h t, r, n => by
    rw [Tr.enc, List.cons_append, endI_cons, List.append_assoc, show n + fB true = (n + 1) + 1 from rfl, endI_enc h, endI_enc t, Tr.nodes]
    cases endI fB r n with
    | none => rfl
    | some j => simp only [Option.map_some]; congr 1; omega
theorem enc_end (t : Tr) (r : List Bool) : endI fB (t.enc ++ r) 1 = some t.nodes := by rw [endI_enc t r 0, endI_zero]; simp
theorem enc_whole (t : Tr) : endI fB t.enc 1 = some t.enc.length := by have := enc_end t []; rwa [List.append_nil, ← enc_len] at this
theorem enc_pre : ∀ (a b : Tr) (r s : List Bool), a.enc ++ r = b.enc ++ s → a = b ∧ r = s
  | .nil, .nil, r, s, h => by simp [Tr.enc] at h; exact ⟨rfl, h⟩
  | .nil, .nd _ _, r, s, h => by simp [Tr.enc] at h
  | .nd _ _, .nil, r, s, h => by simp [Tr.enc] at h
  | .nd a1 a2, .nd b1 b2, r, s, h => by
    simp only [Tr.enc, List.cons_append, List.append_assoc, List.cons.injEq, true_and] at h
    obtain ⟨e1, h2⟩ := enc_pre a1 b1 _ _ h
    obtain ⟨e2, h3⟩ := enc_pre a2 b2 _ _ h2
    rw [e1, e2]; exact ⟨rfl, h3⟩
theorem enc_inj {a b : Tr} (h : a.enc = b.enc) : a = b := (enc_pre a b [] [] (by rw [h])).1
theorem end_parse : ∀ (l : List Bool) (n j : Nat), endI fB l n = some j → ∃ ts : List Tr, ts.length = n ∧ l.take j = (ts.map Tr.enc).flatten
  | l, 0, j, h => by rw [endI_zero] at h; cases h; exact ⟨[], rfl, by simp⟩
  | [], n + 1, j, h => by cases h
  | x :: l, n + 1, j, h => by
    rw [endI_cons] at h
    cases hq : endI fB l (n + fB x) with
    | none => rw [hq] at h; cases h
    | some i =>
      rw [hq] at h
      simp only [Option.map_some, Option.some.injEq] at h
      subst h
      obtain ⟨ts, h1, h2⟩ := end_parse l _ i hq
      cases x with
      | false => exact ⟨.nil :: ts, by simpa [fB] using h1, by rw [List.take_succ_cons, h2]; simp [Tr.enc]⟩
      | true =>
        match ts, h1, h2 with
        | a :: b :: r, h1, h2 => exact ⟨.nd a b :: r, by simp [fB] at h1 ⊢; omega, by rw [List.take_succ_cons, h2]; simp [Tr.enc]⟩
        | [], h1, _ => simp [fB] at h1
        | [_], h1, _ => simp [fB] at h1
/-- Whether nodes are one tree, of any size. -/
def wholeB (l : List Bool) : Bool := endI fB l 1 == some l.length
theorem wholeB_iff (l : List Bool) : wholeB l = true ↔ ∃ t : Tr, l = t.enc := by
  unfold wholeB
  constructor
  · intro h
    have h1 := of_decide_eq_true (by simpa using h : decide (endI fB l 1 = some l.length) = true)
    obtain ⟨ts, h2, h3⟩ := end_parse l 1 _ h1
    match ts, h2, h3 with
    | [t], _, h3 => exact ⟨t, by simpa using h3⟩
  · rintro ⟨t, rfl⟩
    rw [enc_whole]; simp
/-- Whether nodes are a tree: not more than 2000. -/
def treeB (l : List Bool) : Bool := decide (l.length ≤ 2000) && wholeB l
theorem treeB_iff (l : List Bool) : treeB l = true ↔ ∃ t : Tr, l = t.enc ∧ t.nodes ≤ 2000 := by
  unfold treeB
  rw [Bool.and_eq_true, wholeB_iff, decide_eq_true_iff]
  constructor
  · rintro ⟨h, t, rfl⟩; exact ⟨t, rfl, by rw [← enc_len]; exact h⟩
  · rintro ⟨t, rfl, h⟩; exact ⟨by rw [enc_len]; exact h, t, rfl⟩
theorem treeB_enc {t : Tr} (h : t.nodes ≤ 2000) : treeB t.enc = true := (treeB_iff _).2 ⟨t, rfl, h⟩
theorem treeB_long {l : List Bool} (h : 2000 < l.length) : treeB l = false := by unfold treeB; rw [decide_eq_false (by omega)]; rfl
theorem treeB_nil : treeB [] = false := rfl
theorem endV_whole {l : List Bool} : (endV fB l 1 0 == (l.length : Int)) = wholeB l := by
  unfold endV wholeB
  rw [List.drop_zero]
  cases endI fB l 1 with
  | none =>
    have h1 : ((-1 : Int) == (l.length : Int)) = false := by simp
    exact h1
  | some j =>
    show (((0 + j : Nat) : Int) == (l.length : Int)) = (some j == some l.length)
    rw [Nat.zero_add, Bool.eq_iff_iff]; simp; omega
theorem endV_tree (t : Tr) : endV fB t.enc 1 0 = (t.nodes : Int) := by unfold endV; rw [List.drop_zero, enc_whole, enc_len]; simp
/-- The head and the tail of a pair are stretches of its nodes. -/
theorem endV_head (a b : Tr) : endV fB (Tr.nd a b).enc 1 1 = ((1 + a.nodes : Nat) : Int) := by
  unfold endV; rw [Tr.enc, List.drop_succ_cons, List.drop_zero, enc_end]
theorem enc_head (a b : Tr) : ((Tr.nd a b).enc.take (1 + a.nodes)).drop 1 = a.enc := by
  rw [Tr.enc, Nat.add_comm, List.take_succ_cons, List.drop_succ_cons, List.drop_zero, ← enc_len, List.take_left]
theorem enc_tail (a b : Tr) : (Tr.nd a b).enc.drop (1 + a.nodes) = b.enc := by
  rw [Tr.enc, Nat.add_comm, List.drop_succ_cons, ← enc_len, List.drop_left]
theorem enc_ne (t : Tr) : t.enc ≠ [] := by cases t <;> simp [Tr.enc]
theorem enc_first (t : Tr) : t.enc[0]? = some (decide (t ≠ .nil)) := by cases t <;> simp [Tr.enc]
end Go.Proofs.Ytfheepjfpgiaoaa
