/-
  Expressions and while programs, as plain words: which lists of elements are expressions, which commands a program; values, and what a run does. No program is in sight.
-/
import Derived.Test.YtfheepjfpgiaoaaTrP
import Derived.Test.YtfheepjfpgiaoaaBase
namespace Go.Proofs.Ytfheepjfpgiaoaa

/-- An element of an expression: a its kind, b its variable. -/
structure R2 where
  a : Int
  b : Int
deriving DecidableEq
/-- How many expressions follow an element. -/
def fE (x : R2) : Nat := if x.a = 3 ∨ x.a = 4 then 1 else if x.a = 2 ∨ x.a = 5 then 2 else 0
def okE (x : R2) : Bool := inB x.a 0 5 && (inB x.b 0 5 && (x.a == 1 || x.b == 0))
inductive Ex where
  | nil : Ex
  | var (v : Nat) : Ex
  | cons (a b : Ex) : Ex
  | hd (a : Ex) : Ex
  | tl (a : Ex) : Ex
  | same (a b : Ex) : Ex
def Ex.enc : Ex → List R2
  | .nil => [⟨0, 0⟩]
  | .var v => [⟨1, v⟩]
  | .cons a b => ⟨2, 0⟩ :: (a.enc ++ b.enc)
  | .hd a => ⟨3, 0⟩ :: a.enc
  | .tl a => ⟨4, 0⟩ :: a.enc
  | .same a b => ⟨5, 0⟩ :: (a.enc ++ b.enc)
def Ex.len : Ex → Nat
  | .nil => 1
  | .var _ => 1
  | .cons a b => 1 + a.len + b.len
  | .hd a => 1 + a.len
  | .tl a => 1 + a.len
  | .same a b => 1 + a.len + b.len
/-- All variables are below 6. -/
def Ex.ok : Ex → Prop
  | .nil => True
  | .var v => v < 6
  | .cons a b => a.ok ∧ b.ok
  | .hd a => a.ok
  | .tl a => a.ok
  | .same a b => a.ok ∧ b.ok
theorem ex_len : ∀ e : Ex, e.enc.length = e.len
  | .nil => rfl
  | .var _ => rfl
  | .cons a b => by rw [Ex.enc, Ex.len, List.length_cons, List.length_append, ex_len a, ex_len b]; omega
  | .hd a => by rw [Ex.enc, Ex.len, List.length_cons, ex_len a]; omega
  | .tl a => by rw [Ex.enc, Ex.len, List.length_cons, ex_len a]; omega
  | .same a b => by rw [Ex.enc, Ex.len, List.length_cons, List.length_append, ex_len a, ex_len b]; omega
theorem ex_pos (e : Ex) : 1 ≤ e.len := by cases e <;> simp only [Ex.len] <;> omega
theorem endI_ex : ∀ (e : Ex) (r : List R2) (n : Nat), endI fE (e.enc ++ r) (n + 1) = (endI fE r n).map (· + e.len)
  | .nil, r, n => by rw [Ex.enc, List.singleton_append, endI_cons]; rfl
  | .var v, r, n => by rw [Ex.enc, List.singleton_append, endI_cons]; rfl
  | .cons a b, r, n => by
    rw [Ex.enc, List.cons_append, endI_cons, List.append_assoc, show n + fE ⟨2, 0⟩ = (n + 1) + 1 from rfl, endI_ex a, endI_ex b, Ex.len]
    cases endI fE r n with
    | none => rfl
    | some j => simp only [Option.map_some]; congr 1; omega
  | .hd a, r, n => by
    rw [Ex.enc, List.cons_append, endI_cons, show n + fE ⟨3, 0⟩ = n + 1 from rfl, endI_ex a, Ex.len]
    cases endI fE r n with
    | none => rfl
    | some j => simp only [Option.map_some]; congr 1; omega
  | .tl a, r, n => by
    rw [Ex.enc, List.cons_append, endI_cons, show n + fE ⟨4, 0⟩ = n + 1 from rfl, endI_ex a, Ex.len]
    cases endI fE r n with
    | none => rfl
    | some j => simp only [Option.map_some]; congr 1; omega
  | .same a b, r, n => by
    rw [Ex.enc, List.cons_append, endI_cons, List.append_assoc, show n + fE ⟨5, 0⟩ = (n + 1) + 1 from rfl, endI_ex a, endI_ex b, Ex.len]
    cases endI fE r n with
    | none => rfl
    | some j => simp only [Option.map_some]; congr 1; omega
theorem ex_end (e : Ex) (r : List R2) : endI fE (e.enc ++ r) 1 = some e.len := by rw [endI_ex e r 0, endI_zero]; simp
theorem ex_whole (e : Ex) : endI fE e.enc 1 = some e.enc.length := by have := ex_end e []; rwa [List.append_nil, ← ex_len] at this
theorem ex_ok : ∀ e : Ex, e.ok → ∀ x ∈ e.enc, okE x = true
  | .nil, _, x, h => by simp [Ex.enc] at h; subst h; rfl
  | .var v, hv, x, h => by
    simp [Ex.enc] at h; subst h
    have : v < 6 := hv
    simp [okE, inB]; omega
  | .cons a b, ⟨h1, h2⟩, x, h => by
    rcases List.mem_cons.1 h with rfl | h
    · rfl
    · rcases List.mem_append.1 h with h | h
      · exact ex_ok a h1 x h
      · exact ex_ok b h2 x h
  | .hd a, h1, x, h => by
    rcases List.mem_cons.1 h with rfl | h
    · rfl
    · exact ex_ok a h1 x h
  | .tl a, h1, x, h => by
    rcases List.mem_cons.1 h with rfl | h
    · rfl
    · exact ex_ok a h1 x h
  | .same a b, ⟨h1, h2⟩, x, h => by
    rcases List.mem_cons.1 h with rfl | h
    · rfl
    · rcases List.mem_append.1 h with h | h
      · exact ex_ok a h1 x h
      · exact ex_ok b h2 x h
theorem okE_cases {x : R2} (h : okE x = true) : (∃ v : Nat, v < 6 ∧ x = ⟨1, v⟩) ∨ x = ⟨0, 0⟩ ∨ x = ⟨2, 0⟩ ∨ x = ⟨3, 0⟩ ∨ x = ⟨4, 0⟩ ∨ x = ⟨5, 0⟩ := by
  obtain ⟨a, b⟩ := x
  simp only [okE, inB, Bool.and_eq_true, Bool.or_eq_true, decide_eq_true_iff, beq_iff_eq] at h
  obtain ⟨h1, h2, h3⟩ := h
  by_cases e : a = 1
  · exact .inl ⟨b.toNat, by omega, by rw [e]; congr 1; omega⟩
  · have hb : b = 0 := by omega
    subst hb
    have : a = 0 ∨ a = 2 ∨ a = 3 ∨ a = 4 ∨ a = 5 := by omega
    rcases this with rfl | rfl | rfl | rfl | rfl <;> simp
theorem ok_cons {e : Ex} {es : List Ex} (h : e.ok) (h2 : ∀ x ∈ es, x.ok) : ∀ x ∈ e :: es, x.ok := by
  intro x hx
  rcases List.mem_cons.1 hx with rfl | hx
  · exact h
  · exact h2 x hx
theorem ex_parse : ∀ (l : List R2) (n j : Nat), (∀ x ∈ l, okE x = true) → endI fE l n = some j → ∃ es : List Ex, es.length = n ∧ (∀ e ∈ es, e.ok) ∧ l.take j = (es.map Ex.enc).flatten
  | l, 0, j, _, h => by rw [endI_zero] at h; cases h; exact ⟨[], rfl, by simp, by simp⟩
  | [], n + 1, j, _, h => by cases h
  | x :: l, n + 1, j, hk, h => by
    rw [endI_cons] at h
    cases hq : endI fE l (n + fE x) with
    | none => rw [hq] at h; cases h
    | some i =>
      rw [hq] at h
      simp only [Option.map_some, Option.some.injEq] at h
      subst h
      obtain ⟨es, h1, h2, h3⟩ := ex_parse l _ i (fun y hy => hk y (List.mem_cons_of_mem _ hy)) hq
      rw [List.take_succ_cons, h3]
      rcases okE_cases (hk x List.mem_cons_self) with ⟨v, hv, rfl⟩ | rfl | rfl | rfl | rfl | rfl
      · exact ⟨.var v :: es, by simpa [fE] using h1, ok_cons (e := .var v) hv h2, by simp [Ex.enc]⟩
      · exact ⟨.nil :: es, by simpa [fE] using h1, ok_cons (e := .nil) trivial h2, by simp [Ex.enc]⟩
      · match es, h1, h2, h3 with
        | a :: b :: r, h1, h2, h3 =>
          exact ⟨.cons a b :: r, by simp [fE] at h1 ⊢; omega, ok_cons (e := .cons a b) ⟨h2 a (by simp), h2 b (by simp)⟩ (fun e he => h2 e (by simp [he])), by simp [Ex.enc]⟩
        | [], h1, _, _ => simp [fE] at h1
        | [_], h1, _, _ => simp [fE] at h1
      · match es, h1, h2, h3 with
        | a :: r, h1, h2, h3 =>
          exact ⟨.hd a :: r, by simp [fE] at h1 ⊢; omega, ok_cons (e := .hd a) (h2 a (by simp)) (fun e he => h2 e (by simp [he])), by simp [Ex.enc]⟩
        | [], h1, _, _ => simp [fE] at h1
      · match es, h1, h2, h3 with
        | a :: r, h1, h2, h3 =>
          exact ⟨.tl a :: r, by simp [fE] at h1 ⊢; omega, ok_cons (e := .tl a) (h2 a (by simp)) (fun e he => h2 e (by simp [he])), by simp [Ex.enc]⟩
        | [], h1, _, _ => simp [fE] at h1
      · match es, h1, h2, h3 with
        | a :: b :: r, h1, h2, h3 =>
          exact ⟨.same a b :: r, by simp [fE] at h1 ⊢; omega, ok_cons (e := .same a b) ⟨h2 a (by simp), h2 b (by simp)⟩ (fun e he => h2 e (by simp [he])), by simp [Ex.enc]⟩
        | [], h1, _, _ => simp [fE] at h1
        | [_], h1, _, _ => simp [fE] at h1
/-- Whether elements are an expression. -/
def isEx (l : List R2) : Bool := decide (l.length ≤ 40) && (l.all okE && endI fE l 1 == some l.length)
theorem isEx_iff (l : List R2) : isEx l = true ↔ ∃ e : Ex, l = e.enc ∧ e.ok ∧ e.len ≤ 40 := by
  unfold isEx
  rw [Bool.and_eq_true, Bool.and_eq_true, decide_eq_true_iff, List.all_eq_true, beq_iff_eq]
  constructor
  · rintro ⟨h1, h2, h3⟩
    obtain ⟨es, h4, h5, h6⟩ := ex_parse l 1 _ h2 h3
    match es, h4, h5, h6 with
    | [e], _, h5, h6 =>
      have h7 : l = e.enc := by simpa using h6
      exact ⟨e, h7, h5 e (by simp), by rw [← ex_len, ← h7]; exact h1⟩
  · rintro ⟨e, rfl, h1, h2⟩
    exact ⟨by rw [ex_len]; exact h2, ex_ok e h1, ex_whole e⟩
/-- The same by counting the expressions that are needed still. -/
def needE : List R2 → Nat → Bool
  | [], n => n == 0
  | x :: l, n => n != 0 && (okE x && needE l (n - 1 + fE x))
theorem needE_iff : ∀ (l : List R2) (n : Nat), needE l n = (l.all okE && endI fE l n == some l.length)
  | [], 0 => rfl
  | [], n + 1 => rfl
  | x :: l, 0 => by rw [endI_zero]; simp [needE]
  | x :: l, n + 1 => by
    rw [needE, needE_iff l, endI_cons, Nat.add_sub_cancel, List.all_cons]
    cases endI fE l (n + fE x) with
    | none => cases okE x <;> simp
    | some j => cases okE x <;> simp
theorem isEx_need (l : List R2) : isEx l = (decide (l.length ≤ 40) && needE l 1) := by rw [isEx, needE_iff]

/-- The value of an expression; none if a value would be too large. -/
def Ex.ev (s : List Tr) : Ex → Option Tr
  | .nil => some .nil
  | .var v => some (s.getD v .nil)
  | .cons a b => match a.ev s, b.ev s with
    | some x, some y => if 1 + x.nodes + y.nodes ≤ 2000 then some (.nd x y) else none
    | _, _ => none
  | .hd a => (a.ev s).map Tr.hd
  | .tl a => (a.ev s).map Tr.tl
  | .same a b => match a.ev s, b.ev s with
    | some x, some y => some (if x = y then .nd .nil .nil else .nil)
    | _, _ => none
theorem ev_nodes {s : List Tr} (hs : ∀ t ∈ s, t.nodes ≤ 2000) : ∀ (e : Ex) (x : Tr), e.ev s = some x → x.nodes ≤ 2000
  | .nil, x, h => by cases h; decide
  | .var v, x, h => by
    cases h
    rw [List.getD_eq_getElem?_getD]
    cases hv : s[v]? with
    | none => decide
    | some y => exact hs _ (List.mem_of_getElem? hv)
  | .cons a b, x, h => by
    rw [Ex.ev] at h
    split at h
    · split at h
      · cases h; rename_i hle; exact hle
      · cases h
    · cases h
  | .hd a, x, h => by
    rw [Ex.ev] at h
    cases ha : a.ev s with
    | none => rw [ha] at h; cases h
    | some y => rw [ha] at h; cases h; exact Nat.le_trans (hd_nodes y) (ev_nodes hs a y ha)
  | .tl a, x, h => by
    rw [Ex.ev] at h
    cases ha : a.ev s with
    | none => rw [ha] at h; cases h
    | some y => rw [ha] at h; cases h; exact Nat.le_trans (tl_nodes y) (ev_nodes hs a y ha)
  | .same a b, x, h => by
    rw [Ex.ev] at h
    split at h
    · cases h; split <;> decide
    · cases h

/-- A command: its kind, its variable, the length of its body, its expression. -/
structure Cmd where
  k : Int
  v : Int
  l : Int
  e : List R2
deriving DecidableEq
/-- Commands in a row, each with its body. -/
inductive Pg where
  | done : Pg
  | set (v : Nat) (e : Ex) (r : Pg) : Pg
  | wh (e : Ex) (b r : Pg) : Pg
def Pg.enc : Pg → List Cmd
  | .done => []
  | .set v e r => ⟨0, v, 0, e.enc⟩ :: r.enc
  | .wh e b r => ⟨1, 0, b.enc.length, e.enc⟩ :: (b.enc ++ r.enc)
def Ex.good (e : Ex) : Prop := e.ok ∧ e.len ≤ 40
def Pg.ok : Pg → Prop
  | .done => True
  | .set v e r => v < 6 ∧ e.good ∧ r.ok
  | .wh e b r => e.good ∧ b.ok ∧ r.ok
theorem isEx_good {e : Ex} (h : e.good) : isEx e.enc = true := (isEx_iff _).2 ⟨e, rfl, h.1, h.2⟩
theorem isEx_get {l : List R2} (h : isEx l = true) : ∃ e : Ex, l = e.enc ∧ e.good := by obtain ⟨e, h1, h2, h3⟩ := (isEx_iff l).1 h; exact ⟨e, h1, h2, h3⟩
/-- Whether commands are a program, of any length: f calls at most. -/
def vC : Nat → List Cmd → Bool
  | 0, l => l.isEmpty
  | _ + 1, [] => true
  | f + 1, c :: r => isEx c.e && (if c.k = 0 then inB c.v 0 5 && (c.l == 0 && vC f r) else if c.k = 1 then c.v == 0 && (inB c.l 0 r.length && (vC f (r.take c.l.toNat) && vC f (r.drop c.l.toNat))) else false)
theorem vC_fuel : ∀ (f g : Nat) (l : List Cmd), l.length ≤ f → l.length ≤ g → vC f l = vC g l
  | 0, g, l, h, _ => by
    have : l = [] := List.eq_nil_of_length_eq_zero (by omega)
    subst this; cases g <;> rfl
  | f + 1, 0, l, _, h => by
    have : l = [] := List.eq_nil_of_length_eq_zero (by omega)
    subst this; rfl
  | f + 1, g + 1, [], _, _ => rfl
  | f + 1, g + 1, c :: r, hf, hg => by
    simp only [List.length_cons] at hf hg
    rw [vC, vC, vC_fuel f g r (by omega) (by omega), vC_fuel f g (r.take c.l.toNat) (by rw [List.length_take]; omega) (by rw [List.length_take]; omega), vC_fuel f g (r.drop c.l.toNat) (by rw [List.length_drop]; omega) (by rw [List.length_drop]; omega)]
def validC (l : List Cmd) : Bool := vC l.length l
theorem validC_nil : validC [] = true := rfl
theorem validC_cons (c : Cmd) (r : List Cmd) : validC (c :: r) = (isEx c.e && (if c.k = 0 then inB c.v 0 5 && (c.l == 0 && validC r) else if c.k = 1 then c.v == 0 && (inB c.l 0 r.length && (validC (r.take c.l.toNat) && validC (r.drop c.l.toNat))) else false)) := by
  unfold validC
  rw [List.length_cons, vC, vC_fuel r.length (r.take c.l.toNat).length (r.take c.l.toNat) (by rw [List.length_take]; omega) (Nat.le_refl _), vC_fuel r.length (r.drop c.l.toNat).length (r.drop c.l.toNat) (by rw [List.length_drop]; omega) (Nat.le_refl _)]
theorem validC_parse : ∀ (n : Nat) (l : List Cmd), l.length ≤ n → validC l = true → ∃ p : Pg, l = p.enc ∧ p.ok
  | n, [], _, _ => ⟨.done, rfl, trivial⟩
  | 0, c :: r, h, _ => by simp at h
  | n + 1, c :: r, hn, h => by
    simp only [List.length_cons] at hn
    rw [validC_cons, Bool.and_eq_true] at h
    obtain ⟨he, h⟩ := h
    obtain ⟨e, h1, h2⟩ := isEx_get he
    obtain ⟨k, v, l, es⟩ := c
    dsimp only at h h1
    subst h1
    split at h
    · rename_i hk
      subst hk
      simp only [Bool.and_eq_true, inB, decide_eq_true_iff, beq_iff_eq] at h
      obtain ⟨hv, hl, hr⟩ := h
      obtain ⟨p, hp, hp2⟩ := validC_parse n r (by omega) hr
      refine ⟨.set v.toNat e p, ?_, by omega, h2, hp2⟩
      rw [Pg.enc, hp, hl]; congr 2; omega
    · split at h
      · rename_i hk
        subst hk
        simp only [Bool.and_eq_true, inB, decide_eq_true_iff, beq_iff_eq] at h
        obtain ⟨hv, hl, hb, hr⟩ := h
        obtain ⟨p, hp, hp2⟩ := validC_parse n (r.take l.toNat) (by rw [List.length_take]; omega) hb
        obtain ⟨q, hq, hq2⟩ := validC_parse n (r.drop l.toNat) (by rw [List.length_drop]; omega) hr
        refine ⟨.wh e p q, ?_, h2, hp2, hq2⟩
        rw [Pg.enc, ← hp, ← hq, List.take_append_drop, hv, List.length_take]
        congr 2; omega
      · cases h
theorem validC_enc : ∀ p : Pg, p.ok → validC p.enc = true
  | .done, _ => rfl
  | .set v e r, ⟨hv, he, hr⟩ => by
    rw [Pg.enc, validC_cons, isEx_good he, if_pos rfl, validC_enc r hr]
    simp [inB]; omega
  | .wh e b r, ⟨he, hb, hr⟩ => by
    rw [Pg.enc, validC_cons]
    dsimp only
    rw [isEx_good he, if_neg (show ¬ (1 : Int) = 0 by decide), if_pos rfl]
    rw [Int.toNat_natCast, List.take_left, List.drop_left, validC_enc b hb, validC_enc r hr]
    simp [inB]; omega
theorem validC_iff (l : List Cmd) : validC l = true ↔ ∃ p : Pg, l = p.enc ∧ p.ok := ⟨validC_parse _ l (Nat.le_refl _), by rintro ⟨p, rfl, h⟩; exact validC_enc p h⟩
/-- The part of a list from i on, up to j. -/
def cutL {α : Type} (l : List α) (i j : Nat) : List α := (l.take j).drop i
theorem cutL_self {α : Type} (l : List α) (i : Nat) : cutL l i i = [] := by unfold cutL; rw [List.drop_eq_nil_iff]; rw [List.length_take]; omega
theorem cutL_all {α : Type} (l : List α) : cutL l 0 l.length = l := by unfold cutL; rw [List.take_length, List.drop_zero]
theorem cutL_cons {α : Type} {l : List α} {i j : Nat} {x : α} (hx : l[i]? = some x) (hij : i < j) : cutL l i j = x :: cutL l (i + 1) j := by
  obtain ⟨hi, rfl⟩ := List.getElem?_eq_some_iff.1 hx
  unfold cutL
  rw [List.drop_eq_getElem_cons (by rw [List.length_take]; omega), List.getElem_take]
theorem cutL_len {α : Type} {l : List α} {i j : Nat} (hj : j ≤ l.length) : (cutL l i j).length = j - i := by unfold cutL; rw [List.length_drop, List.length_take]; omega
theorem cutL_take {α : Type} (l : List α) (i j n : Nat) (h : i + n ≤ j) : (cutL l i j).take n = cutL l i (i + n) := by
  unfold cutL
  rw [List.take_drop, List.take_take, show min (i + n) j = i + n by omega]
theorem cutL_drop {α : Type} (l : List α) (i j n : Nat) : (cutL l i j).drop n = cutL l (i + n) j := by unfold cutL; rw [List.drop_drop]
/-- The rest of a program behind an index, where some bodies are open: their ends, the innermost first. -/
def segV (l : List Cmd) (i : Nat) : List Nat → Bool
  | [] => true
  | E :: Es => validC (cutL l i E) && segV l E Es

/-- One step of a run: what stands behind, the open loops, the store. -/
def stepW (p : Pg) (S : List Pg) (s : List Tr) : Option (Pg × List Pg × List Tr) := match p with
  | .done => some (.done, S, s)
  | .set v e r => (e.ev s).map fun x => (r, S, s.set v x)
  | .wh e b r => (e.ev s).map fun x => if x = .nil then (r, S, s) else (b, .wh e b r :: S, s)
/-- Behind a body the loop comes again. -/
def normW : Pg → List Pg → Pg × List Pg
  | .done, w :: S => (w, S)
  | p, S => (p, S)
def doneW : Pg → List Pg → Bool
  | .done, [] => true
  | _, _ => false
/-- A run with so many steps left, behind n: the last store, the number of steps, whether it has ended; none if a value would be too large. -/
def goW : Nat → Nat → Pg → List Pg → List Tr → Option (List Tr × Nat × Bool)
  | 0, n, p, S, s => some (s, n, doneW p S)
  | f + 1, n, p, S, s => if doneW p S = true then some (s, n, true) else match stepW (normW p S).1 (normW p S).2 s with
    | none => none
    | some (p', S', s') => goW f (n + 1) p' S' s'
/-- Where a run stands: the index in the whole list of commands, and those of the open loops. -/
inductive Rel (l : List Cmd) : List Nat → List Pg → Nat → Pg → Prop where
  | base {i : Nat} {p : Pg} (h : l.drop i = p.enc) (hi : i ≤ l.length) (hk : p.ok) : Rel l [] [] i p
  | loop {L : List Nat} {S : List Pg} {t i : Nat} {e : Ex} {b r p : Pg} {rest : List Cmd} (h : Rel l L S t (.wh e b r)) (hd : l.drop i = p.enc ++ rest) (hi : i + p.enc.length = t + 1 + b.enc.length) (hk : p.ok) (ht : t < i) : Rel l (t :: L) (.wh e b r :: S) i p
theorem Rel.ok {l : List Cmd} {L : List Nat} {S : List Pg} {i : Nat} {p : Pg} (h : Rel l L S i p) : p.ok := by cases h <;> assumption
theorem Rel.pre {l : List Cmd} {L : List Nat} {S : List Pg} {i : Nat} {p : Pg} (h : Rel l L S i p) : ∃ rest, l.drop i = p.enc ++ rest := by
  cases h with
  | base h _ _ => exact ⟨[], by rw [h, List.append_nil]⟩
  | loop _ h _ _ _ => exact ⟨_, h⟩
theorem drop_tail {α : Type} {l : List α} {i n : Nat} {a r : List α} (h : l.drop i = a ++ r) (hn : a.length = n) : l.drop (i + n) = r := by
  rw [← List.drop_drop, h, ← hn, List.drop_left]
theorem drop_lt {α : Type} {l : List α} {i : Nat} {a : α} {r : List α} (h : l.drop i = a :: r) : i < l.length ∧ l[i]? = some a := by
  have h1 := congrArg List.length h
  rw [List.length_drop, List.length_cons] at h1
  refine ⟨by omega, ?_⟩
  have h2 := congrArg (·[0]?) h
  simpa using h2
theorem Rel.le {l : List Cmd} {L : List Nat} {S : List Pg} {i : Nat} {p : Pg} (h : Rel l L S i p) : i ≤ l.length := by
  cases h with
  | base _ h _ => exact h
  | loop h hd hi _ _ =>
    rename_i L S t e b r rest
    obtain ⟨rs, h1⟩ := h.pre
    have h2 := congrArg List.length h1
    rw [List.length_drop, List.length_append, Pg.enc, List.length_cons, List.length_append] at h2
    omega
/-- A command that sets a variable: the next index. -/
theorem Rel.set {l : List Cmd} {L : List Nat} {S : List Pg} {i : Nat} {v : Nat} {e : Ex} {r : Pg} (h : Rel l L S i (.set v e r)) : l[i]? = some ⟨0, v, 0, e.enc⟩ ∧ v < 6 ∧ e.good ∧ Rel l L S (i + 1) r := by
  have hk := h.ok
  cases h with
  | base h hi hk =>
    rw [Pg.enc] at h
    obtain ⟨h1, h2⟩ := drop_lt h
    exact ⟨h2, hk.1, hk.2.1, .base (drop_tail (a := [_]) h rfl) (by omega) hk.2.2⟩
  | loop h hd hi hk ht =>
    rw [Pg.enc] at hd
    obtain ⟨h1, h2⟩ := drop_lt hd
    refine ⟨h2, hk.1, hk.2.1, .loop h (drop_tail (a := [_]) hd rfl) ?_ hk.2.2 (by omega)⟩
    rw [Pg.enc, List.length_cons] at hi; omega
/-- A loop: what stands there, behind it, and in it. -/
theorem Rel.wh {l : List Cmd} {L : List Nat} {S : List Pg} {i : Nat} {e : Ex} {b r : Pg} (h : Rel l L S i (.wh e b r)) : l[i]? = some ⟨1, 0, b.enc.length, e.enc⟩ ∧ e.good ∧ Rel l L S (i + 1 + b.enc.length) r ∧ Rel l (i :: L) (.wh e b r :: S) (i + 1) b := by
  have hw := h
  cases h with
  | base h hi hk =>
    rw [Pg.enc] at h
    obtain ⟨h1, h2⟩ := drop_lt h
    have h3 := drop_tail (a := [_]) (r := b.enc ++ r.enc) h rfl
    have h4 := congrArg List.length h3
    rw [List.length_drop, List.length_append] at h4
    exact ⟨h2, hk.1, .base (drop_tail h3 rfl) (by have h5 := List.length_singleton (a := (⟨1, 0, b.enc.length, e.enc⟩ : Cmd)); omega) hk.2.2, .loop hw h3 rfl hk.2.1 (Nat.lt_succ_self _)⟩
  | loop h hd hi hk ht =>
    rw [Pg.enc] at hd
    obtain ⟨h1, h2⟩ := drop_lt hd
    rw [List.cons_append, List.append_assoc] at hd
    have h3 := drop_tail (a := [_]) (r := b.enc ++ (r.enc ++ _)) hd rfl
    refine ⟨h2, hk.1, .loop h (drop_tail h3 rfl) ?_ hk.2.2 (by omega), .loop hw h3 rfl hk.2.1 (Nat.lt_succ_self _)⟩
    rw [Pg.enc, List.length_cons, List.length_append] at hi; omega
theorem Rel.len_le {l : List Cmd} {L : List Nat} {S : List Pg} {i : Nat} {p : Pg} (h : Rel l L S i p) : L.length ≤ i := by
  induction h with
  | base => exact Nat.zero_le _
  | loop _ _ _ _ ht ih => rw [List.length_cons]; omega
end Go.Proofs.Ytfheepjfpgiaoaa
