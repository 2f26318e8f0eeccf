/-
  Whether two lists are equal (r8Same).
-/
import Derived.Test.YtpleclmlcojkdaaPbNatE0
import Derived.Test.YtpleclmlcojkdaaPbNatE1
import Derived.Test.YtpleclmlcojkdaaPbNatE3
import Derived.Test.YtpleclmlcojkdaaPbNatE4
import Derived.RegionTactic
namespace Go.Proofs.Ytpleclmlcojkdaa
open Go.RowKit

/-- A slice that came in lies in a block that is there. -/
theorem okWide_blk {P : Program} {w : World} {r : Reach} {base : Nat} {t e : TypeId} {A : Option Addr} {n c : Nat} (ht : P.underlying t = some (.slice e)) (h : Value.okWide P w r base t (.slice A n c)) : ∀ k, blk A = some k → k < w.heap.size := by
  intro k hk
  cases A with
  | none => cases hk
  | some a =>
    simp only [Value.okWide, ht, Cell.okWide, Cell.ok] at h
    obtain ⟨_, _, _, _, row, cells, hs, _⟩ := h
    have hk' : a.block = k := by simpa [blk] using hk
    subst hk'
    refine Nat.lt_of_not_le fun hle => ?_
    unfold World.shape? at hs
    rw [Array.getElem?_eq_none hle] at hs
    cases hs
end Go.Proofs.Ytpleclmlcojkdaa

/-
  Digits, sets, woven digits, bijective numbers of words, products of powers of primes: plain laws.
-/
namespace Go.Proofs.Ytpleclmlcojkdaa
open Go.RowKit

/-! ### digits -/
/-- The digits of x to the base b + 2. -/
def digB (b x : Nat) : List Int := if h : x = 0 then [] else ((x % (b + 2) : Nat) : Int) :: digB b (x / (b + 2))
  termination_by x
  decreasing_by exact Nat.div_lt_self (by omega) (by omega)
theorem digB_zero (b : Nat) : digB b 0 = [] := by rw [digB, dif_pos rfl]
theorem digB_pos {b x : Nat} (h : 0 < x) : digB b x = ((x % (b + 2) : Nat) : Int) :: digB b (x / (b + 2)) := by rw [digB, dif_neg (by omega)]
theorem digB_range (b x : Nat) : ∀ d ∈ digB b x, 0 ≤ d ∧ d < (b + 2 : Nat) := by
  induction x using Nat.strongRecOn with
  | _ x ih =>
    rcases Nat.eq_zero_or_pos x with h | h
    · subst h; rw [digB_zero]; intro d hd; cases hd
    · rw [digB_pos h]
      intro d hd
      rcases List.mem_cons.1 hd with h1 | h1
      · have := Nat.mod_lt x (show 0 < b + 2 by omega)
        omega
      · exact ih _ (Nat.div_lt_self h (by omega)) d h1
theorem digB_len {b x k : Nat} (h : x < (b + 2) ^ k) : (digB b x).length ≤ k := by
  induction k generalizing x with
  | zero =>
    have : x = 0 := by simpa using h
    subst this; rw [digB_zero]; exact Nat.le_refl _
  | succ k ih =>
    rcases Nat.eq_zero_or_pos x with h1 | h1
    · subst h1; rw [digB_zero]; exact Nat.zero_le _
    · rw [digB_pos h1, List.length_cons]
      have := ih (x := x / (b + 2)) (Nat.div_lt_of_lt_mul (by rw [Nat.mul_comm]; exact h))
      omega
theorem digB_last {b x : Nat} : tight (digB b x) := by
  induction x using Nat.strongRecOn with
  | _ x ih =>
    rcases Nat.eq_zero_or_pos x with h | h
    · subst h; rw [digB_zero]; intro h; exact absurd rfl h
    · rw [digB_pos h]
      intro hne
      by_cases h2 : x / (b + 2) = 0
      · simp only [h2, digB_zero, List.getLast_singleton]
        have h3 : x < b + 2 := by
          rcases Nat.lt_or_ge x (b + 2) with h4 | h4
          · exact h4
          · exact absurd (Nat.div_pos h4 (by omega)) (by omega)
        rw [Nat.mod_eq_of_lt h3]; omega
      · have h3 : digB b (x / (b + 2)) ≠ [] := by rw [digB_pos (Nat.pos_of_ne_zero h2)]; simp
        rw [List.getLast_cons h3]
        exact ih _ (Nat.div_lt_self h (by omega)) h3
/-- The number of digits. -/
def ofD (b : Nat) : List Int → Nat
  | [] => 0
  | d :: ds => ofD b ds * b + d.toNat
theorem ofD_digB (b x : Nat) : ofD (b + 2) (digB b x) = x := by
  induction x using Nat.strongRecOn with
  | _ x ih =>
    rcases Nat.eq_zero_or_pos x with h | h
    · subst h; rw [digB_zero]; rfl
    · rw [digB_pos h, ofD, ih _ (Nat.div_lt_self h (by omega)), Int.toNat_natCast, Nat.mul_comm]
      exact Nat.div_add_mod x (b + 2)
theorem ofD_zeros (b n : Nat) : ofD b (List.replicate n 0) = 0 := by
  induction n with
  | zero => rfl
  | succ n ih => rw [List.replicate_succ, ofD, ih]; simp
theorem ofD_pad (b n : Nat) : ∀ ds : List Int, ofD b (ds ++ List.replicate n 0) = ofD b ds
  | [] => by rw [List.nil_append, ofD_zeros]; rfl
  | d :: ds => by rw [List.cons_append, ofD, ofD_pad b n ds]; rfl
theorem ofD_lt {b : Nat} (hb : 1 ≤ b) : ∀ ds : List Int, (∀ d ∈ ds, 0 ≤ d ∧ d < b) → ofD b ds < b ^ ds.length
  | [], _ => by simp [ofD]
  | d :: ds, h => by
    have ih := ofD_lt hb ds (fun x hx => h x (List.mem_cons_of_mem _ hx))
    have h1 := h d List.mem_cons_self
    rw [ofD, List.length_cons, Nat.pow_succ]
    have h2 : (ofD b ds + 1) * b ≤ b ^ ds.length * b := Nat.mul_le_mul_right _ ih
    rw [Nat.add_mul, Nat.one_mul] at h2
    omega
theorem ofD_len {b : Nat} (hb : 1 ≤ b) (hb2 : b ≤ 1000000) {ds : List Int} (h : ∀ d ∈ ds, 0 ≤ d ∧ d < b) : (natL (ofD b ds)).length ≤ ds.length := natL_len_le (by
  have h1 := ofD_lt hb ds h
  have h2 : b ^ ds.length ≤ 1000000 ^ ds.length := Nat.pow_le_pow_left hb2 _
  rw [pw_eq]
  have h3 : ofD b ds < 1000000 ^ ds.length := by omega
  exact_mod_cast h3)
theorem ofD_drop {b : Nat} {ds : List Int} {i : Nat} (h : i < ds.length) : ofD b (ds.drop i) = ofD b (ds.drop (i + 1)) * b + (ds[i]).toNat := by
  rw [List.drop_eq_getElem_cons h]; rfl
/-- Digits are those of their number, but for zeros at the end. -/
theorem digB_ofD (b : Nat) : ∀ ds : List Int, (∀ d ∈ ds, 0 ≤ d ∧ d < (b + 2 : Nat)) → ∃ n, ds = digB b (ofD (b + 2) ds) ++ List.replicate n 0
  | [], _ => ⟨0, by show [] = digB b 0 ++ []; rw [digB_zero]; rfl⟩
  | d :: ds, h => by
    obtain ⟨n, hn⟩ := digB_ofD b ds (fun x hx => h x (List.mem_cons_of_mem _ hx))
    have h1 := h d List.mem_cons_self
    obtain ⟨k, rfl⟩ : ∃ k : Nat, d = (k : Int) := ⟨d.toNat, by omega⟩
    rw [ofD, Int.toNat_natCast]
    rcases Nat.eq_zero_or_pos (ofD (b + 2) ds * (b + 2) + k) with h0 | h0
    · have hk : k = 0 := by omega
      have ho : ofD (b + 2) ds = 0 := by
        rcases Nat.eq_zero_or_pos (ofD (b + 2) ds) with h2 | h2
        · exact h2
        · have := Nat.mul_le_mul h2 (show 1 ≤ b + 2 by omega); omega
      rw [ho, digB_zero, List.nil_append] at hn
      refine ⟨n + 1, ?_⟩
      rw [h0, digB_zero, List.replicate_succ, ← hn, hk]; rfl
    · refine ⟨n, ?_⟩
      rw [digB_pos h0, Nat.mul_comm, Nat.mul_add_mod, Nat.mod_eq_of_lt (by omega), Nat.mul_add_div (by omega), Nat.div_eq_of_lt (by omega), Nat.add_zero, List.cons_append, ← hn]
/-! ### sets -/
/-- The places of the ones, from place k on. -/
def setL : Nat → List Int → List Int
  | _, [] => []
  | k, d :: ds => if d = 1 then (k : Int) :: setL (k + 1) ds else setL (k + 1) ds
theorem setL_snoc : ∀ (ds : List Int) (k : Nat) (d : Int), setL k (ds ++ [d]) = setL k ds ++ (if d = 1 then [((k + ds.length : Nat) : Int)] else [])
  | [], k, d => by simp [setL]
  | x :: ds, k, d => by
    rw [List.cons_append, setL, setL, setL_snoc ds (k + 1) d, List.length_cons, show k + 1 + ds.length = k + (ds.length + 1) by omega]
    split <;> simp
theorem setL_mem : ∀ (ds : List Int) (k : Nat) (x : Int), x ∈ setL k ds ↔ ∃ i, ds[i]? = some 1 ∧ x = ((k + i : Nat) : Int)
  | [], k, x => by simp [setL]
  | d :: ds, k, x => by
    rw [setL]
    have ih := setL_mem ds (k + 1) x
    constructor
    · intro h
      split at h
      · rename_i h1
        rcases List.mem_cons.1 h with h2 | h2
        · exact ⟨0, by simp [h1], by rw [h2]; rfl⟩
        · obtain ⟨i, hi, he⟩ := ih.1 h2
          exact ⟨i + 1, by simpa using hi, by rw [he, show k + 1 + i = k + (i + 1) by omega]⟩
      · obtain ⟨i, hi, he⟩ := ih.1 h
        exact ⟨i + 1, by simpa using hi, by rw [he, show k + 1 + i = k + (i + 1) by omega]⟩
    · rintro ⟨i, hi, he⟩
      cases i with
      | zero =>
        have h1 : d = 1 := by simpa using hi
        rw [if_pos h1]
        exact List.mem_cons.2 (.inl (by rw [he]; rfl))
      | succ i =>
        have h2 := ih.2 ⟨i, by simpa using hi, by rw [he, show k + 1 + i = k + (i + 1) by omega]⟩
        split
        · exact List.mem_cons_of_mem _ h2
        · exact h2
theorem setL_len : ∀ (ds : List Int) (k : Nat), (setL k ds).length ≤ ds.length
  | [], k => Nat.le_refl _
  | d :: ds, k => by
    have := setL_len ds (k + 1)
    rw [setL, List.length_cons]
    split
    · rw [List.length_cons]; omega
    · omega
def risesL (xs : List Int) : Prop := ∀ i, (h : i + 1 < xs.length) → xs[i] < xs[i + 1]
theorem setL_rises : ∀ (ds : List Int) (k : Nat), risesL (setL k ds)
  | [], k => fun i h => by simp [setL] at h
  | d :: ds, k => by
    rw [setL]
    have ih := setL_rises ds (k + 1)
    split
    · intro i h
      cases i with
      | zero =>
        simp only [List.getElem_cons_zero, List.getElem_cons_succ]
        have h1 : (setL (k + 1) ds)[0]'(by simpa using h) ∈ setL (k + 1) ds := List.getElem_mem _
        obtain ⟨j, _, hj⟩ := (setL_mem ds (k + 1) _).1 h1
        rw [hj]; omega
      | succ i =>
        simp only [List.getElem_cons_succ]
        exact ih i (by simpa using h)
    · exact ih
/-- Zeros, with ones at the listed places. -/
def bitsOf (n : Nat) (xs : List Int) : List Int := (List.range n).map (fun i => if ((i : Nat) : Int) ∈ xs then 1 else 0)
theorem bitsOf_nil (n : Nat) : bitsOf n [] = List.replicate n 0 := by
  unfold bitsOf
  apply List.ext_getElem
  · simp
  · intro i h1 h2; simp
theorem bitsOf_set {n : Nat} {xs : List Int} {k : Nat} (_hk : k < n) : (bitsOf n xs).set k 1 = bitsOf n (xs ++ [((k : Nat) : Int)]) := by
  apply List.ext_getElem
  · simp [bitsOf]
  · intro i h1 h2
    rw [List.getElem_set]
    simp only [bitsOf, List.getElem_map, List.getElem_range]
    by_cases hik : k = i
    · subst hik; rw [if_pos rfl, if_pos (by simp)]
    · rw [if_neg hik]
      by_cases h : ((i : Nat) : Int) ∈ xs
      · rw [if_pos h, if_pos (List.mem_append_left _ h)]
      · rw [if_neg h, if_neg]
        intro h3
        rcases List.mem_append.1 h3 with h4 | h4
        · exact h h4
        · have h5 := List.mem_singleton.1 h4
          omega
theorem bitsOf_setL {ds : List Int} {n : Nat} (h : ∀ d ∈ ds, 0 ≤ d ∧ d < (2 : Nat)) (hn : ds.length ≤ n) : bitsOf n (setL 0 ds) = ds ++ List.replicate (n - ds.length) 0 := by
  apply List.ext_getElem
  · simp [bitsOf]; omega
  · intro i h1 h2
    simp only [bitsOf, List.getElem_map, List.getElem_range]
    by_cases hi : i < ds.length
    · rw [List.getElem_append_left hi]
      have h3 := h _ (List.getElem_mem hi)
      by_cases h4 : ds[i] = 1
      · rw [if_pos ((setL_mem ds 0 _).2 ⟨i, by rw [List.getElem?_eq_getElem hi, h4], by simp⟩), h4]
      · rw [if_neg]
        · omega
        · intro h5
          obtain ⟨j, hj, he⟩ := (setL_mem ds 0 _).1 h5
          have : j = i := by omega
          subst this
          rw [List.getElem?_eq_getElem hi] at hj
          exact h4 (Option.some.inj hj)
    · rw [List.getElem_append_right (by omega), List.getElem_replicate, if_neg]
      intro h5
      obtain ⟨j, hj, he⟩ := (setL_mem ds 0 _).1 h5
      have : j = i := by omega
      subst this
      rw [List.getElem?_eq_none (by omega)] at hj
      cases hj
/-! ### woven digits -/
def weaveD (xs ys : List Int) : Nat → List Int
  | 0 => []
  | n + 1 => weaveD xs ys n ++ [xs.getD n 0, ys.getD n 0]
theorem weaveD_len (xs ys : List Int) : ∀ n, (weaveD xs ys n).length = 2 * n
  | 0 => rfl
  | n + 1 => by rw [weaveD, List.length_append, weaveD_len xs ys n]; simp; omega
theorem weaveD_range {xs ys : List Int} {b : Nat} (hb : 0 < b) (hx : ∀ d ∈ xs, 0 ≤ d ∧ d < b) (hy : ∀ d ∈ ys, 0 ≤ d ∧ d < b) : ∀ n, ∀ d ∈ weaveD xs ys n, 0 ≤ d ∧ d < b := by
  have key : ∀ {zs : List Int}, (∀ d ∈ zs, 0 ≤ d ∧ d < b) → ∀ n, 0 ≤ zs.getD n 0 ∧ zs.getD n 0 < b := fun {zs} hz n => by
    rw [List.getD_eq_getElem?_getD]
    rcases Nat.lt_or_ge n zs.length with h | h
    · rw [List.getElem?_eq_getElem h]; exact hz _ (List.getElem_mem h)
    · rw [List.getElem?_eq_none h]; simp; omega
  intro n
  induction n with
  | zero => intro d hd; cases hd
  | succ n ih =>
    intro d hd
    rw [weaveD] at hd
    rcases List.mem_append.1 hd with h | h
    · exact ih d h
    · simp only [List.mem_cons, List.not_mem_nil, or_false] at h
      rcases h with rfl | rfl
      · exact key hx n
      · exact key hy n
def evens : List Int → List Int
  | [] => []
  | [x] => [x]
  | x :: _ :: t => x :: evens t
def odds : List Int → List Int
  | [] => []
  | [_] => []
  | _ :: y :: t => y :: odds t
theorem evens_two : ∀ (l : List Int) (n : Nat) (x y : Int), l.length = 2 * n → evens (l ++ [x, y]) = evens l ++ [x] ∧ odds (l ++ [x, y]) = odds l ++ [y]
  | [], n, x, y, _ => ⟨rfl, rfl⟩
  | [a], n, x, y, h => by simp at h; omega
  | a :: b :: t, n, x, y, h => by
    have ih := evens_two t (n - 1) x y (by simp at h; omega)
    exact ⟨by show a :: evens (t ++ [x, y]) = _; rw [ih.1]; rfl, by show b :: odds (t ++ [x, y]) = _; rw [ih.2]; rfl⟩
theorem weaveD_parts (xs ys : List Int) : ∀ n, evens (weaveD xs ys n) = (List.range n).map (fun i => xs.getD i 0) ∧ odds (weaveD xs ys n) = (List.range n).map (fun i => ys.getD i 0)
  | 0 => ⟨rfl, rfl⟩
  | n + 1 => by
    have ih := weaveD_parts xs ys n
    have h := evens_two (weaveD xs ys n) n (xs.getD n 0) (ys.getD n 0) (weaveD_len _ _ _)
    rw [weaveD, h.1, h.2, ih.1, ih.2, List.range_succ, List.map_append, List.map_append]
    exact ⟨rfl, rfl⟩
theorem range_pad {xs : List Int} {n : Nat} (h : xs.length ≤ n) : (List.range n).map (fun i => xs.getD i 0) = xs ++ List.replicate (n - xs.length) 0 := by
  apply List.ext_getElem
  · simp; omega
  · intro i h1 h2
    rw [List.getElem_map, List.getElem_range, List.getD_eq_getElem?_getD]
    by_cases hi : i < xs.length
    · rw [List.getElem_append_left hi, List.getElem?_eq_getElem hi]; rfl
    · rw [List.getElem_append_right (by omega), List.getElem_replicate, List.getElem?_eq_none (by omega)]; rfl
theorem parts_zeros : ∀ n, (∃ k, evens (List.replicate n 0) = List.replicate k 0) ∧ (∃ k, odds (List.replicate n 0) = List.replicate k 0)
  | 0 => ⟨⟨0, rfl⟩, ⟨0, rfl⟩⟩
  | 1 => ⟨⟨1, rfl⟩, ⟨0, rfl⟩⟩
  | n + 2 => by
    obtain ⟨⟨k, hk⟩, ⟨l, hl⟩⟩ := parts_zeros n
    refine ⟨⟨k + 1, ?_⟩, ⟨l + 1, ?_⟩⟩
    · show (0 : Int) :: evens (List.replicate n 0) = _; rw [hk, List.replicate_succ]
    · show (0 : Int) :: odds (List.replicate n 0) = _; rw [hl, List.replicate_succ]
theorem parts_pad : ∀ (l : List Int) (n : Nat), (∃ k, evens (l ++ List.replicate n 0) = evens l ++ List.replicate k 0) ∧ (∃ k, odds (l ++ List.replicate n 0) = odds l ++ List.replicate k 0)
  | [], n => by obtain ⟨⟨k, hk⟩, ⟨j, hj⟩⟩ := parts_zeros n; exact ⟨⟨k, by simpa [evens] using hk⟩, ⟨j, by simpa [odds] using hj⟩⟩
  | [x], 0 => ⟨⟨0, rfl⟩, ⟨0, rfl⟩⟩
  | [x], n + 1 => by
    obtain ⟨⟨k, hk⟩, ⟨j, hj⟩⟩ := parts_zeros n
    refine ⟨⟨k, ?_⟩, ⟨j + 1, ?_⟩⟩
    · show x :: evens (List.replicate n 0) = [x] ++ _; rw [hk]; rfl
    · show (0 : Int) :: odds (List.replicate n 0) = [] ++ _; rw [hj, List.replicate_succ]; rfl
  | x :: y :: t, n => by
    obtain ⟨⟨k, hk⟩, ⟨j, hj⟩⟩ := parts_pad t n
    refine ⟨⟨k, ?_⟩, ⟨j, ?_⟩⟩
    · show x :: evens (t ++ List.replicate n 0) = (x :: evens t) ++ _; rw [hk]; rfl
    · show y :: odds (t ++ List.replicate n 0) = (y :: odds t) ++ _; rw [hj]; rfl
theorem unweave {a c n : Nat} (ha : (digB 8 a).length ≤ n) (hc : (digB 8 c).length ≤ n) :
    ofD 10 (evens (digB 8 (ofD 10 (weaveD (digB 8 a) (digB 8 c) n)))) = a ∧ ofD 10 (odds (digB 8 (ofD 10 (weaveD (digB 8 a) (digB 8 c) n)))) = c := by
  obtain ⟨k, hk⟩ := digB_ofD 8 (weaveD (digB 8 a) (digB 8 c) n) (weaveD_range (by omega) (digB_range 8 a) (digB_range 8 c) n)
  have hp := weaveD_parts (digB 8 a) (digB 8 c) n
  obtain ⟨⟨i, hi⟩, ⟨j, hj⟩⟩ := parts_pad (digB 8 (ofD 10 (weaveD (digB 8 a) (digB 8 c) n))) k
  have hk' : weaveD (digB 8 a) (digB 8 c) n = digB 8 (ofD 10 (weaveD (digB 8 a) (digB 8 c) n)) ++ List.replicate k 0 := hk
  rw [← hk'] at hi hj
  rw [hp.1, range_pad ha] at hi
  rw [hp.2, range_pad hc] at hj
  constructor
  · have h1 := congrArg (ofD 10) hi
    rw [ofD_pad, ofD_pad] at h1
    rw [← h1]; exact ofD_digB 8 a
  · have h1 := congrArg (ofD 10) hj
    rw [ofD_pad, ofD_pad] at h1
    rw [← h1]; exact ofD_digB 8 c
theorem evens_snoc : ∀ (l : List Int) (x : Int), evens (l ++ [x]) = (if l.length % 2 = 0 then evens l ++ [x] else evens l) ∧ odds (l ++ [x]) = (if l.length % 2 = 0 then odds l else odds l ++ [x])
  | [], x => ⟨rfl, rfl⟩
  | [a], x => ⟨rfl, rfl⟩
  | a :: b :: t, x => by
    have ih := evens_snoc t x
    have e : (a :: b :: t).length % 2 = t.length % 2 := by simp; omega
    rw [e]
    constructor
    · show a :: evens (t ++ [x]) = _
      rw [ih.1]; split <;> rfl
    · show b :: odds (t ++ [x]) = _
      rw [ih.2]; split <;> rfl
/-! ### words -/
/-- The number of a word over L letters, going on from n. -/
def wordN (L : Nat) : Nat → List Int → Nat
  | n, [] => n
  | n, x :: t => wordN L (n * L + x.toNat + 1) t
theorem wordN_snoc (L : Nat) : ∀ (w : List Int) (n : Nat) (x : Int), wordN L n (w ++ [x]) = wordN L n w * L + x.toNat + 1
  | [], n, x => rfl
  | y :: t, n, x => by rw [List.cons_append, wordN, wordN_snoc L t]; rfl
theorem wordN_ge (L : Nat) (hL : 1 ≤ L) : ∀ (w : List Int) (n : Nat), n ≤ wordN L n w
  | [], n => Nat.le_refl _
  | x :: t, n => by
    have h1 := wordN_ge L hL t (n * L + x.toNat + 1)
    have h2 : n * 1 ≤ n * L := Nat.mul_le_mul_left _ hL
    rw [wordN]; omega
theorem wordN_lt {L : Nat} (hL : 1 ≤ L) (hL4 : L ≤ 4) : ∀ (w : List Int) (n k : Nat), (∀ x ∈ w, 0 ≤ x ∧ x < L) → w.length ≤ k → n + 2 ≤ 5 ^ (9 - k) * 2 → k ≤ 9 → wordN L n w + 2 ≤ 5 ^ 9 * 2
  | [], n, k, _, _, h, hk => by
    have : 5 ^ (9 - k) ≤ 5 ^ 9 := Nat.pow_le_pow_right (by omega) (by omega)
    show n + 2 ≤ _; omega
  | x :: t, n, k, hx, hl, h, hk => by
    rw [List.length_cons] at hl
    obtain ⟨j, rfl⟩ : ∃ j, k = j + 1 := ⟨k - 1, by omega⟩
    have h1 := hx x List.mem_cons_self
    rw [wordN]
    refine wordN_lt hL hL4 t _ j (fun y hy => hx y (List.mem_cons_of_mem _ hy)) (by omega) ?_ (by omega)
    have h2 : n * L ≤ n * 4 := Nat.mul_le_mul_left _ hL4
    have h3 : 5 ^ (9 - j) = 5 ^ (9 - (j + 1)) * 5 := by rw [← Nat.pow_succ]; congr 1; omega
    rw [h3]; omega
/-! ### primes -/
def primeT : List Nat := [2, 3, 5, 7, 11, 13, 17, 19, 23]
/-- No number from 2 to k - 1 divides n. -/
def isPr (n : Nat) : Bool := decide (2 ≤ n) && (List.range 6).all (fun d => decide (d < 2) || decide (n < d * d) || decide (n % d ≠ 0))
/-- The k-th prime from n on. -/
def srch : Nat → Nat → Nat → Option Nat
  | 0, _, _ => none
  | f + 1, n, k => if isPr n = true then (match k with | 0 => some n | k + 1 => srch f (n + 1) k) else srch f (n + 1) k
theorem srch_tab : ∀ k, k < 9 → srch 24 2 k = some (primeT.getD k 0) := by decide
/-- The product of powers from the k-th prime on. -/
def prodP : Nat → List Int → Nat
  | _, [] => 1
  | k, e :: es => primeT.getD k 0 ^ (e.toNat + 1) * prodP (k + 1) es
theorem prodP_pos : ∀ (es : List Int) (k : Nat), k + es.length ≤ 9 → 0 < prodP k es
  | [], k, _ => Nat.one_pos
  | e :: es, k, h => by
    rw [List.length_cons] at h
    have h1 : 0 < primeT.getD k 0 := by
      have : ∀ k, k < 9 → 0 < primeT.getD k 0 := by decide
      exact this k (by omega)
    exact Nat.mul_pos (Nat.pow_pos h1) (prodP_pos es (k + 1) (by omega))
theorem coprime_later : ∀ (es : List Int) (k j : Nat), j < k → k + es.length ≤ 9 → Nat.Coprime (primeT.getD j 0) (prodP k es)
  | [], k, j, _, _ => Nat.coprime_one_right _
  | e :: es, k, j, hj, h => by
    rw [List.length_cons] at h
    have h1 : ∀ j, j < 9 → ∀ k, k < 9 → j < k → Nat.gcd (primeT.getD j 0) (primeT.getD k 0) = 1 := by decide
    have h2 : Nat.Coprime (primeT.getD j 0) (primeT.getD k 0) := h1 j (by omega) k (by omega) hj
    exact Nat.Coprime.mul_right (Nat.Coprime.pow_right _ h2) (coprime_later es (k + 1) j (by omega) (by omega))
theorem not_div_later {es : List Int} {k : Nat} (h : k + 1 + es.length ≤ 9) : prodP (k + 1) es % primeT.getD k 0 ≠ 0 := by
  intro h0
  have h1 := coprime_later es (k + 1) k (by omega) h
  have h2 : primeT.getD k 0 ∣ prodP (k + 1) es := Nat.dvd_of_mod_eq_zero h0
  have h3 : Nat.gcd (primeT.getD k 0) (prodP (k + 1) es) = primeT.getD k 0 := Nat.gcd_eq_left h2
  have h4 : Nat.gcd (primeT.getD k 0) (prodP (k + 1) es) = 1 := h1
  have h5 : ∀ k, k < 9 → primeT.getD k 0 ≠ 1 := by decide
  exact h5 k (by omega) (by omega)
end Go.Proofs.Ytpleclmlcojkdaa

/-
  Contracts of impl's DigitsOf, fromDigits, SignedOf, SignedNumber.
-/
namespace Go.Proofs.Ytpleclmlcojkdaa
open Go.RowKit

theorem big_len2 {x : Nat} (h : x ≤ 1000000000000000000) : (natL x).length ≤ 40 := Nat.le_trans (natL_len_le (k := 4) (by show (x : Int) < 1000000 * (1000000 * (1000000 * (1000000 * 1))); omega)) (by omega)
/-- A list in new memory, and the code OK. -/
def NewIOk (w : World) (xs : List Int) (e : Ending) (w' : World) : Prop :=
  ∃ A c, e = .returned (.tuple #[.slice A xs.length c, .int .i64 0]) ∧ Own w' w.heap.size 2 1 A xs.length c (ints xs) ∧ Below w.heap.size w w'
set_option maxRecDepth 100000 in
set_option maxHeartbeats 4000000 in
theorem digitsOf_any (A : Option Addr) (n c x b : Nat) (w : World) (hx : SI w A n (natL x)) (hn : n ≤ 40) (hb : b ≤ 999998) (hl : (digB b x).length ≤ 1000) :
    Calls Try.prog 124 #[.slice A n c, .int .i64 ((b + 2 : Nat) : Int)] w (NewIOk w (digB b x)) := by
  have HI := Lib.hid (isNatural_any A n c x w hx (by omega))
  rw [show decide (n ≤ 40) = true from decide_eq_true hn] at HI
  have HX := Lib.hid hx
  have HLX := Lib.hid hx.len
  obtain ⟨D, hD⟩ : ∃ D, D = b + 2 := ⟨_, rfl⟩
  have HD := Lib.hid hD
  have hD2 : 2 ≤ D ∧ D ≤ 1000000 := by omega
  have hin : inB (D : Int) 2 1000000 = true := (inB_iff _ _ _).2 (by omega)
  have HIN := Lib.hid hin
  have HL := Lib.hid hl
  rw [← hD]
  clear hin hD hx hl
  go_enter Try.func124, Try.ntmps124
  go_wp2_with fail
  refine HI.out.mono ?_
  rintro e w' ⟨rfl, rfl⟩
  go_wp2_with fail
  refine (within_is HIN.out _).mono ?_
  rintro e w' ⟨rfl, rfl⟩
  obtain ⟨W1, hW_⟩ : ∃ W_, W_ = w.alloc (.cells #[] 2) := ⟨_, rfl⟩
  have b1 : Blk W1 w.heap.size 2 #[] := by rw [hW_]; exact Blk.new w _ _
  have z1 : Below w.heap.size w W1 := by rw [hW_]; exact (Below.refl _ _).alloc (Nat.le_refl _) _
  have HW1 := Lib.hid hW_
  clear hW_
  have HO1 : Hid (Own W1 w.heap.size 2 1 (some ⟨w.heap.size, 0, none⟩) ([] : List Int).length 0 (ints [])) := Lib.hid (by rw [HW1.out]; exact Own.lit0 w _ 1)
  clear b1
  go_upto_region 6 with fail
  rw [← HW1.out]
  clear HW1
  go_loopw [0, 6] (fun s0 s6 wr => ∃ (q : Nat) (out : List Int) (E : Option Addr) (ec : Nat) (R : Option Addr) (rn rc : Nat), s0 = .slice R rn rc ∧ s6 = .slice E out.length ec ∧ Hid (Own wr w.heap.size 2 1 E out.length ec (ints out)) ∧ Hid (digB b x = out ++ digB b q) ∧ Hid ((R = A ∧ rn = n ∧ q = x) ∨ Own wr w.heap.size 2 1 R rn rc (ints (natL q))) ∧ Below w.heap.size w wr ∧ out.length ≤ 1000 ∧ Hid (rn = (natL q).length) ∧ q ≤ x) (fun s0 s6 wr => match s6 with | .slice _ k _ => 1001 - k | _ => 0)
  case atStart => exact ⟨x, [], _, 0, A, n, c, rfl, rfl, HO1, Lib.hid (by simp), Lib.hid (.inl ⟨rfl, rfl, rfl⟩), z1, by simp, Lib.hid HLX.out.symm, Nat.le_refl _⟩
  case round =>
    obtain ⟨q, out, E, ec, R, rn, rc, rfl, rfl, HO, HE, HR, hz, hol, HRN, hqx⟩ := hrel
    clear HO1 z1
    have HRS : Hid (SI wr R rn (natL q)) := Lib.hid (by
      rcases HR.out with ⟨rfl, rfl, rfl⟩ | h
      · exact HX.out.below hz
      · exact h.rd)
    rcases Nat.eq_zero_or_pos q with h0 | h0
    · subst h0
      have HN : Hid (out = digB b x) := Lib.hid (by rw [HE.out, digB_zero]; simp)
      have hrn : rn = 0 := by rw [HRN.out, natL_zero]; rfl
      have ho := HO.out
      rw [HN.out] at ho ⊢
      subst hrn
      have i1 : ¬ (0 : Int) < ((0 : Nat) : Int) := by omega
      go_wp2_with fail
      exact bodyPost_ret (v := .tuple #[.slice E (digB b x).length ec, .int .i64 0]) (by simp [results, Try.results124, go_sem]) rfl ⟨E, ec, rfl, ho, hz⟩
    · have hrn : 0 < rn := by
        rw [HRN.out]
        rcases Nat.eq_zero_or_pos (natL q).length with h | h
        · exact absurd ((natL_nil_iff _).1 (List.length_eq_zero_iff.1 h)) (by omega)
        · exact h
      have i1 : (0 : Int) < (rn : Int) := by omega
      have HE2 : Hid (digB b x = (out ++ ([((q % D : Nat) : Int)] : List Int)) ++ digB b (q / D)) := Lib.hid (by rw [HE.out, digB_pos h0, HD.out]; simp)
      have hol2 : out.length + 1 ≤ 1000 := by have h := congrArg List.length HE2.out; have h2 := HL.out; simp at h; omega
      have hrn2 : rn ≤ 1000 := by
        have h1 := natL_len_mono hqx
        have h2 := HRN.out
        have h3 := HLX.out
        omega
      have huq : q / D ≤ x := Nat.le_trans (Nat.div_le_self _ _) hqx
      have ho := HO.out
      clear HR
      go_wp2_with fail
      refine (divideSmall_any R rn rc q D wr HRS.out hrn2 (by omega) hD2.2).mono ?_
      rintro e W2 ⟨A2, c2, rfl, o2, z2⟩
      have hz2 := hz.trans (z2.mono hz.size)
      have ho2 := ho.below z2
      have o2' := o2.mono (lo' := w.heap.size) hz.size
      have HAPT : Hid (∀ g, blk E = some g → blk A2 ≠ some g) := Lib.hid (fun g h1 h2 => by have := HO.out.blk_lt g h1; have := o2.blk_ge g h2; omega)
      obtain ⟨m, hm⟩ : ∃ m, m = q % D := ⟨_, rfl⟩
      obtain ⟨u, hu⟩ : ∃ u, u = q / D := ⟨_, rfl⟩
      rw [← hm, ← hu] at HE2
      rw [← hu] at huq
      rw [← hm]
      rw [← hu] at o2' ⊢
      clear hm hu o2 ho
      go_wp2_with (at_builtin; refine wpList_append_Own rfl (.tmp 25) (.tmp 27) rfl elI (lo := w.heap.size) rfl (ho2.alloc _) rfl (Rd.new1 W2 _ _) (ints_one [(m : Int)]) (by omega) (by simp only [maxLen]; omega) (by have := hz2.size; simp; omega) ?_; intro A3 c3 w3 ho3 hg3 hk3)
      have hz3 := (ho2.alloc (.cells #[.int .i64 (m : Int)] 2)).below_of (hz2.alloc hz2.size _) hg3 (by have := hz2.size; simp; omega)
      have HO3 : Hid (Own w3 w.heap.size 2 1 A3 (out ++ ([(m : Int)] : List Int)).length c3 (ints (out ++ ([(m : Int)] : List Int)))) := Lib.hid (by
        rw [List.length_append]; simpa [ints] using ho3)
      have HR3 : Hid (Own w3 w.heap.size 2 1 A2 (natL u).length c2 (ints (natL u))) := Lib.hid ((o2'.alloc _).grown hg3 HAPT.out)
      have hl8 : out.length + 1 = (out ++ ([(m : Int)] : List Int)).length := by simp
      have HM : Hid (1001 - (out ++ ([(m : Int)] : List Int)).length < 1001 - out.length) := Lib.hid (by simp; omega)
      rw [hl8]
      clear ho3 hg3 hk3 ho2 o2'
      go_wp2_with fail
      go_roundw
      case rel => exact ⟨u, out ++ ([(m : Int)] : List Int), A3, c3, A2, _, c2, rfl, rfl, HO3, HE2, Lib.hid (.inr HR3.out), hz3, by simp; omega, Lib.hid rfl, huq⟩
      case measure => exact HM.out
set_option maxRecDepth 100000 in
set_option maxHeartbeats 4000000 in
theorem fromDigits_any (A : Option Addr) (n c : Nat) (ds : List Int) (b : Nat) (w : World) (hx : SI w A n ds) (hn : n ≤ 900) (hb : 1 ≤ b) (hb2 : b ≤ 1000000) (hr : ∀ d ∈ ds, 0 ≤ d ∧ d < b) :
    Calls Try.prog 126 #[.slice A n c, .int .i64 (b : Int)] w (NewN w (ofD b ds)) := by
  have HX := Lib.hid hx
  have HLX := Lib.hid hx.len
  have HR := Lib.hid hr
  have HB : Hid ((natL b).length ≤ 2) := Lib.hid (natL_len_le (by show (b : Int) < 1000000 * (1000000 * 1); omega))
  have HLE : Hid (∀ j, (natL (ofD b (ds.drop j))).length ≤ 900) := Lib.hid (fun j => by
    have h := ofD_len hb hb2 (ds := ds.drop j) (fun d hd => hr d (List.mem_of_mem_drop hd))
    have h2 := HLX.out
    rw [List.length_drop] at h; omega)
  have wn : IntKind.i64.wrap ((n : Int) - 1) = (n : Int) - 1 := IntWalk.i64_in _ (by omega)
  clear hx hr
  go_enter Try.func126, Try.ntmps126
  obtain ⟨W1, hW_⟩ : ∃ W_, W_ = w.alloc (.cells #[] 2) := ⟨_, rfl⟩
  have b1 : Blk W1 w.heap.size 2 #[] := by rw [hW_]; exact Blk.new w _ _
  have z1 : Below w.heap.size w W1 := by rw [hW_]; exact (Below.refl _ _).alloc (Nat.le_refl _) _
  have HW1 := Lib.hid hW_
  clear hW_
  have HO1 : Hid (Own W1 w.heap.size 2 1 (some ⟨w.heap.size, 0, none⟩) (natL (ofD b (ds.drop n))).length 0 (ints (natL (ofD b (ds.drop n))))) := Lib.hid (by
    rw [List.drop_eq_nil_of_le (by rw [HLX.out]; exact Nat.le_refl _)]
    show Own W1 _ _ 1 _ (natL 0).length 0 (ints (natL 0))
    rw [natL_zero, HW1.out]; exact Own.lit0 w _ 1)
  have HE0 : Hid (0 = (natL (ofD b (ds.drop n))).length) := Lib.hid (by
    rw [List.drop_eq_nil_of_le (by rw [HLX.out]; exact Nat.le_refl _)]
    show 0 = (natL 0).length
    rw [natL_zero]; rfl)
  clear b1
  go_upto_region 3 with fail
  rw [← HW1.out]
  clear HW1
  go_loopw [5, 6] (fun s5 s6 wr => ∃ (j : Nat) (E : Option Addr) (ec : Nat), j ≤ n ∧ s6 = .int .i64 ((j : Int) - 1) ∧ s5 = .slice E (natL (ofD b (ds.drop j))).length ec ∧ Hid (Own wr w.heap.size 2 1 E (natL (ofD b (ds.drop j))).length ec (ints (natL (ofD b (ds.drop j))))) ∧ Below w.heap.size w wr) (fun _ s6 _ => (intOf s6 + 1).toNat)
  case atStart => exact ⟨n, _, 0, Nat.le_refl _, rfl, by rw [← HE0.out], HO1, z1⟩
  case round =>
    obtain ⟨j, E, ec, hj, rfl, rfl, HO, hz⟩ := hrel
    clear HO1 z1
    rcases Nat.eq_zero_or_pos j with h0 | h0
    · subst h0
      have i1 : ¬ (0 : Int) ≤ ((0 : Nat) : Int) - 1 := by omega
      have ho := HO.out
      rw [List.drop_zero] at ho ⊢
      go_wp2_with fail
      go_ret
      exact ⟨E, ec, rfl, ho, hz⟩
    obtain ⟨i, rfl⟩ : ∃ i, j = i + 1 := ⟨j - 1, by omega⟩
    have ei : ((i + 1 : Nat) : Int) - 1 = (i : Int) := by omega
    rw [ei]
    have i1 : (0 : Int) ≤ (i : Int) := by omega
    have i2 : (i : Int) < (n : Int) := by omega
    have wi : IntKind.i64.wrap ((i : Int) - 1) = (i : Int) - 1 := IntWalk.i64_in _ (by omega)
    have HOD := Lib.hid (ofD_drop (b := b) (show i < ds.length by rw [HLX.out]; omega))
    have hdr := HR.out _ (List.getElem_mem (show i < ds.length by rw [HLX.out]; omega))
    obtain ⟨g, o, rfl, hgl, hc⟩ := (HX.out.below hz).at_ (k := i) (by omega)
    obtain ⟨d, hd⟩ : ∃ d, ds[i]'(by rw [HLX.out]; omega) = d := ⟨_, rfl⟩
    rw [hd] at HOD hdr hc
    obtain ⟨N, hN⟩ : ∃ N, N = ofD b (ds.drop (i + 1)) := ⟨_, rfl⟩
    have hlN := HLE.out (i + 1)
    rw [← hN] at HOD HO hlN ⊢
    have HC := Lib.hid (fun w' (z : Below wr.heap.size wr w') => (z.cell (p := ⟨g, o + i, none⟩) hgl).trans hc)
    have hp : Below wr.heap.size wr (wr.drewN 1) := below_drewN (Below.refl _ _) 1
    have hlN2 : (natL (N * b)).length ≤ 902 := Nat.le_trans (mul_len hlN HB.out) (by omega)
    have HL2 := Lib.hid hlN2
    have HOr := Lib.hid HO.out.rd
    have hd0 : 0 ≤ d ∧ d ≤ 1000000000000000000 := by omega
    have HLD : Hid ((natL d.toNat).length ≤ 40) := Lib.hid (big_len2 (by omega))
    clear hd hN hlN2
    go_upto_region 5 with fail
    go_region_held3 (fun w' => w'.cell? ⟨g, o + i, none⟩ = some (.int .i64 d))
      (first
        | (go_keep; done)
        | (exact HC.out _ y4)
        | (exact HC.out _ y3)
        | (exact HC.out _ y2)
        | (exact HC.out _ y1))
      (first
        | (go_at_call 116; (with_reducible refine (naturalOf_any (b : Int) _ (by omega) (by omega)).mono ?_); rw [Int.toNat_natCast]; rintro e v1 ⟨A1, c1, rfl, o1, z1⟩; have y1 : Below wr.heap.size wr v1 := below_undrew z1)
        | (go_at_call 115; refine (multiply_any _ _ _ N _ _ _ b _ (HOr.out.below y1) o1.rd (by omega) (by have := HB.out; omega)).mono ?_; rintro e v2 ⟨A2, c2, rfl, o2, z2⟩; have y2 : Below wr.heap.size wr v2 := y1.trans (z2.mono y1.size))
        | (go_at_call 116; (with_reducible refine (naturalOf_any d _ hd0.1 hd0.2).mono ?_); rintro e v3 ⟨A3, c3, rfl, o3, z3⟩; have y3 : Below wr.heap.size wr v3 := y2.trans (z3.mono y2.size))
        | (go_at_call 114; refine (add_any _ _ _ (N * b) _ _ _ d.toNat _ (o2.below z3).rd o3.rd (by have := HL2.out; omega) (by have := HLD.out; omega)).mono ?_; rintro e v4 ⟨A4, c4, rfl, o4, z4⟩; have y4 : Below wr.heap.size wr v4 := y3.trans (z4.mono y3.size)))
    have yw : Below w.heap.size w v4 := hz.trans (y4.mono hz.size)
    have hl3 : w.heap.size ≤ v3.heap.size := by have := y3.size; have := hz.size; omega
    have HO4 : Hid (Own v4 w.heap.size 2 1 A4 (natL (ofD b (ds.drop i))).length c4 (ints (natL (ofD b (ds.drop i))))) := Lib.hid (by rw [HOD.out]; exact o4.mono hl3)
    have HEL : Hid ((natL (N * b + d.toNat)).length = (natL (ofD b (ds.drop i))).length) := Lib.hid (by rw [HOD.out])
    rw [HEL.out]
    clear o4 z4 y4 z3 y3 o3 z2 y2 o2 z1 y1 o1
    go_wp2_with fail
    go_roundw
    case rel => exact ⟨i, A4, c4, by omega, by go_num, rfl, HO4, yw⟩
    case measure => (simp [intOf] <;> omega)
set_option maxRecDepth 100000 in
set_option maxHeartbeats 2000000 in
theorem SignedOfI_any (A : Option Addr) (n c x : Nat) (w : World) (hx : SI w A n (natL x)) (hn : n ≤ 40) :
    Calls Try.prog 44 #[.slice A n c] w fun e w' => ∃ A1 c1, e = .returned (.tuple #[.bool (decide ((x + 1) % 2 = 0)), .slice A1 (natL ((x + 1) / 2)).length c1, .int .i64 0]) ∧ Own w' w.heap.size 2 1 A1 (natL ((x + 1) / 2)).length c1 (ints (natL ((x + 1) / 2))) ∧ Below w.heap.size w w' := by
  have HI := Lib.hid (isNatural_any A n c x w hx (by omega))
  rw [show decide (n ≤ 40) = true from decide_eq_true hn] at HI
  have HX := Lib.hid hx
  have HLX := Lib.hid hx.len
  have HL1 : Hid ((natL 1).length = 1) := Lib.hid (by rw [natL_one]; rfl)
  have HL2 : Hid ((natL (x + 1)).length ≤ 41) := Lib.hid (add_len (k := 40) (by have := HLX.out; omega) (by have := HL1.out; omega))
  obtain ⟨r, hr⟩ : ∃ r, (x + 1) % 2 = r := ⟨_, rfl⟩
  have HRE := Lib.hid hr
  have hrr : r < 2 := by omega
  clear hx hr
  go_enter Try.func44, Try.ntmps44
  go_wp2_with fail
  refine HI.out.mono ?_
  rintro e w' ⟨rfl, rfl⟩
  go_wp2_with fail
  refine (one_nat w).mono ?_
  rintro e W1 ⟨A1, c1, rfl, o1, z1⟩
  go_wp2_with fail
  refine (add_any A n c x A1 _ c1 1 W1 (HX.out.below z1) o1.rd (by omega) (by have := HL1.out; omega)).mono ?_
  rintro e W2 ⟨A2, c2, rfl, o2, z2⟩
  have y2 := z1.trans (z2.mono z1.size)
  go_wp2_with fail
  refine (divideSmall_any A2 _ c2 (x + 1) 2 W2 o2.rd (by have := HL2.out; omega) (by omega) (by omega)).mono ?_
  rw [HRE.out]
  rintro e W3 ⟨A3, c3, rfl, o3, z3⟩
  have y3 := y2.trans (z3.mono y2.size)
  have hq : ((r : Int) == 0) = decide (r = 0) := by by_cases h : r = 0 <;> simp [h]
  go_wp2_with fail
  exact bodyPost_ret (v := .tuple #[.bool (decide (r = 0)), .slice A3 (natL ((x + 1) / 2)).length c3, .int .i64 0]) (by simp [results, Try.results44, go_sem]) rfl ⟨A3, c3, by rw [HRE.out], o3.mono y2.size, y3⟩
set_option maxRecDepth 100000 in
set_option maxHeartbeats 2000000 in
theorem SignedNumberI_any (g : Bool) (A : Option Addr) (n c x : Nat) (w : World) (hx : SI w A n (natL x)) (hn : n ≤ 40) (hg : g = true → 0 < x) (hl : (natL (x + x - (if g = true then 1 else 0))).length ≤ 40) :
    Calls Try.prog 45 #[.bool g, .slice A n c] w fun e w' => ∃ A1 c1, e = .returned (.tuple #[.slice A1 (natL (x + x - (if g = true then 1 else 0))).length c1, .int .i64 0]) ∧ Own w' w.heap.size 2 1 A1 (natL (x + x - (if g = true then 1 else 0))).length c1 (ints (natL (x + x - (if g = true then 1 else 0)))) ∧ Below w.heap.size w w' := by
  have HI := Lib.hid (isNatural_any A n c x w hx (by omega))
  rw [show decide (n ≤ 40) = true from decide_eq_true hn] at HI
  have HX := Lib.hid hx
  have HLX := Lib.hid hx.len
  have HL1 : Hid ((natL 1).length = 1) := Lib.hid (by rw [natL_one]; rfl)
  have HL2 : Hid ((natL (x + x)).length ≤ 41) := Lib.hid (add_len (k := 40) (by have := HLX.out; omega) (by have := HLX.out; omega))
  have HADD := Lib.hid (add_any A n c x A n c x w hx hx (by omega) (by omega))
  clear hx
  cases g
  · simp only [Bool.false_eq_true, if_false, Nat.sub_zero] at hl ⊢
    have HL := Lib.hid hl
    clear hl
    go_enter Try.func45, Try.ntmps45
    go_wp2_with fail
    refine HI.out.mono ?_
    rintro e w' ⟨rfl, rfl⟩
    go_wp2_with fail
    refine HADD.out.mono ?_
    rintro e W1 ⟨A1, c1, rfl, o1, z1⟩
    go_wp2_with fail
    refine (limited_any A1 _ c1 W1 HL.out).mono ?_
    rintro e w' ⟨rfl, rfl⟩
    go_wp2_with fail
    exact bodyPost_ret (v := .tuple #[.slice A1 (natL (x + x)).length c1, .int .i64 0]) (by simp [results, Try.results45, go_sem]) rfl ⟨A1, c1, rfl, o1, z1⟩
  · simp only [if_true] at hl ⊢
    have HL := Lib.hid hl
    have hx0 := hg rfl
    have hn0 : ((n : Int) == 0) = false := by
      have h1 := HLX.out
      rcases Nat.eq_zero_or_pos n with h | h
      · exact absurd ((natL_nil_iff x).1 (List.length_eq_zero_iff.1 (h1.trans h))) (by omega)
      · simp; omega
    clear hl hg
    go_enter Try.func45, Try.ntmps45
    go_wp2_with fail
    refine HI.out.mono ?_
    rintro e w' ⟨rfl, rfl⟩
    go_wp2_with fail
    refine HADD.out.mono ?_
    rintro e W1 ⟨A1, c1, rfl, o1, z1⟩
    go_wp2_with fail
    refine (one_nat W1).mono ?_
    rintro e W2 ⟨A2, c2, rfl, o2, z2⟩
    have y2 := z1.trans (z2.mono z1.size)
    go_wp2_with fail
    refine (subtract_any A1 _ c1 (x + x) A2 _ c2 1 W2 (o1.below z2).rd o2.rd (by have := HL2.out; omega) (by have := HL1.out; omega) (by omega)).mono ?_
    rintro e W3 ⟨A3, c3, rfl, o3, z3⟩
    have y3 := y2.trans (z3.mono y2.size)
    go_wp2_with fail
    refine (limited_any A3 _ c3 W3 HL.out).mono ?_
    rintro e w' ⟨rfl, rfl⟩
    go_wp2_with fail
    exact bodyPost_ret (v := .tuple #[.slice A3 (natL (x + x - 1)).length c3, .int .i64 0]) (by simp [results, Try.results45, go_sem]) rfl ⟨A3, c3, rfl, o3.mono y2.size, y3⟩
end Go.Proofs.Ytpleclmlcojkdaa

/-
  Contracts of impl's SetOf, rising, SetNumber.
-/
namespace Go.Proofs.Ytpleclmlcojkdaa
open Go.RowKit

theorem digB_len_pow {b x m k : Nat} (h : x < ((b + 2) ^ m) ^ k) : (digB b x).length ≤ m * k := digB_len (by rw [Nat.pow_mul]; exact h)
theorem bits_len {x : Nat} (h : (natL x).length ≤ 40) : (digB 0 x).length ≤ 800 := by
  have h1 := natL_lt x
  have h2 := pw_mono h
  rw [pw_eq 40] at h2
  have h4 : x < 1000000 ^ 40 := by have : (x : Int) < ((1000000 ^ 40 : Nat) : Int) := by omega
                                   exact_mod_cast this
  have h5 := digB_len_pow (b := 0) (x := x) (m := 20) (k := 40) (Nat.lt_of_lt_of_le h4 (Nat.pow_le_pow_left (by decide) 40))
  omega
set_option maxRecDepth 100000 in
set_option maxHeartbeats 4000000 in
theorem SetOfI_any (A : Option Addr) (n c x : Nat) (w : World) (hx : SI w A n (natL x)) (hn : n ≤ 40) :
    Calls Try.prog 42 #[.slice A n c] w (NewIOk w (setL 0 (digB 0 x))) := by
  have hbl : (digB 0 x).length ≤ 800 := bits_len (by rw [hx.len]; exact hn)
  have HD : Hid (Calls Try.prog 124 #[.slice A n c, .int .i64 2] w (NewIOk w (digB 0 x))) := Lib.hid (digitsOf_any A n c x 0 w hx hn (by omega) (by omega))
  obtain ⟨bs, hbs⟩ : ∃ bs, digB 0 x = bs := ⟨_, rfl⟩
  rw [hbs] at HD hbl ⊢
  have HSL : Hid (∀ k, (setL 0 (bs.take k)).length ≤ 800) := Lib.hid (fun k => by have := setL_len (bs.take k) 0; rw [List.length_take] at this; omega)
  clear hbs hx
  go_enter Try.func42, Try.ntmps42
  go_wp2_with fail
  refine HD.out.mono ?_
  rintro e W1 ⟨B, bc, rfl, o1, z1⟩
  have HB : Hid (SI W1 B bs.length bs) := Lib.hid o1.rd
  obtain ⟨lo, hlo⟩ : ∃ lo, lo = W1.heap.size := ⟨_, rfl⟩
  have HLO := Lib.hid hlo
  have HBB : Hid (∀ g, blk B = some g → g < lo) := Lib.hid (fun g hg => by rw [hlo]; exact o1.blk_lt g hg)
  have hlw : w.heap.size ≤ lo := by rw [hlo]; exact z1.size
  clear hlo
  obtain ⟨m, hm⟩ : ∃ m, m = bs.length := ⟨_, rfl⟩
  have HM := Lib.hid hm
  rw [← hm] at hbl HB ⊢
  clear o1 hm
  obtain ⟨W2, hW_⟩ : ∃ W_, W_ = W1.alloc (.cells #[] 2) := ⟨_, rfl⟩
  have b2 : Blk W2 W1.heap.size 2 #[] := by rw [hW_]; exact Blk.new W1 _ _
  have z2 : Below W1.heap.size W1 W2 := by rw [hW_]; exact (Below.refl _ _).alloc (Nat.le_refl _) _
  have HW2 := Lib.hid hW_
  clear hW_
  have y2 := z1.trans (z2.mono z1.size)
  have HO2 : Hid (Own W2 lo 2 1 (some ⟨W1.heap.size, 0, none⟩) (setL 0 (bs.take 0)).length 0 (ints (setL 0 (bs.take 0)))) := Lib.hid (by
    rw [List.take_zero]; show Own W2 _ _ 1 _ 0 0 (ints [])
    rw [HW2.out]; exact Own.lit W1 #[] 2 0 1 lo (by simp) (by simp [maxLen]) (by rw [HLO.out]; exact Nat.le_refl _))
  have HE0 : Hid (0 = (setL 0 (bs.take 0)).length) := Lib.hid (by rw [List.take_zero]; rfl)
  have HB2 := Lib.hid (show SI W2 B m bs from HB.out.below z2)
  have HL2 : Hid (W1.heap.size ≤ W2.heap.size) := Lib.hid z2.size
  clear b2 HB z2
  go_upto_region 6 with fail
  rw [← HW2.out]
  clear HW2
  go_loopw [6, 20] (fun s6 s20 wr => ∃ (j : Nat) (E : Option Addr) (ec : Nat), j ≤ m ∧ s20 = .int .i64 (j : Int) ∧ s6 = .slice E (setL 0 (bs.take j)).length ec ∧ Hid (Own wr lo 2 1 E (setL 0 (bs.take j)).length ec (ints (setL 0 (bs.take j)))) ∧ Below w.heap.size w wr ∧ Hid (SI wr B m bs) ∧ lo ≤ wr.heap.size) (fun _ s20 _ => m - (intOf s20).toNat)
  case atStart => exact ⟨0, _, 0, Nat.zero_le _, rfl, by rw [← HE0.out], HO2, y2, HB2, by rw [HLO.out]; exact HL2.out⟩
  case round =>
    obtain ⟨j, E, ec, hj, rfl, rfl, HO, hz, HBr, hlr⟩ := hrel
    clear HO2 y2 HB2
    by_cases hlt : j < m
    · have i1 : (j : Int) < (m : Int) := by omega
      have i2 : (0 : Int) ≤ (j : Int) := by omega
      obtain ⟨g, o, hBE, hgl, hc⟩ := HBr.out.at_ hlt
      obtain ⟨d, hd⟩ : ∃ d, bs[j]'(by rw [← HM.out]; exact hlt) = d := ⟨_, rfl⟩
      have HTK : Hid (bs.take (j + 1) = bs.take j ++ [d]) := Lib.hid (by rw [List.take_succ_eq_append_getElem (by rw [← HM.out]; exact hlt), hd])
      have HTL : Hid ((bs.take j).length = j) := Lib.hid (by rw [List.length_take, ← HM.out]; omega)
      rw [hd] at hc
      have hle := HSL.out j
      have ho := HO.out
      have HAP : Hid (∀ g, blk E = some g → True) := Lib.hid (fun _ _ => trivial)
      clear hd HAP
      subst hBE
      by_cases h1 : d = 1
      · have HS : Hid (setL 0 (bs.take (j + 1)) = setL 0 (bs.take j) ++ [((j : Nat) : Int)]) := Lib.hid (by rw [HTK.out, setL_snoc, HTL.out, if_pos h1, Nat.zero_add])
        have e1 : (d == 1) = true := by simpa using h1
        clear h1
        go_wp2_with (at_builtin; refine wpList_append_Own rfl (.tmp 27) (.tmp 29) rfl elI (lo := lo) rfl (ho.alloc _) rfl (Rd.new1 wr _ _) (ints_one [(j : Int)]) (by omega) (by simp only [maxLen]; omega) (by simp; omega) ?_; intro A3 c3 w3 ho3 hg3 hk3)
        have HO3 : Hid (Own w3 lo 2 1 A3 (setL 0 (bs.take (j + 1))).length c3 (ints (setL 0 (bs.take (j + 1))))) := Lib.hid (by
          rw [HS.out, List.length_append]; simpa [ints] using ho3)
        have HB3 : Hid (SI w3 (some ⟨g, o, none⟩) m bs) := Lib.hid (Rd.grown (Rd.alloc HBr.out _) hg3 (fun g' hE hB => by
          have h1 := ho.blk_ge g' hE
          have h2 := HBB.out g' hB
          omega))
        have hz3 : Below w.heap.size w w3 := (hz.alloc hz.size (.cells #[.int .i64 (j : Int)] 2)).grown hg3 (by have := hz.size; simp; omega) (fun k hk => by have := ho.blk_ge k hk; omega)
        have hl3 : lo ≤ w3.heap.size := by have := hg3.size; simp at this; omega
        have HEL : Hid ((setL 0 (bs.take j)).length + 1 = (setL 0 (bs.take (j + 1))).length) := Lib.hid (by rw [HS.out]; simp)
        rw [HEL.out]
        clear ho3 hg3 hk3 ho
        go_wp2_with fail
        go_roundw
        case rel => exact ⟨j + 1, A3, c3, hlt, by go_num, rfl, HO3, hz3, HB3, hl3⟩
        case measure => simp [intOf]; omega
      · have HS : Hid (setL 0 (bs.take (j + 1)) = setL 0 (bs.take j)) := Lib.hid (by rw [HTK.out, setL_snoc, if_neg h1, List.append_nil])
        have e1 : (d == 1) = false := by simpa using h1
        clear h1
        go_wp2_with fail
        go_roundw
        case rel => exact ⟨j + 1, E, ec, hlt, by go_num, by rw [HS.out], Lib.hid (by rw [HS.out]; exact HO.out), hz, HBr, hlr⟩
        case measure => simp [intOf]; omega
    · obtain rfl : j = m := by omega
      have HEND : Hid (bs.take j = bs) := Lib.hid (List.take_of_length_le (by rw [← HM.out]; exact Nat.le_refl _))
      have ho := HO.out
      rw [HEND.out] at ho ⊢
      have i1 : ¬ (j : Int) < (j : Int) := by omega
      go_wp2_with fail
      exact bodyPost_ret (v := .tuple #[.slice E (setL 0 bs).length ec, .int .i64 0]) (by simp [results, Try.results42, go_sem]) rfl ⟨E, ec, rfl, ho.mono hlw, hz⟩
set_option maxRecDepth 100000 in
set_option maxHeartbeats 2000000 in
theorem rising_any (A : Option Addr) (n c : Nat) (xs : List Int) (w : World) (hx : SI w A n xs) (hn : n ≤ 1048576) (hr : risesL xs) :
    Calls Try.prog 125 #[.slice A n c] w fun e w' => e = .returned (.bool true) ∧ ∃ k, w' = w.drewN k := by
  have HL := Lib.hid hx.len
  have HR := Lib.hid hr
  clear hr
  go_enter Try.func125, Try.ntmps125
  go_wp2_with fail
  go_loopw [3] (fun i wr => ∃ k q : Nat, 1 ≤ k ∧ k ≤ n + 1 ∧ i = .int .i64 (k : Int) ∧ wr = w.drewN q) (fun i _ => n + 1 - (intOf i).toNat)
  case atStart => exact ⟨1, 0, by omega, by omega, rfl, rfl⟩
  case round =>
    obtain ⟨k, q, hk1, hk, rfl, rfl⟩ := hrel
    by_cases hlt : k < n
    · obtain ⟨i, hi⟩ : ∃ i, k = i + 1 := ⟨k - 1, by omega⟩
      have i1 : (k : Int) < (n : Int) := by omega
      have i2 : (0 : Int) ≤ (k : Int) := by omega
      have i3 : (0 : Int) ≤ (i : Int) := by omega
      have i4 : (i : Int) < (n : Int) := by omega
      have wi : IntKind.i64.wrap ((k : Int) - 1) = (i : Int) := by rw [show (k : Int) - 1 = (i : Int) by omega]; exact IntWalk.i64_in _ (by omega)
      have wk : IntKind.i64.wrap ((k : Int) + 1) = (k : Int) + 1 := IntWalk.i64_in _ (by omega)
      obtain ⟨b, off, rfl, _, hc1⟩ := hx.at_ (k := i) (by omega)
      obtain ⟨b', off', e', _, hc2⟩ := hx.at_ hlt
      simp only [Option.some.injEq, Addr.mk.injEq, and_true] at e'
      obtain ⟨rfl, rfl⟩ := e'
      have hlt2 := HR.out i (by rw [HL.out]; omega)
      obtain ⟨p, hp⟩ : ∃ p, xs[i]'(by rw [HL.out]; omega) = p := ⟨_, rfl⟩
      obtain ⟨r, hr⟩ : ∃ r, xs[k]'(by rw [HL.out]; omega) = r := ⟨_, rfl⟩
      have e2 : xs[i + 1]'(by rw [HL.out]; omega) = r := by rw [← hr]; congr 1; omega
      rw [hp, e2] at hlt2
      rw [hp] at hc1
      rw [hr] at hc2
      have hge : ¬ r ≤ p := by omega
      clear hp hr e2 hi hlt2
      go_upto_region 4 with fail
      go_quiet (fail)
      go_wp2_with fail
      go_roundw
      case rel => exact ⟨k + 1, _, by omega, by omega, by go_num, rfl⟩
      case measure => simp [intOf]; omega
    · have i1 : ¬ (k : Int) < (n : Int) := by omega
      go_wp2_with fail
      go_ret
      exact ⟨rfl, q, rfl⟩
set_option maxRecDepth 100000 in
set_option maxHeartbeats 4000000 in
theorem SetNumberI_any (A : Option Addr) (n c x : Nat) (w : World) (hx : SI w A n (setL 0 (digB 0 x))) (hl : (natL x).length ≤ 40) :
    Calls Try.prog 43 #[.slice A n c] w fun e w' => ∃ A1 c1, e = .returned (.tuple #[.slice A1 (natL x).length c1, .int .i64 0]) ∧ Own w' w.heap.size 2 1 A1 (natL x).length c1 (ints (natL x)) ∧ Below w.heap.size w w' := by
  have hbl := bits_len hl
  have hsl := setL_len (digB 0 x) 0
  have hn : n ≤ 800 := by have := hx.len; omega
  have hrange : ∀ y ∈ setL 0 (digB 0 x), 0 ≤ y ∧ y < 800 := fun y hy => by
    obtain ⟨i, hi, rfl⟩ := (setL_mem _ 0 y).1 hy
    have := (List.getElem?_eq_some_iff.1 hi).1
    omega
  have hal : allIn (setL 0 (digB 0 x)) 0 799 = true := by
    unfold allIn
    rw [List.all_eq_true]
    intro y hy
    have := hrange y hy
    exact (inB_iff _ _ _).2 (by omega)
  have HAL := Lib.hid hal
  have HRA := Lib.hid hrange
  have HRI := Lib.hid (rising_any A n c _ w hx (by omega) (setL_rises _ _))
  have HFD : Hid (bitsOf 800 (setL 0 (digB 0 x)) = digB 0 x ++ List.replicate (800 - (digB 0 x).length) 0) := Lib.hid (bitsOf_setL (digB_range 0 x) hbl)
  have HOF : Hid (ofD 2 (bitsOf 800 (setL 0 (digB 0 x))) = x) := Lib.hid (by rw [HFD.out, ofD_pad]; exact ofD_digB 0 x)
  have HBR : Hid (∀ d ∈ bitsOf 800 (setL 0 (digB 0 x)), 0 ≤ d ∧ d < (2 : Nat)) := Lib.hid (fun d hd => by
    unfold bitsOf at hd
    obtain ⟨i, _, rfl⟩ := List.mem_map.1 hd
    split <;> omega)
  have HLL := Lib.hid hl
  obtain ⟨ys, hys⟩ : ∃ ys, setL 0 (digB 0 x) = ys := ⟨_, rfl⟩
  rw [hys] at hx HAL HRA HOF HBR
  have HXL := Lib.hid hx.len
  have HX := Lib.hid hx
  clear hys HFD hal hrange hsl hbl hl hx
  go_enter Try.func43, Try.ntmps43
  go_wp2_with fail
  refine HRI.out.mono ?_
  rintro e w' ⟨rfl, k1, rfl⟩
  have HX1 := Lib.hid (show SI (w.drewN k1) A n ys from HX.out.drewN k1)
  have z1 : Below w.heap.size w (w.drewN k1) := below_drewN (Below.refl _ _) k1
  generalize w.drewN k1 = W1 at *
  go_wp2_with fail
  refine (allWithin_ok HAL.out A n c W1 HX1.out (by omega)).mono ?_
  rintro e w' ⟨rfl, rfl⟩
  go_upto_region 4 with (at_make; refine wpList_make_Own rfl (.const (.int .i64 800)) (.const (.int .i64 800)) rfl elI (n := 800) (lo := W1.heap.size) rfl rfl (by omega) (by unfold maxLen; omega) (Nat.le_refl _) ?_; intro W2 ho2 hb2 hs2)
  rw [made_zeros] at ho2
  generalize hD : (some ⟨W1.heap.size, 0, none⟩ : Option Addr) = D at *
  have HO2 : Hid (Own W2 W1.heap.size 2 1 D 800 800 (ints (bitsOf 800 (ys.take 0)))) := Lib.hid (by rw [List.take_zero, bitsOf_nil]; exact ho2)
  have HX2 := Lib.hid (show SI W2 A n ys from HX1.out.below hb2)
  have HBA : Hid (∀ g, blk A = some g → 0 < n → g < W1.heap.size) := Lib.hid (fun g hg h0 => by
    obtain ⟨b, o, rfl, hb, _⟩ := HX1.out.at_ h0
    have : b = g := by simpa [blk] using hg
    omega)
  clear hD hs2 ho2
  go_wp2_with fail
  go_loopw [18] (fun s18 wr => ∃ (j : Nat), j ≤ n ∧ s18 = .int .i64 (j : Int) ∧ Hid (Own wr W1.heap.size 2 1 D 800 800 (ints (bitsOf 800 (ys.take j)))) ∧ Below W1.heap.size W1 wr) (fun s18 _ => n - (intOf s18).toNat)
  case atStart => exact ⟨0, Nat.zero_le _, rfl, HO2, hb2⟩
  case round =>
    obtain ⟨j, hj, rfl, HO, hz⟩ := hrel
    clear HO2 hb2 HX2
    by_cases hlt : j < n
    · have i1 : (j : Int) < (n : Int) := by omega
      have i2 : (0 : Int) ≤ (j : Int) := by omega
      obtain ⟨g, o, rfl, _, hc⟩ := (HX1.out.below hz).at_ hlt
      have hyr := HRA.out _ (List.getElem_mem (show j < ys.length by rw [HXL.out]; exact hlt))
      obtain ⟨y, hy⟩ : ∃ y, ys[j]'(by rw [HXL.out]; exact hlt) = y := ⟨_, rfl⟩
      rw [hy] at hyr hc
      obtain ⟨q, rfl⟩ : ∃ q : Nat, y = (q : Int) := ⟨y.toNat, by omega⟩
      have hq : q < 800 := by omega
      have HTK : Hid (ys.take (j + 1) = ys.take j ++ [(q : Int)]) := Lib.hid (by rw [List.take_succ_eq_append_getElem (by rw [HXL.out]; exact hlt), hy])
      obtain ⟨b, ob, rfl, hbl, _, hcb, hfb⟩ := HO.out.at_ (k := q) (by rw [length_ints]; simp [bitsOf]; omega)
      have i3 : (0 : Int) ≤ (q : Int) := by omega
      have i4 : (q : Int) < 800 := by omega
      have HO3 : Hid (Own (wr.setCell ⟨b, ob + q, none⟩ (.int .i64 1)) W1.heap.size 2 1 (some ⟨b, ob, none⟩) 800 800 (ints (bitsOf 800 (ys.take (j + 1))))) := Lib.hid (by
        have h := HO.out.set_ (k := q) (by rw [length_ints]; simp [bitsOf]; omega) (.int .i64 1)
        rw [ints_set, bitsOf_set hq, ← HTK.out] at h
        exact h)
      have hz3 := hz.setCell (p := ⟨b, ob + q, none⟩) hbl (.int .i64 1)
      clear hy hyr
      go_wp2_with fail
      go_roundw
      case rel => exact ⟨j + 1, hlt, by go_num, HO3, hz3⟩
      case measure => simp [intOf]; omega
    · obtain rfl : j = n := by omega
      have i1 : ¬ (j : Int) < (j : Int) := by omega
      have HEN : Hid (ys.take j = ys) := Lib.hid (List.take_of_length_le (by rw [HXL.out]; exact Nat.le_refl _))
      have HO4 : Hid (SI wr D 800 (bitsOf 800 ys)) := Lib.hid (by have h := HO.out.rd; rw [HEN.out] at h; exact h)
      have HFR : Hid (Calls Try.prog 126 #[.slice D 800 800, .int .i64 2] wr (NewN wr x)) := Lib.hid (by
        have h := fromDigits_any D 800 800 (bitsOf 800 ys) 2 wr HO4.out (by omega) (by omega) (by omega) HBR.out
        rw [HOF.out] at h
        exact h)
      go_wp2_with fail
      refine HFR.out.mono ?_
      rintro e W5 ⟨A5, c5, rfl, o5, z5⟩
      go_wp2_with fail
      refine (limited_any A5 _ c5 W5 HLL.out).mono ?_
      rintro e w' ⟨rfl, rfl⟩
      have yz : Below w.heap.size w W5 := (z1.trans (hz.mono z1.size)).trans (z5.mono (by have := z1.size; have := hz.size; omega))
      go_wp2_with fail
      exact bodyPost_ret (v := .tuple #[.slice A5 (natL x).length c5, .int .i64 0]) (by simp [results, Try.results43, go_sem]) rfl ⟨A5, c5, rfl, o5.mono (by have := z1.size; have := hz.size; omega), yz⟩
end Go.Proofs.Ytpleclmlcojkdaa

/-
  Contracts of slices.Reverse and impl.reversed.
-/
namespace Go.Proofs.Ytpleclmlcojkdaa
open Go.RowKit

/-- The number at a place, or 0. -/
def nth (xs : List Int) (k : Nat) : Int := xs.getD k 0
theorem nth_eq (xs : List Int) (k : Nat) (h : k < xs.length) : nth xs k = xs[k] := by simp [nth, List.getElem?_eq_getElem h]
/-- After a rounds of the reversal in place. -/
def revTo (xs : List Int) (a : Nat) : List Int := (List.range xs.length).map fun k => if k < a ∨ xs.length ≤ k + a then nth xs (xs.length - 1 - k) else nth xs k
theorem length_revTo (xs : List Int) (a : Nat) : (revTo xs a).length = xs.length := by simp [revTo]
theorem revTo_get (xs : List Int) (a k : Nat) (h : k < (revTo xs a).length) : (revTo xs a)[k] = if k < a ∨ xs.length ≤ k + a then nth xs (xs.length - 1 - k) else nth xs k := by simp [revTo]
theorem revTo_zero (xs : List Int) : revTo xs 0 = xs := by
  apply List.ext_getElem (length_revTo xs 0)
  intro k h1 h2
  rw [revTo_get, if_neg (by omega), nth_eq _ _ h2]
theorem revTo_next (xs : List Int) (a : Nat) (h : a + a + 1 < xs.length) : ((revTo xs a).set a (nth xs (xs.length - 1 - a))).set (xs.length - 1 - a) (nth xs a) = revTo xs (a + 1) := by
  apply List.ext_getElem (by simp [length_revTo])
  intro k h1 h2
  rw [length_revTo] at h2
  rw [List.getElem_set, List.getElem_set, revTo_get, revTo_get]
  by_cases e1 : xs.length - 1 - a = k
  · subst e1
    rw [if_pos rfl, if_pos (by omega)]
    congr 1; omega
  · rw [if_neg e1]
    by_cases e2 : a = k
    · subst e2
      rw [if_pos rfl, if_pos (by omega)]
    · rw [if_neg e2]
      by_cases e3 : k < a ∨ xs.length ≤ k + a
      · rw [if_pos e3, if_pos (by omega)]
      · rw [if_neg e3, if_neg (by omega)]
theorem revTo_end (xs : List Int) (a : Nat) (h : xs.length ≤ a + a + 1) : revTo xs a = xs.reverse := by
  apply List.ext_getElem (by simp [length_revTo])
  intro k h1 h2
  rw [length_revTo] at h1
  rw [revTo_get, List.getElem_reverse]
  by_cases e : k < a ∨ xs.length ≤ k + a
  · rw [if_pos e, nth_eq _ _ (by omega)]
  · rw [if_neg e, nth_eq _ _ (by omega)]
    congr 1; omega
theorem revTo_lo (xs : List Int) (a : Nat) (h : a + a + 1 < xs.length) (h1 : a < (ints (revTo xs a)).length) : (ints (revTo xs a))[a] = .int .i64 (nth xs a) := by
  rw [ints_get, revTo_get, if_neg (by omega)]
theorem revTo_hi (xs : List Int) (a : Nat) (h : a + a + 1 < xs.length) (h1 : xs.length - 1 - a < (ints (revTo xs a)).length) : (ints (revTo xs a))[xs.length - 1 - a] = .int .i64 (nth xs (xs.length - 1 - a)) := by
  rw [ints_get, revTo_get, if_neg (by omega)]

def RevP (w : World) (lo : Nat) (A : Option Addr) (n c : Nat) (xs : List Int) (e : Ending) (w' : World) : Prop :=
  e = .returned (.tuple #[]) ∧ Own w' lo 2 1 A n c (ints xs.reverse) ∧ Below lo w w' ∧ ∀ b, blk A ≠ some b → w'.heap[b]? = w.heap[b]?

set_option maxHeartbeats 1000000 in
theorem reverse_any (A : Option Addr) (n c : Nat) (xs : List Int) (w : World) (lo : Nat) (hx : Own w lo 2 1 A n c (ints xs)) (hn : n ≤ 1048576) (_hlo : lo ≤ w.heap.size) :
    Calls Try.prog 185 #[.slice A n c] w (RevP w lo A n c xs) := by
  have hl : xs.length = n := by have := hx.1; rw [length_ints] at this; omega
  subst hl
  go_enter Try.func185, Try.ntmps185
  go_wp2_with fail
  go_loopw [2, 3] (fun i j wr => ∃ a : Nat, a ≤ xs.length ∧ i = .int .i64 a ∧ j = .int .i64 ((xs.length : Int) - 1 - a) ∧ Own wr lo 2 1 A xs.length c (ints (revTo xs a)) ∧ Below lo w wr ∧ Hid (∀ b, blk A ≠ some b → wr.heap[b]? = w.heap[b]?)) (fun i _ _ => xs.length - (intOf i).toNat)
  case atStart => exact ⟨0, by omega, rfl, by simp, by rw [revTo_zero]; exact hx, Below.refl _ _, fun _ _ => rfl⟩
  case round =>
    obtain ⟨a, ha, rfl, rfl, ho, hb, hf⟩ := hrel
    by_cases hlt : a + a + 1 < xs.length
    · have hll : (ints (revTo xs a)).length = xs.length := by rw [length_ints, length_revTo]
      have h1 : a < (ints (revTo xs a)).length := by omega
      have h2 : xs.length - 1 - a < (ints (revTo xs a)).length := by omega
      obtain ⟨b, off, rfl, hlob, hbl, hc1, hf1⟩ := ho.at_ h1
      obtain ⟨b', off', he, _, _, hc2, hf2⟩ := ho.at_ h2
      simp only [Option.some.injEq, Addr.mk.injEq, and_true] at he
      obtain ⟨rfl, rfl⟩ := he
      rw [revTo_lo xs a hlt] at hc1
      rw [revTo_hi xs a hlt] at hc2
      have i1 : (a : Int) < (xs.length : Int) - 1 - a := by omega
      have i2 : (0 : Int) ≤ (xs.length : Int) - 1 - a := by omega
      have i3 : ((xs.length : Int) - 1 - a).toNat = xs.length - 1 - a := by omega
      have i4 : (xs.length : Int) - 1 - a < (xs.length : Int) := by omega
      have ne1 : ¬ off + a = off + (xs.length - 1 - a) := by omega
      have ne2 : ¬ off + (xs.length - 1 - a) = off + a := by omega
      have HLL := Lib.hid hll
      clear hll
      have ho2 := (ho.set_ h1 (.int .i64 (nth xs (xs.length - 1 - a)))).set_ (k := xs.length - 1 - a) (by rw [List.length_set]; exact h2) (.int .i64 (nth xs a))
      rw [ints_set, ints_set, revTo_next xs a hlt] at ho2
      have ho3 : Own ((wr.setCell ⟨b, off + a, none⟩ (.int .i64 (nth xs (xs.length - 1 - a)))).setCell ⟨b, off + (xs.length - 1 - a), none⟩ (.int .i64 (nth xs a))).drew lo 2 1 (some ⟨b, off, none⟩) xs.length c (ints (revTo xs (a + 1))) := ho2
      have hb3 : Below lo w ((wr.setCell ⟨b, off + a, none⟩ (.int .i64 (nth xs (xs.length - 1 - a)))).setCell ⟨b, off + (xs.length - 1 - a), none⟩ (.int .i64 (nth xs a))).drew := ((hb.setCell (p := ⟨b, off + a, none⟩) hlob _).setCell (p := ⟨b, off + (xs.length - 1 - a), none⟩) hlob _).drew
      have hf3 : Hid (∀ b', blk (some ⟨b, off, none⟩) ≠ some b' → ((wr.setCell ⟨b, off + a, none⟩ (.int .i64 (nth xs (xs.length - 1 - a)))).setCell ⟨b, off + (xs.length - 1 - a), none⟩ (.int .i64 (nth xs a))).drew.heap[b']? = w.heap[b']?) := fun b' hb' =>
        (Below.heap_setCell _ _ _ _ (fun e => hb' (by rw [e]; rfl))).trans ((Below.heap_setCell _ _ _ _ (fun e => hb' (by rw [e]; rfl))).trans (hf.out b' hb'))
      go_wp2_with fail
      go_region
      go_wp2_with fail
      exact ⟨⟨a + 1, by omega, by go_num, by go_num, ho3, hb3, hf3⟩, by simp [intOf]; omega⟩
    · have i1 : ¬ (a : Int) < (xs.length : Int) - 1 - a := by omega
      go_wp2_with fail
      go_end0
      have e1 := revTo_end xs a (by omega)
      rw [e1] at ho
      exact ⟨rfl, ho, hb, hf.out⟩

set_option maxHeartbeats 400000 in
theorem reversed_any (A : Option Addr) (n c : Nat) (xs : List Int) (w : World) (hx : SI w A n xs) (hn : n ≤ 1048576) :
    Calls Try.prog 118 #[.slice A n c] w (NewI w xs.reverse) := by
  have hl : xs.length ≤ 1048576 := by have := hx.len; omega
  go_enter Try.func118, Try.ntmps118
  go_wp2_with fail
  refine (cloneI_any _ _ _ xs _ hx hn).mono ?_
  rintro e w2 ⟨A2, c2, rfl, ho2, z2⟩
  go_wp2_with fail
  refine (reverse_any _ _ _ xs _ w.heap.size ho2 hl z2.size).mono ?_
  rintro e w3 ⟨rfl, ho3, z3, _⟩
  go_wp2_with fail
  go_ret
  exact ⟨A2, c2, by rw [List.length_reverse]; rfl, by rw [List.length_reverse]; exact ho3, z2.trans z3⟩
end Go.Proofs.Ytpleclmlcojkdaa
