/-
  What CollatzNumbers returns; the tag system of Collatz; words of zeros.
-/
import Derived.Test.YtokglpdlhacnaaaPkTagCycles0
import Derived.Test.YtokglpdlhacnaaaPkTagCycles1
import Derived.Test.YtokglpdlhacnaaaPkTagCycles2
import Derived.Test.YtokglpdlhacnaaaPkTagCycles3
import Derived.Lib.QuietBelow
import Derived.BigGuardPart
import Derived.Laws.BytesArg
import Derived.Maps.Own
import Derived.Maps.Views
namespace Go.Proofs.Ytokglpdlhacnaaa
open Go.RowKit

def collWords : List (List Int) := [[1, 2], [0], [0, 0, 0]]
def collSys : Sys (List Int) := tagSys 2 collWords []
def zeros (n : Nat) : List Int := List.replicate n 0
theorem zeros_len (n : Nat) : (zeros n).length = n := by simp [zeros]
def zeroB (xs : List Int) : Bool := allIn xs 0 0
/-- The lengths of the words of zeros among the first i words. -/
def zlens (s : Sys (List Int)) (xs : List Int) : Nat → List Int
  | 0 => []
  | i + 1 => if zeroB (s.it xs i) = true then zlens s xs i ++ [((s.it xs i).length : Int)] else zlens s xs i
theorem zlens_le (s : Sys (List Int)) (xs : List Int) (i : Nat) : (zlens s xs i).length ≤ i := by
  induction i with
  | zero => simp [zlens]
  | succ i ih =>
    rw [zlens]
    split
    · rw [List.length_append]; simp only [List.length_cons, List.length_nil]; omega
    · omega
theorem zlens_yes {s : Sys (List Int)} {xs : List Int} {i : Nat} (h : zeroB (s.it xs i) = true) : zlens s xs (i + 1) = zlens s xs i ++ [((s.it xs i).length : Int)] := by rw [zlens, if_pos h]
theorem zlens_no {s : Sys (List Int)} {xs : List Int} {i : Nat} (h : zeroB (s.it xs i) = false) : zlens s xs (i + 1) = zlens s xs i := by rw [zlens, if_neg (by simp [h])]
def collF (n b : Int) : List Int × Int :=
  if inB n 1 1000 then
    if inB b 1 20000 then
      match collSys.run b.toNat (zeros n.toNat) with
      | some i => if collSys.halt (collSys.it (zeros n.toNat) i) then (zlens collSys (zeros n.toNat) (i + 1), 0) else ([], 5)
      | none => ([], 5)
    else ([], 2)
  else ([], 2)
theorem collF_n {n b : Int} (h : inB n 1 1000 = false) : collF n b = ([], 2) := by unfold collF; rw [h]; simp
theorem collF_b {n b : Int} (h : inB b 1 20000 = false) : collF n b = ([], 2) := by unfold collF; rw [h]; simp
theorem collF_halt {n N i : Nat} (h : inB (n : Int) 1 1000 = true) (h1 : inB (N : Int) 1 20000 = true) (h2 : collSys.Ended (zeros n) N i) (h3 : collSys.halt (collSys.it (zeros n) i) = true) : collF n N = (zlens collSys (zeros n) (i + 1), 0) := by
  unfold collF; rw [h, h1, Int.toNat_natCast, Int.toNat_natCast, Sys.run_ended h2]; simp [h3]
theorem collF_runs {n N i : Nat} (h : inB (n : Int) 1 1000 = true) (h1 : inB (N : Int) 1 20000 = true) (h2 : collSys.Ended (zeros n) N i) (h3 : collSys.halt (collSys.it (zeros n) i) = false) : collF n N = ([], 5) := by
  unfold collF; rw [h, h1, Int.toNat_natCast, Int.toNat_natCast, Sys.run_ended h2]; simp [h3]
theorem collF_full {n N i : Nat} (h : inB (n : Int) 1 1000 = true) (h1 : inB (N : Int) 1 20000 = true) (h2 : collSys.Full (zeros n) N i) : collF n N = ([], 5) := by
  unfold collF; rw [h, h1, Int.toNat_natCast, Int.toNat_natCast, Sys.run_full h2]; simp
theorem collF_len (n b : Int) : (collF n b).1.length ≤ 1048576 := by
  unfold collF
  split
  · split
    · rename_i h1 h2
      have hb := (inB_iff _ _ _).1 h2
      cases hi : collSys.run b.toNat (zeros n.toNat) with
      | none => simp
      | some i =>
        have h3 := Sys.run_le hi
        have h4 := zlens_le collSys (zeros n.toNat) (i + 1)
        dsimp only
        split
        · dsimp only; omega
        · simp
    · simp
  · simp
theorem coll_code {n : Nat} (h : inB (n : Int) 1 1000 = true) : tagCodeF 2 collWords [] (zeros n) = 0 := by
  rw [tagCode_zero]
  have hb := (inB_iff _ _ _).1 h
  refine ⟨by decide, ?_⟩
  unfold tagWordB allIn zeros
  simp [collWords, inB]
  omega
/-- No word of a run is empty. -/
theorem coll_pos {n i : Nat} (h : inB (n : Int) 1 1000 = true) (hal : collSys.Alive (zeros n) i) : 1 ≤ (collSys.it (zeros n) i).length := by
  have hb := (inB_iff _ _ _).1 h
  induction i with
  | zero => show 1 ≤ (zeros n).length; rw [zeros_len]; omega
  | succ i ih =>
    have hal' : collSys.Alive (zeros n) i := fun j hj => hal j (by omega)
    have hg : tagCodeF 2 collWords [] (collSys.it (zeros n) i) = 0 := tagAlive_good (coll_code h) hal'
    have hh := (hal i (by omega)).1
    have h2 : (2 : Int) ≤ (collSys.it (zeros n) i).length := haltsB_false hh
    have hx := (tagCode_parts hg).2.2.2.2.1
    generalize hxs : collSys.it (zeros n) i = xs at *
    have hnx : collSys.it (zeros n) (i + 1) = (xs ++ tagWordOf collWords xs).drop 2 := by
      show collSys.next (collSys.it (zeros n) i) = _
      rw [hxs]; rfl
    rw [hnx, List.length_drop, List.length_append]
    have hw : 1 ≤ (tagWordOf collWords xs).length := by
      obtain ⟨x0, h3, h4⟩ := head_letter (xs := xs) (n := 3) (by omega) (fun x hx' => by have := hx x hx'; simp [collWords] at this; omega)
      unfold tagWordOf
      rw [h4, Int.toNat_natCast]
      have : x0 = 0 ∨ x0 = 1 ∨ x0 = 2 := by omega
      rcases this with rfl | rfl | rfl <;> decide
    omega
theorem coll_halt (xs : List Int) (h : 1 ≤ xs.length) : collSys.halt xs = decide ((xs.length : Int) = 1) := by
  show haltsB 2 [] xs = _
  unfold haltsB
  simp only [List.not_mem_nil, decide_false, Bool.or_false, decide_eq_decide]
  omega
theorem made_zeros (n : Nat) : (madeCells (Value.int .i64 0).cells (n * 1)).toList = ints (zeros n) := by
  rw [made_ints n (zeros n) (zeros_len n)]
  congr 1
  unfold copied zeros
  simp
end Go.Proofs.Ytokglpdlhacnaaa

/-
  Contract of impl.codesOf: the codes of letters.
-/
namespace Go.Proofs.Ytokglpdlhacnaaa
open Go.RowKit

theorem zeros_unit {n x0 : Nat} : (zeros n).set x0 1 = unitL n x0 := by
  apply List.ext_getElem
  · simp [zeros, unitL]
  · intro k h1 h2
    simp only [List.getElem_set, zeros, unitL, List.getElem_map, List.getElem_range, List.getElem_replicate]
    by_cases h : x0 = k
    · subst h; simp
    · rw [if_neg h, if_neg (fun e => h e.symm)]
theorem codes_set {n l i x0 : Nat} {xs : List Int} (hl : xs.length = l) (hi : i < l) (hx : xs[i]'(by omega) = (x0 : Int)) (hx0 : x0 < n) :
    (codesL n (xs.take i) ++ zeros ((l - i) * n)).set (i * n + x0) 1 = codesL n (xs.take (i + 1)) ++ zeros ((l - (i + 1)) * n) := by
  have hcl : (codesL n (xs.take i)).length = i * n := by rw [codesL_len, List.length_take]; congr 1; omega
  have hz : zeros ((l - i) * n) = zeros n ++ zeros ((l - (i + 1)) * n) := by
    rw [show zeros n ++ zeros ((l - (i + 1)) * n) = zeros (n + (l - (i + 1)) * n) from by simp [zeros]]
    congr 1
    rw [show l - i = (l - (i + 1)) + 1 from by omega, Nat.succ_mul]; omega
  rw [List.set_append_right _ _ (by omega), hcl, Nat.add_sub_cancel_left, hz, List.set_append_left _ _ (by rw [zeros_len]; exact hx0), zeros_unit, List.take_succ_eq_append_getElem (by omega), codesL_append, hx]
  simp [codesL]

end Go.Proofs.Ytokglpdlhacnaaa

/-
  Contract of impl.cyclicOfTag: the cyclic tag system of a tag system.
-/
namespace Go.Proofs.Ytokglpdlhacnaaa
open Go.RowKit

def cycFitsB (d : Nat) (words : List (List Int)) : Bool := decide (words.length * d ≤ 400) && words.all fun v => decide (v.length * words.length ≤ 1000)
theorem validTag_parts {d : Int} {words : List (List Int)} {hs : List Int} (h : validTagB d words hs = true) : 1 ≤ d ∧ d ≤ 4 ∧ 1 ≤ words.length ∧ words.length ≤ 200 ∧ ∀ v ∈ words, v.length ≤ 1000 ∧ ∀ y ∈ v, 0 ≤ y ∧ y < (words.length : Int) := by
  unfold validTagB wordsB at h
  simp only [Bool.and_eq_true, List.all_eq_true, inB_iff] at h
  obtain ⟨⟨⟨⟨h1, h2⟩, h3⟩, _⟩, _⟩ := h
  refine ⟨h1.1, h1.2, by omega, by omega, fun v hv => ?_⟩
  have h4 := h3 v hv
  unfold tagWordB allIn at h4
  simp only [Bool.and_eq_true, List.all_eq_true, inB_iff, decide_eq_true_eq] at h4
  exact ⟨h4.1, fun y hy => by have := h4.2 y hy; omega⟩
/-- What cyclicOfTag returns. -/
def NewCyc (w : World) (d : Nat) (words : List (List Int)) (N : Nat) (e : Ending) (w' : World) : Prop :=
  ((cycFitsB d words = true ∧ ∃ A us, e = .returned (.tuple #[.agg #[.slice A N N], .int .i64 0]) ∧ OII w' w.heap.size 27 2 A N N us ∧ nums us = cycWords d words) ∨
    (cycFitsB d words = false ∧ e = .returned (.tuple #[.agg #[.slice none 0 0], .int .i64 5]))) ∧ Below w.heap.size w w'

end Go.Proofs.Ytokglpdlhacnaaa

/-
  Contracts of impl.ValidCyclic and of the reference's l09Bits, l09IsCyclic.
-/
namespace Go.Proofs.Ytokglpdlhacnaaa
open Go.RowKit

end Go.Proofs.Ytokglpdlhacnaaa

/-
  A cyclic tag system that runs: ValidTurn, its state in memory, cyclicRunOf, halts, word, turn.
-/
namespace Go.Proofs.Ytokglpdlhacnaaa
open Go.RowKit Go.Sort

/-- A new turn. -/
def NewTu (w : World) (x : Tu) (e : Ending) (w' : World) : Prop :=
  ∃ Q r, e = .returned (.agg #[.int .i64 x.at_, .slice Q x.word.length r]) ∧ Own w' w.heap.size 2 1 Q x.word.length r (ints x.word) ∧ Below w.heap.size w w'
end Go.Proofs.Ytokglpdlhacnaaa

/-
  Contracts of the laws' helpers over Turn: szTurn, toTurn, eqTurn, markTurn.
-/
namespace Go.Proofs.Ytokglpdlhacnaaa
open Go.RowKit

def ToTurn (w : World) (d0 : Int) (n0 : Nat) (x0 : List Int) (e : Ending) (w' : World) : Prop :=
  ∃ B0, e = .returned (.agg #[.int .i64 d0, .slice B0 n0 n0]) ∧ Own w' w.heap.size 2 1 B0 n0 n0 (ints x0) ∧ Below w.heap.size w w'

def sameTurnB (d0 d0' : Int) (x0 x0' : List Int) : Bool :=
  decide (d0 = d0') && sameI x0 x0'
theorem sameTurnB_self (d0 : Int) (x0 : List Int) : sameTurnB d0 d0 x0 x0 = true := by simp [sameTurnB, sameI]

end Go.Proofs.Ytokglpdlhacnaaa

/-
  Marks that are read again, for Turn; a turn in a box.
-/
namespace Go.Proofs.Ytokglpdlhacnaaa
open Go.RowKit

theorem turn_set {w : World} {g : Nat} {a b : Value} {t : TypeId} (h : Blk w g t #[a, b]) (x y : Value) : Blk ((w.setCell ⟨g, 0, none⟩ x).setCell ⟨g, 1, none⟩ y) g t #[x, y] := (h.set_ 0 x).set_ 1 y
theorem turn_below {w w' : World} {g lo : Nat} (h : Below lo w w') (hg : lo ≤ g) (x y : Value) : Below lo w ((w'.setCell ⟨g, 0, none⟩ x).setCell ⟨g, 1, none⟩ y) := (h.setCell hg _).setCell hg _
theorem turn_far {w : World} {g lo s n c : Nat} {t : TypeId} {A : Option Addr} {cs : List Value} (h : Own w lo t s A n c cs) (hg : g < lo) (x y : Value) : Own ((w.setCell ⟨g, 0, none⟩ x).setCell ⟨g, 1, none⟩ y) lo t s A n c cs := by
  have hb : blk A ≠ some g := fun e => by have := h.blk_ge g e; omega
  exact (h.far (p := ⟨g, 0, none⟩) hb _).far (p := ⟨g, 1, none⟩) hb _
def MarkTurn (w : World) (lo hi : Nat) (A : Option Addr) (n c : Nat) (p : Int) (e : Ending) (w' : World) : Prop :=
  e = .returned (.int .i64 (p + n)) ∧ OwnE w' lo 2 A n c (marks p n) ∧ Tch lo hi w w'

end Go.Proofs.Ytokglpdlhacnaaa

/-
  Contracts of impl.TurnOfWord and impl.tagSteps.
-/
namespace Go.Proofs.Ytokglpdlhacnaaa
open Go.RowKit

def turnOfWordF (d : Int) (words : List (List Int)) (hs xs : List Int) : Tu × Int :=
  if tagCodeF d words hs xs = 0 then
    if cycFitsB d.toNat words && decide (xs.length * words.length ≤ 1000) then (⟨0, codesL words.length xs⟩, 0) else (⟨0, []⟩, 5)
  else (⟨0, []⟩, 1)
theorem turnOfWordF_bad {d : Int} {words : List (List Int)} {hs xs : List Int} (h : tagCodeF d words hs xs = 1) : turnOfWordF d words hs xs = (⟨0, []⟩, 1) := by unfold turnOfWordF; rw [h]; simp
/-- A new turn and a code. -/
def NewTu2 (w : World) (r : Tu × Int) (e : Ending) (w' : World) : Prop :=
  ∃ A c, e = .returned (.tuple #[.agg #[.int .i64 r.1.at_, .slice A r.1.word.length c], .int .i64 r.2]) ∧ Own w' w.heap.size 2 1 A r.1.word.length c (ints r.1.word) ∧ Below w.heap.size w w'
theorem tu2_nil {w wf : World} {k : Int} {r : Tu × Int} (hr : r = (⟨0, []⟩, k)) (hz : Below w.heap.size w wf) : NewTu2 w r (.returned (.tuple #[.agg #[.int .i64 0, .slice none 0 0], .int .i64 k])) wf := by
  subst hr; exact ⟨none, 0, rfl, Own.nil, hz⟩

end Go.Proofs.Ytokglpdlhacnaaa

/-
  Contract of impl.tagSteps: so many steps of a tag system.
-/
namespace Go.Proofs.Ytokglpdlhacnaaa
open Go.RowKit

section
variable {σ : Type} (s : Sys σ)
/-- The code for so many steps: 6 where the system halts before, 5 where there is no room. -/
def Sys.code (s : Sys σ) : Nat → σ → Int
  | 0, _ => 0
  | N + 1, c => if s.halt c then 6 else if s.room c then Sys.code s N (s.next c) else 5
end
section
variable {σ : Type} {s : Sys σ} {c : σ}
theorem Sys.code_halt : ∀ {N i : Nat} {c : σ}, i < N → s.Alive c i → s.halt (s.it c i) = true → s.code N c = 6 := by
  intro N
  induction N with
  | zero => intro i c h; omega
  | succ N ih =>
    intro i c h ha hh
    cases i with
    | zero => have h2 : s.halt c = true := hh; unfold Sys.code; rw [if_pos h2]
    | succ i =>
      have h4 : s.halt c = false ∧ s.room c = true := ha 0 (by omega)
      unfold Sys.code
      rw [if_neg (by simp [h4.1]), if_pos h4.2]
      exact ih (by omega) ha.shift (by rw [Sys.it_shift]; exact hh)
theorem Sys.code_full : ∀ {N i : Nat} {c : σ}, i < N → s.Alive c i → s.halt (s.it c i) = false → s.room (s.it c i) = false → s.code N c = 5 := by
  intro N
  induction N with
  | zero => intro i c h; omega
  | succ N ih =>
    intro i c h ha hh hr
    cases i with
    | zero =>
      have h2 : s.halt c = false := hh
      have h3 : s.room c = false := hr
      unfold Sys.code; rw [if_neg (by simp [h2]), if_neg (by simp [h3])]
    | succ i =>
      have h4 : s.halt c = false ∧ s.room c = true := ha 0 (by omega)
      unfold Sys.code
      rw [if_neg (by simp [h4.1]), if_pos h4.2]
      exact ih (by omega) ha.shift (by rw [Sys.it_shift]; exact hh) (by rw [Sys.it_shift]; exact hr)
theorem Sys.code_ok : ∀ {N : Nat} {c : σ}, s.Alive c N → s.code N c = 0 := by
  intro N
  induction N with
  | zero => intro c _; rfl
  | succ N ih =>
    intro c ha
    have h4 : s.halt c = false ∧ s.room c = true := ha 0 (by omega)
    unfold Sys.code
    rw [if_neg (by simp [h4.1]), if_pos h4.2]
    exact ih ha.shift
theorem Sys.code_alive : ∀ {N : Nat} {c : σ}, s.code N c = 0 → s.Alive c N := by
  intro N
  induction N with
  | zero => intro c _; exact Sys.Alive.zero _ _
  | succ N ih =>
    intro c h
    unfold Sys.code at h
    split at h
    · cases h
    · rename_i h1
      split at h
      · rename_i h2
        exact (ih h).cons (by simpa using h1) h2
      · cases h
end

end Go.Proofs.Ytokglpdlhacnaaa

/-
  What RunCyclicTag returns. No program is in sight.
-/
namespace Go.Proofs.Ytokglpdlhacnaaa
open Go.RowKit

def rctF (d : Int) (words : List (List Int)) (hs xs : List Int) (steps : Int) : List Int × Int × Int :=
  if tagCodeF d words hs xs = 0 then
    if inB steps 0 60 then
      if cycFitsB d.toNat words && decide (xs.length * words.length ≤ 1000) then
        if (tagSys d words hs).code steps.toNat xs = 0 then
          if (cycSys (cycWords d.toNat words)).code (steps.toNat * (words.length * d.toNat)) ⟨0, codesL words.length xs⟩ = 0 then
            ((tagSys d words hs).it xs steps.toNat, ((steps.toNat * (words.length * d.toNat) : Nat) : Int), 0)
          else ([], 0, 5)
        else ([], 0, (tagSys d words hs).code steps.toNat xs)
      else ([], 0, 5)
    else ([], 0, 2)
  else ([], 0, 1)
section
variable {d : Int} {words : List (List Int)} {hs xs : List Int} {steps : Int}
theorem rctF_bad (h : tagCodeF d words hs xs = 1) : rctF d words hs xs steps = ([], 0, 1) := by unfold rctF; rw [h]; simp
theorem rctF_range (h : tagCodeF d words hs xs = 0) (h1 : inB steps 0 60 = false) : rctF d words hs xs steps = ([], 0, 2) := by unfold rctF; rw [h, h1]; simp
theorem rctF_fits (h : tagCodeF d words hs xs = 0) (h1 : inB steps 0 60 = true) (h2 : (cycFitsB d.toNat words && decide (xs.length * words.length ≤ 1000)) = false) : rctF d words hs xs steps = ([], 0, 5) := by unfold rctF; rw [h, h1, h2]; simp
theorem rctF_code (h : tagCodeF d words hs xs = 0) (h1 : inB steps 0 60 = true) (h2 : (cycFitsB d.toNat words && decide (xs.length * words.length ≤ 1000)) = true) (h3 : (tagSys d words hs).code steps.toNat xs ≠ 0) : rctF d words hs xs steps = ([], 0, (tagSys d words hs).code steps.toNat xs) := by
  unfold rctF; rw [h, h1, h2]; simp [h3]
theorem rctF_full (h : tagCodeF d words hs xs = 0) (h1 : inB steps 0 60 = true) (h2 : (cycFitsB d.toNat words && decide (xs.length * words.length ≤ 1000)) = true) (h3 : (tagSys d words hs).code steps.toNat xs = 0) (h4 : (cycSys (cycWords d.toNat words)).code (steps.toNat * (words.length * d.toNat)) ⟨0, codesL words.length xs⟩ ≠ 0) : rctF d words hs xs steps = ([], 0, 5) := by
  unfold rctF; rw [h, h1, h2, h3]; simp [h4]
theorem rctF_ok (h : tagCodeF d words hs xs = 0) (h1 : inB steps 0 60 = true) (h2 : (cycFitsB d.toNat words && decide (xs.length * words.length ≤ 1000)) = true) (h3 : (tagSys d words hs).code steps.toNat xs = 0) (h4 : (cycSys (cycWords d.toNat words)).code (steps.toNat * (words.length * d.toNat)) ⟨0, codesL words.length xs⟩ = 0) : rctF d words hs xs steps = ((tagSys d words hs).it xs steps.toNat, ((steps.toNat * (words.length * d.toNat) : Nat) : Int), 0) := by
  unfold rctF; rw [h, h1, h2, h3, h4]; simp
end
theorem rctF_len (d : Int) (words : List (List Int)) (hs xs : List Int) (steps : Int) : (rctF d words hs xs steps).1.length ≤ 1048576 := by
  refine Nat.le_trans (?_ : _ ≤ 1000) (by decide)
  unfold rctF
  split
  · rename_i h
    split
    · split
      · split
        · rename_i h3
          split
          · exact (tagCode_parts (tagAlive_good h (Sys.code_alive h3))).2.2.2.1
          · simp
        · simp
      · simp
    · simp
  · simp
theorem turnOfWordF_at {dn : Nat} {words : List (List Int)} {hs xs : List Int} (h : tagCodeF (dn : Int) words hs xs = 0) : turnOfWordF (dn : Int) words hs xs = if (cycFitsB dn words && decide (xs.length * words.length ≤ 1000)) = true then (⟨0, codesL words.length xs⟩, 0) else (⟨0, []⟩, 5) := by
  unfold turnOfWordF; rw [h]; simp
theorem unitL_bits {n x : Nat} : ∀ y ∈ unitL n x, 0 ≤ y ∧ y ≤ 1 := by
  intro y hy
  obtain ⟨k, _, rfl⟩ := List.mem_map.1 hy
  split <;> omega
theorem codesL_bits {n : Nat} {v : List Int} : ∀ y ∈ codesL n v, 0 ≤ y ∧ y ≤ 1 := by
  intro y hy
  obtain ⟨x, _, h⟩ := List.mem_flatMap.1 hy
  exact unitL_bits y h
theorem codesL_ok {n : Nat} {v : List Int} (h : v.length * n ≤ 1000) : tagWordB (codesL n v) 2 = true := by
  unfold tagWordB allIn
  simp only [Bool.and_eq_true, decide_eq_true_eq, List.all_eq_true, inB_iff]
  exact ⟨by rw [codesL_len]; exact h, fun y hy => by have := codesL_bits y hy; omega⟩
theorem cyc_valid {d : Nat} {words : List (List Int)} {xs : List Int} (hd : 1 ≤ d) (hw : 1 ≤ words.length) (h : (cycFitsB d words && decide (xs.length * words.length ≤ 1000)) = true) : validTurnB (cycWords d words) ⟨0, codesL words.length xs⟩ = true := by
  unfold cycFitsB at h
  simp only [Bool.and_eq_true, decide_eq_true_eq, List.all_eq_true] at h
  obtain ⟨⟨h1, h2⟩, h3⟩ := h
  have hl := cycWords_len hd words
  have h4 : 1 ≤ words.length * d := Nat.mul_pos hw hd
  unfold validTurnB validCyclB wordsB
  simp only [Bool.and_eq_true, inB_iff, List.all_eq_true]
  rw [hl]
  refine ⟨⟨⟨by omega, fun v hv => ?_⟩, by show (0 : Int) ≤ 0 ∧ (0 : Int) ≤ _; omega⟩, codesL_ok h3⟩
  unfold cycWords at hv
  rcases List.mem_append.1 hv with hv | hv
  · obtain ⟨u, hu, rfl⟩ := List.mem_map.1 hv
    exact codesL_ok (h2 u hu)
  · obtain ⟨_, rfl⟩ := List.mem_replicate.1 hv
    rfl
end Go.Proofs.Ytokglpdlhacnaaa

/-
  The plain law behind FnCyclicTags: short tag systems run for a few steps. No program is in sight.
-/
namespace Go.Proofs.Ytokglpdlhacnaaa
open Go.RowKit

/-- A tag system that R8Tag may draw, with a word. -/
structure Small (d : Nat) (words : List (List Int)) (hs xs : List Int) : Prop where
  d1 : 1 ≤ d
  d3 : d ≤ 3
  n1 : 1 ≤ words.length
  n4 : words.length ≤ 4
  row : ∀ v ∈ words, v.length ≤ 3
  code : tagCodeF (d : Int) words hs xs = 0
  short : xs.length ≤ 7
section
variable {d : Nat} {words : List (List Int)} {hs xs : List Int}
theorem tagWordOf_len (h : ∀ v ∈ words, v.length ≤ 3) (ys : List Int) : (tagWordOf words ys).length ≤ 3 := by
  unfold tagWordOf
  rw [List.getD_eq_getElem?_getD]
  cases e : words[(ys.headD 0).toNat]? with
  | none => simp
  | some v => simpa using h v (List.mem_of_getElem? e)
theorem Small.it_len (h : Small d words hs xs) (i : Nat) : ((tagSys (d : Int) words hs).it xs i).length ≤ 7 + 3 * i := by
  induction i with
  | zero => exact h.short
  | succ i ih =>
    have e : (tagSys (d : Int) words hs).it xs (i + 1) = ((tagSys (d : Int) words hs).it xs i ++ tagWordOf words ((tagSys (d : Int) words hs).it xs i)).drop (d : Int).toNat := rfl
    have h1 := tagWordOf_len h.row ((tagSys (d : Int) words hs).it xs i)
    rw [e, List.length_drop, List.length_append]
    omega
theorem Small.room (h : Small d words hs xs) (i : Nat) (hi : i ≤ 6) : (tagSys (d : Int) words hs).room ((tagSys (d : Int) words hs).it xs i) = true := by
  have h1 := h.it_len i
  have h2 := tagWordOf_len h.row ((tagSys (d : Int) words hs).it xs i)
  have e : (tagSys (d : Int) words hs).room ((tagSys (d : Int) words hs).it xs i) = decide (((tagSys (d : Int) words hs).it xs i ++ tagWordOf words ((tagSys (d : Int) words hs).it xs i)).length ≤ 1000) := rfl
  rw [e, decide_eq_true_eq, List.length_append]
  omega
/-- A run of few steps ends. -/
theorem Small.ended (h : Small d words hs xs) : ∀ N, N ≤ 6 → ∃ i, i ≤ N ∧ (tagSys (d : Int) words hs).Ended xs N i := by
  intro N
  induction N with
  | zero => intro _; exact ⟨0, Nat.le_refl _, Nat.le_refl _, Sys.Alive.zero _ _, .inl rfl⟩
  | succ N ih =>
    intro hN
    obtain ⟨i, hi, h1, h2, h3⟩ := ih (by omega)
    by_cases hh : (tagSys (d : Int) words hs).halt ((tagSys (d : Int) words hs).it xs i) = true
    · exact ⟨i, by omega, by omega, h2, .inr hh⟩
    · rcases h3 with rfl | h3
      · exact ⟨i + 1, Nat.le_refl _, Nat.le_refl _, h2.step (by simpa using hh) (h.room i (by omega)), .inl rfl⟩
      · exact absurd h3 hh
theorem codes_row {v : List Int} (h : Small d words hs xs) (hv : v ∈ cycWords d words) : v.length ≤ 12 := by
  unfold cycWords at hv
  rcases List.mem_append.1 hv with hv | hv
  · obtain ⟨u, hu, rfl⟩ := List.mem_map.1 hv
    rw [codesL_len]
    have h1 := h.row u hu
    have h2 := h.n4
    calc u.length * words.length ≤ 3 * 4 := Nat.mul_le_mul h1 h2
      _ = 12 := rfl
  · obtain ⟨_, rfl⟩ := List.mem_replicate.1 hv
    simp
theorem cycNext_grow {ws : List (List Int)} (h : ∀ v ∈ ws, v.length ≤ 12) (x : Tu) : (cycNext ws x).word.length ≤ x.word.length + 12 := by
  have h1 : (ws.getD x.at_.toNat []).length ≤ 12 := by
    rw [List.getD_eq_getElem?_getD]
    cases e : ws[x.at_.toNat]? with
    | none => simp
    | some v => simpa using h v (List.mem_of_getElem? e)
  have h3 : (cycWord ws x).length ≤ 12 := by unfold cycWord; split <;> simp_all
  unfold cycNext
  dsimp only
  rw [List.length_append]
  have h2 : x.word.tail.length ≤ x.word.length := by simp
  omega
theorem cyc_it_len {ws : List (List Int)} (h : ∀ v ∈ ws, v.length ≤ 12) (x : Tu) (k : Nat) : ((cycSys ws).it x k).word.length ≤ x.word.length + 12 * k := by
  induction k with
  | zero => exact Nat.le_refl _
  | succ k ih =>
    have h1 := cycNext_grow h ((cycSys ws).it x k)
    have e : (cycSys ws).it x (k + 1) = cycNext ws ((cycSys ws).it x k) := rfl
    rw [e]
    omega
theorem Small.steps (h : Small d words hs xs) {i : Nat} (hi : i ≤ 5) : i * (words.length * d) ≤ 60 := by
  have h1 : words.length * d ≤ 4 * 3 := Nat.mul_le_mul h.n4 h.d3
  calc i * (words.length * d) ≤ 5 * (4 * 3) := Nat.mul_le_mul hi h1
    _ = 60 := rfl
theorem Small.fits (h : Small d words hs xs) {ys : List Int} (hy : ys.length ≤ 30) : (cycFitsB d words && decide (ys.length * words.length ≤ 1000)) = true := by
  have h1 : words.length * d ≤ 4 * 3 := Nat.mul_le_mul h.n4 h.d3
  unfold cycFitsB
  simp only [Bool.and_eq_true, decide_eq_true_eq, List.all_eq_true]
  refine ⟨⟨by omega, fun v hv => ?_⟩, ?_⟩
  · have := Nat.mul_le_mul (h.row v hv) h.n4
    omega
  · have := Nat.mul_le_mul hy h.n4
    omega
theorem Small.rct (h : Small d words hs xs) {i : Nat} (hi : i ≤ 5) (ha : (tagSys (d : Int) words hs).Alive xs i) : rctF (d : Int) words hs xs (i : Int) = ((tagSys (d : Int) words hs).it xs i, ((i * (words.length * d) : Nat) : Int), 0) := by
  obtain ⟨s1, s2⟩ := cyc_steps h.d1 h.code i ha
  have hal : (cycSys (cycWords d words)).Alive ⟨0, codesL words.length xs⟩ (i * (words.length * d)) := by
    intro k hk
    refine ⟨?_, ?_⟩
    · have e : (cycSys (cycWords d words)).halt ((cycSys (cycWords d words)).it ⟨0, codesL words.length xs⟩ k) = decide (((cycSys (cycWords d words)).it ⟨0, codesL words.length xs⟩ k).word.length = 0) := rfl
      rw [e, decide_eq_false_iff_not]
      exact s2 k hk
    · have h1 := cyc_it_len (fun v hv => codes_row h hv) ⟨0, codesL words.length xs⟩ (k + 1)
      have e : (cycSys (cycWords d words)).room ((cycSys (cycWords d words)).it ⟨0, codesL words.length xs⟩ k) = decide (((cycSys (cycWords d words)).it ⟨0, codesL words.length xs⟩ (k + 1)).word.length ≤ 1000) := rfl
      rw [e, decide_eq_true_eq]
      have h2 : (codesL words.length xs).length ≤ 7 * 4 := by rw [codesL_len]; exact Nat.mul_le_mul h.short h.n4
      have h3 := h.steps hi
      dsimp only at h1
      omega
  have hf := rctF_ok (d := (d : Int)) (words := words) (hs := hs) (xs := xs) (steps := (i : Int)) h.code (by rw [inB_iff]; omega) (by simpa using h.fits (ys := xs) (by have := h.short; omega)) (by simpa using Sys.code_ok ha) (by simpa using Sys.code_ok hal)
  simpa using hf
theorem Small.turn (h : Small d words hs xs) {i : Nat} (hi : i ≤ 5) (ha : (tagSys (d : Int) words hs).Alive xs i) : turnOfWordF (d : Int) words hs ((tagSys (d : Int) words hs).it xs i) = (⟨0, codesL words.length ((tagSys (d : Int) words hs).it xs i)⟩, 0) := by
  rw [turnOfWordF_at (tagAlive_good h.code ha), if_pos (h.fits (by have := h.it_len i; omega))]
end
end Go.Proofs.Ytokglpdlhacnaaa

/-
  The reference's R8Tag: a small tag system and a word.
-/
namespace Go.Proofs.Ytokglpdlhacnaaa
open Go.RowKit

theorem Kb.set_hi {b : Nat} {a W : World} (h : Kb b a W) {p : Addr} (hp : a.heap.size ≤ p.block) (u : Value) : Kb b a (W.setCell p u) :=
  ⟨h.os, h.tape, h.output, by simpa [World.setCell] using h.size, fun k hk hy => (Below.heap_setCell W p u k (by omega)).trans (h.block k hk hy)⟩
def DrewTag (w : World) (e : Ending) (w' : World) : Prop :=
  ∃ (d : Nat) (A : Option Addr) (c : Nat) (ts : List Sl) (B : Option Addr) (k : Nat) (hs : List Int) (C : Option Addr) (r : Nat) (xs : List Int),
    e = .returned (.tuple #[.agg #[.int .i64 (d : Int), .slice A ts.length c, .slice B hs.length k], .slice C xs.length r]) ∧ OII w' w.heap.size 27 2 A ts.length c ts ∧
    Own w' w.heap.size 2 1 B hs.length k (ints hs) ∧ Own w' w.heap.size 2 1 C xs.length r (ints xs) ∧ Small d (nums ts) hs xs ∧ Below w.heap.size w w'
theorem small_of {d M : Nat} {us : List Sl} {hs xs : List Int} (hd1 : 1 ≤ d) (hd3 : d ≤ 3) (hM1 : 1 ≤ M) (hM4 : M ≤ 4) (hu : us.length = M) (ho : OkW 3 (M : Int) us) (hh : hs = [] ∨ ∃ x, hs = [x] ∧ 0 ≤ x ∧ x < (M : Int)) (hxl : xs.length ≤ 7) (hx : ∀ x ∈ xs, 0 ≤ x ∧ x < (M : Int)) : Small d (nums us) hs xs := by
  have hl : (nums us).length = M := by simpa [nums] using hu
  refine ⟨hd1, hd3, by omega, by omega, fun v hv => ?_, ?_, hxl⟩
  · obtain ⟨u, hu, rfl⟩ := List.mem_map.1 hv
    exact (ho u hu).1
  · rw [tagCode_zero, hl]
    have h1 : wordsB (nums us) (M : Int) = true := by
      unfold wordsB tagWordB allIn
      simp only [List.all_eq_true, Bool.and_eq_true, decide_eq_true_eq, inB_iff]
      intro v hv
      obtain ⟨u, hu, rfl⟩ := List.mem_map.1 hv
      obtain ⟨h2, h3⟩ := ho u hu
      exact ⟨by omega, fun y hy => by have := h3 y hy; omega⟩
    refine ⟨?_, ?_⟩
    · unfold validTagB
      rw [hl, h1]
      have h4 : risesB hs = true := by
        unfold risesB
        rcases hh with rfl | ⟨x, rfl, _⟩ <;> simp
      have h5 : allIn hs 0 ((M : Int) - 1) = true := by
        unfold allIn
        simp only [List.all_eq_true, inB_iff]
        rcases hh with rfl | ⟨x, rfl, h6, h7⟩
        · simp
        · intro y hy
          rw [List.mem_singleton.1 hy]; omega
      rw [h4, h5, (inB_iff _ _ _).2 ⟨by omega, by omega⟩, (inB_iff _ _ _).2 ⟨by omega, by omega⟩]
      rfl
    · unfold tagWordB allIn
      simp only [List.all_eq_true, Bool.and_eq_true, decide_eq_true_eq, inB_iff]
      exact ⟨by omega, fun y hy => by have := hx y hy; omega⟩
theorem drew_done {w w4 V wr : World} {l3 g dc hc f d : Nat} {D H F : Option Addr} {us : List Sl} {zs ys : List Int} (hw : w.heap.size < l3) (hg : g < l3) (hgw : w.heap.size < g) (hU : OII w4 l3 27 2 D us.length dc us) (hKv : Kb g w4 V) (hO : Own V l3 2 1 H zs.length hc (ints zs)) (hZ : Below w.heap.size w V)
    (hK : Kb g V wr) (hF : Own wr V.heap.size 2 1 F ys.length f (ints ys)) (hV : l3 ≤ V.heap.size) (hs : Small d (nums us) zs ys) (a b c : Value) :
    DrewTag w (.returned (.tuple #[.agg #[.int .i64 (d : Int), .slice D us.length dc, .slice H zs.length hc], .slice F ys.length f])) (((wr.setCell ⟨w.heap.size, 0, none⟩ a).setCell ⟨w.heap.size, 1, none⟩ b).setCell ⟨w.heap.size, 2, none⟩ c) := by
  have k : Kb w.heap.size wr (((wr.setCell ⟨w.heap.size, 0, none⟩ a).setCell ⟨w.heap.size, 1, none⟩ b).setCell ⟨w.heap.size, 2, none⟩ c) := (((Kb.refl _ _).set_ 0 _).set_ 1 _).set_ 2 _
  refine ⟨d, D, dc, us, H, hc, zs, F, f, ys, rfl, ?_, ?_, ?_, hs, ?_⟩
  · exact ((hU.kb (hKv.trans hK) hg).kb k hw).mono (by omega)
  · exact (k.own' (hK.own' hO hg) hw).mono (by omega)
  · exact (k.own' hF (by omega)).mono (by omega)
  · exact (((hK.below hZ (by omega)).setCell (Nat.le_refl _) _).setCell (Nat.le_refl _) _).setCell (Nat.le_refl _) _
set_option maxRecDepth 100000 in
set_option maxHeartbeats 400000 in
theorem r8Tag_any (A : Option Addr) (n c : Nat) (xs : List Int) (w : World) (hx : SB w A n xs) (hA : ∀ k, blk A = some k → k < w.heap.size) (hn : n ≤ 9223372036854775807) :
    Calls Try.prog 33 #[.slice A n c] w (DrewTag w) := by
  have HX := Lib.hid hx
  have HA := Lib.hid hA
  clear hx hA
  obtain ⟨W, hW_⟩ : ∃ W, W = w.alloc (.cells #[.int .i64 0, .slice none 0 0, .slice none 0 0] 70) := ⟨_, rfl⟩
  have b0 : Blk W w.heap.size 70 #[.int .i64 0, .slice none 0 0, .slice none 0 0] := by rw [hW_]; exact Blk.new w _ _
  have y0 : Below w.heap.size w W := by rw [hW_]; exact (Below.refl _ _).alloc (Nat.le_refl _) _
  have HW := Lib.hid hW_
  clear hW_
  obtain ⟨g, hg⟩ : ∃ g, g = W.heap.size := ⟨_, rfl⟩
  have HG : Hid (w.heap.size < g) := Lib.hid (by rw [hg]; exact b0.lt)
  have HAg : Hid (∀ k, blk A = some k → k ≠ g) := Lib.hid (fun k hk => by have := HA.out k hk; have := HG.out; omega)
  go_enter Try.func33, Try.ntmps33
  go_wp2_with fail
  rw [← HW.out]
  refine (from_any A n c W).mono ?_
  rintro e1 w1 ⟨rfl, hs1, z1⟩
  rw [← hg] at hs1 ⊢
  have B1 := Lib.hid (b0.below' z1)
  have Z1 := Lib.hid (y0.trans (z1.mono y0.size))
  have HX1 := Lib.hid (HX.out.below Z1.out)
  clear b0 y0 z1 hg
  go_wp2_with fail
  refine (pick_any g A n c 0 xs 4 _ HX1.out HAg.out hs1 (by omega) hn (by omega) (by omega)).mono ?_
  rintro e2 w2 ⟨x, rfl, hx0, hx1, hs2, hk2⟩
  have HX2 := Lib.hid (HX1.out.kb hk2 HAg.out)
  have B2 := Lib.hid (hk2.blk_ B1.out (by have := HG.out; omega))
  have Z2 := Lib.hid (hk2.below Z1.out (by have := HG.out; omega))
  obtain ⟨N, rfl⟩ : ∃ N : Nat, x = (N : Int) := ⟨x.toNat, by omega⟩
  have hN : N ≤ 3 := by omega
  obtain ⟨M, hM⟩ : ∃ M : Nat, (1 : Int) + (N : Int) = (M : Int) := ⟨N + 1, by omega⟩
  have HM := Lib.hid hM
  have hM1 : 1 ≤ M := by omega
  have hM4 : M ≤ 4 := by omega
  clear hx0 hx1 hk2 hs1 HX1 B1 Z1 hM
  go_wp2_with fail
  rw [HM.out]
  refine (pick_any g A n c 2 xs 3 _ HX2.out HAg.out hs2 (by omega) hn (by omega) (by omega)).mono ?_
  rintro e3 w3 ⟨x, rfl, hx0, hx1, hs3, hk3⟩
  have HX3 := Lib.hid (HX2.out.kb hk3 HAg.out)
  have B3 := Lib.hid (hk3.blk_ B2.out (by have := HG.out; omega))
  have Z3 := Lib.hid (hk3.below Z2.out (by have := HG.out; omega))
  obtain ⟨d0, rfl⟩ : ∃ d0 : Nat, x = (d0 : Int) := ⟨x.toNat, by omega⟩
  have hd0 : d0 ≤ 2 := by omega
  obtain ⟨E, hE⟩ : ∃ E : Nat, (1 : Int) + (d0 : Int) = (E : Int) := ⟨d0 + 1, by omega⟩
  have HE := Lib.hid hE
  have hE1 : 1 ≤ E := by omega
  have hE3 : E ≤ 3 := by omega
  have HGW : Hid (g < w3.heap.size) := Lib.hid (by obtain ⟨_, _, _, _, _, h⟩ := hs3; exact h.lt)
  clear hx0 hx1 hk3 hs2 HX2 B2 Z2 hE
  go_wp2_with fail
  rw [HE.out]
  refine (drawWords_any g A n c 4 xs M 3 (M : Int) _ HX3.out HAg.out hs3 HGW.out (by omega) hn (by omega) (by omega) (by omega) (by omega)).mono ?_
  rintro e4 w4 ⟨D, dc, us, rfl, hU, hul, hok, hs4, hk4⟩
  have HX4 := Lib.hid (HX3.out.kb hk4 HAg.out)
  have B4 := Lib.hid (hk4.blk_ B3.out (by have := HG.out; omega))
  have Z4 := Lib.hid (hk4.below Z3.out (by have := HG.out; omega))
  obtain ⟨l3, hl3⟩ : ∃ l, l = w3.heap.size := ⟨_, rfl⟩
  have HL3 : Hid (w.heap.size ≤ l3 ∧ g < l3 ∧ l3 ≤ w4.heap.size) := Lib.hid (by rw [hl3]; exact ⟨Z3.out.size, HGW.out, hk4.size⟩)
  have hU4 := hU
  rw [← hl3] at hU4
  clear hl3
  have HS4 := Lib.hid hs4
  have HOK := Lib.hid hok
  have HUL := Lib.hid hul
  clear hU hk4 hs3 HX3 B3 Z3 hs4 hok hul HE
  have HU4 := Lib.hid hU4
  have KK0 : Hid (Kb g w4 w4) := Lib.hid (Kb.refl g w4)
  clear hU4
  obtain ⟨W5, hW_⟩ : ∃ W, W = (w4.alloc (.cells #[] 2)).alloc (.cells #[.int .i64 (E : Int), .slice D us.length dc, .slice (some ⟨w4.heap.size, 0, none⟩) 0 0] 70) := ⟨_, rfl⟩
  have s_1 : (w4.alloc (.cells #[] 2)).heap.size = w4.heap.size + 1 := by simp
  have c0 : Blk W5 w4.heap.size 2 #[] := by rw [hW_]; exact (Blk.new w4 _ _).alloc _
  have c1 : Blk W5 (w4.heap.size + 1) 70 #[.int .i64 (E : Int), .slice D us.length dc, .slice (some ⟨w4.heap.size, 0, none⟩) 0 0] := by rw [hW_, ← s_1]; exact Blk.new _ _ _
  have y5 : Below w4.heap.size w4 W5 := by rw [hW_]; exact ((Below.refl _ _).alloc (Nat.le_refl _) _).alloc (by simp) _
  have HW5 := Lib.hid hW_
  clear hW_ s_1
  go_upto_region 4 with fail
  rw [← HW5.out]
  have HX5 := Lib.hid (HX4.out.below y5)
  have B5 := Lib.hid (B4.out.below' y5)
  have Z5 := Lib.hid (Z4.out.trans (y5.mono Z4.out.size))
  have KK5 : Hid (Kb g w4 W5) := Lib.hid (Kb.of_below y5)
  have HS5 := Lib.hid (HS4.out.below y5)
  have O5 : Hid (Own W5 l3 2 1 (some ⟨w4.heap.size, 0, none⟩) 0 0 (ints [])) := Lib.hid (Blk.owns (n := 0) (s := 1) c0 rfl (by simp [maxLen]) HL3.out.2.2)
  have HT : Hid (w.heap.size < w4.heap.size + 1 ∧ g < w4.heap.size + 1) := Lib.hid (by have := Z4.out.size; have := B4.out.lt; obtain ⟨_, _, _, _, _, h⟩ := HS4.out; have := h.lt; omega)
  have C1 := Lib.hid c1
  clear HX4 B4 HS4 y5 c0 c1 HW5 KK0
  go_wp2_with fail
  refine (one_any g A n c (4 + M * 100) xs 2 _ HX5.out HAg.out HS5.out (by omega) hn (by omega) (by omega)).mono ?_
  rintro e6 w6 ⟨y, rfl, hs6, hk6⟩
  have HX6 := Lib.hid (HX5.out.kb hk6 HAg.out)
  have B6 := Lib.hid (hk6.blk_ B5.out (by have := HG.out; omega))
  have C6 := Lib.hid (hk6.blk_ C1.out (by have := HT.out; omega))
  have Z6 := Lib.hid (hk6.below Z5.out (by have := HG.out; omega))
  have KK6 := Lib.hid (KK5.out.trans hk6)
  have O6 := Lib.hid (hk6.own' O5.out HL3.out.2.1)
  have HS6 := Lib.hid hs6
  clear hk6 hs6 HX5 B5 C1 Z5 O5 HS5 KK5
  go_upto_region 6 with fail
  refine (pick_any g A n c (4 + M * 100 + 2) xs (M : Int) _ HX6.out HAg.out HS6.out (by omega) hn (by omega) (by omega)).mono ?_
  rintro e7 w7 ⟨x, rfl, hx0, hx1, hs7, hk7⟩
  have HX7 := Lib.hid (HX6.out.kb hk7 HAg.out)
  have B7 := Lib.hid (hk7.blk_ B6.out (by have := HG.out; omega))
  have c7 := hk7.blk_ C6.out (by have := HT.out; omega)
  have Z7 := Lib.hid (hk7.below Z6.out (by have := HG.out; omega))
  have KK7 := Lib.hid (KK6.out.trans hk7)
  have HS7 := Lib.hid hs7
  have hl7 : l3 ≤ w7.heap.size := by have := HL3.out; have := hk7.size; have := HT.out; have := C6.out.lt; omega
  clear hk7 hs7 HX6 B6 C6 Z6 O6 HS6 KK6
  have c8 : Blk (w7.alloc (.cells #[.int .i64 x] 2)) (w4.heap.size + 1) 70 _ := c7.alloc _
  have n8 : Blk (w7.alloc (.cells #[.int .i64 x] 2)) w7.heap.size 2 _ := Blk.new w7 _ _
  have f8 := c7.frozen 2
  have k8 : w7.cell? ⟨w4.heap.size + 1, 2, none⟩ = some (.slice (some ⟨w4.heap.size, 0, none⟩) 0 0) := c7.cell 2
  have hg8 : w4.heap.size + 1 < w7.heap.size := c7.lt
  have hn8 : ¬ w4.heap.size + 1 = w7.heap.size := by omega
  have f9 : (w7.alloc (.cells #[.int .i64 x] 2)).frozen? ⟨w4.heap.size + 1, 2, none⟩ = false := c8.frozen 2
  have k9 : (w7.alloc (.cells #[.int .i64 x] 2)).cell? ⟨w4.heap.size + 1, 2, none⟩ = some (.slice (some ⟨w4.heap.size, 0, none⟩) 0 0) := c8.cell 2
  go_upto_region 6 with fail
  obtain ⟨V, hV⟩ : ∃ V, V = (w7.setCell ⟨w4.heap.size + 1, 2, none⟩ (.slice (some ⟨w7.heap.size, 0, none⟩) 1 1)).alloc (.cells #[.int .i64 x] 2) := ⟨_, rfl⟩
  rw [← hV]
  have KV : Kb (w4.heap.size + 1) w7 V := by rw [hV]; exact ((Kb.refl _ w7).set_ 2 _).alloc _
  obtain ⟨H, hc, zs, Cv, Ov, hz⟩ : ∃ (H : Option Addr) (hc : Nat) (zs : List Int), Blk V (w4.heap.size + 1) 70 #[.int .i64 (E : Int), .slice D us.length dc, .slice H zs.length hc] ∧ Own V l3 2 1 H zs.length hc (ints zs) ∧ (zs = [] ∨ ∃ x, zs = [x] ∧ 0 ≤ x ∧ x < (M : Int)) := by
    have q8 : (w7.setCell ⟨w4.heap.size + 1, 2, none⟩ (.slice (some ⟨w7.heap.size, 0, none⟩) 1 1)).heap.size = w7.heap.size := by simp [World.setCell]
    have n9 : Blk V w7.heap.size 2 #[.int .i64 x] := by
        have h9 := Blk.new (w7.setCell ⟨w4.heap.size + 1, 2, none⟩ (.slice (some ⟨w7.heap.size, 0, none⟩) 1 1)) 2 #[.int .i64 x]
        rw [q8] at h9
        rw [hV]; exact h9
    exact ⟨some ⟨w7.heap.size, 0, none⟩, 1, [x], by rw [hV]; exact (c7.set_ 2 _).alloc _, Blk.owns (n := 1) (s := 1) n9 rfl (by simp [maxLen]) hl7, .inr ⟨x, rfl, hx0, by omega⟩⟩
  have Zv : Below w.heap.size w V := by
    rw [hV]; exact (Z7.out.setCell (p := ⟨w4.heap.size + 1, 2, none⟩) (by have := HT.out; show w.heap.size ≤ w4.heap.size + 1; omega) _).alloc (by have := Z7.out.size; simpa [World.setCell] using this) _
  have KKv : Kb g w4 V := by rw [hV]; exact (KK7.out.set_hi (p := ⟨w4.heap.size + 1, 2, none⟩) (Nat.le_succ _) _).alloc _
  have Bv := KV.blk_ B7.out (by have := HT.out; omega)
  have Hv := HX7.out.kb KV (fun k hk => by have := HA.out k hk; have := HT.out; omega)
  have Sv : Src g A n c (4 + M * 100 + 4) V := by
    obtain ⟨a, s, q1, q2, q3, q4⟩ := HS7.out
    exact ⟨a, s, by omega, q2, q3, KV.blk_ q4 (by have := HT.out; omega)⟩
  clear hV KV HX7 B7 c7 Z7 KK7 HS7 hl7 c8 n8 f8 k8 hg8 hn8 f9 k9 hx0 hx1
  rotate_left
  obtain ⟨V, hV⟩ : ∃ V, V = w6 := ⟨_, rfl⟩
  rw [← hV] at KK6 HX6 B6 C6 Z6 O6 HS6 ⊢
  obtain ⟨H, hc, zs, Cv, Ov, hz⟩ : ∃ (H : Option Addr) (hc : Nat) (zs : List Int), Blk V (w4.heap.size + 1) 70 #[.int .i64 (E : Int), .slice D us.length dc, .slice H zs.length hc] ∧ Own V l3 2 1 H zs.length hc (ints zs) ∧ (zs = [] ∨ ∃ x, zs = [x] ∧ 0 ≤ x ∧ x < (M : Int)) :=
    ⟨some ⟨w4.heap.size, 0, none⟩, 0, [], C6.out, O6.out, .inl rfl⟩
  have Zv := Z6.out
  have KKv := KK6.out
  have Bv := B6.out
  have Hv := HX6.out
  have Sv : Src g A n c (4 + M * 100 + 4) V := HS6.out.le (by omega)
  clear hV KK6 HX6 B6 C6 Z6 O6 HS6
  all_goals
    obtain ⟨W2, hW_⟩ : ∃ W_, W_ = V.alloc (.cells #[] 2) := ⟨_, rfl⟩
    have b2 : Blk W2 V.heap.size 2 #[] := by rw [hW_]; exact Blk.new V _ _
    have z2 : Below V.heap.size V W2 := by rw [hW_]; exact (Below.refl _ _).alloc (Nat.le_refl _) _
    have HW2 := Lib.hid hW_
    clear hW_
    have o2 : Own W2 V.heap.size 2 1 (some ⟨V.heap.size, 0, none⟩) 0 0 (ints []) := Blk.owns (n := 0) (s := 1) b2 rfl (by simp [maxLen]) (Nat.le_refl _)
    have HCv := Lib.hid Cv
    have HOv := Lib.hid Ov
    have HZv := Lib.hid Zv
    have HKv := Lib.hid KKv
    have HBv := Lib.hid Bv
    have HHv := Lib.hid Hv
    have HSv := Lib.hid (Sv.below z2)
    have HKz := Lib.hid (Kb.of_below (b := g) z2)
    have Hhz := Lib.hid hz
    have HX2 := Lib.hid (Hv.below z2)
    clear Cv Ov Zv KKv Bv Hv Sv hz z2 b2
    go_upto_region 7 with fail
    rw [← HW2.out]
    clear HW2
    go_wp2_with fail
    refine (pick_any g A n c (4 + M * 100 + 4) xs 8 _ HX2.out HAg.out HSv.out (by omega) hn (by omega) (by omega)).mono ?_
    rintro e8 w8 ⟨x8, rfl, hx80, hx81, hs8, hk8⟩
    obtain ⟨q0, rfl⟩ : ∃ q0 : Nat, x8 = (q0 : Int) := ⟨x8.toNat, by omega⟩
    have hq0 : q0 ≤ 7 := by omega
    have HS8 := Lib.hid hs8
    have HK8 := Lib.hid (HKz.out.trans hk8)
    have o8 := Lib.hid (hk8.own' o2 (by have := HKv.out.size; have := HL3.out; omega))
    clear hs8 hk8 hx80 hx81 HKz HX2 HSv o2
    go_wp2_with fail
    go_loopw [7, 8] (fun v k wr => ∃ (q : Nat) (F : Option Addr) (f : Nat) (ys : List Int), q ≤ q0 ∧ k = .int .i64 (q : Int) ∧ v = .slice F ys.length f ∧ Own wr V.heap.size 2 1 F ys.length f (ints ys) ∧ Hid (ys.length + q = q0) ∧ Hid (∀ x ∈ ys, 0 ≤ x ∧ x < (M : Int)) ∧ Hid (Src g A n c (4 + M * 100 + 4 + 2 + 2 * ys.length) wr) ∧ Hid (Kb g V wr)) (fun _ k _ => (intOf k).toNat)
    case atStart => exact ⟨q0, _, 0, [], Nat.le_refl _, rfl, rfl, o8.out, Lib.hid (by simp), Lib.hid (by simp), HS8, HK8⟩
    case round =>
      obtain ⟨q, F, f, ys, hq, rfl, rfl, hF, HQ, HY, HSq, HKq⟩ := hrel
      clear o8 HS8 HK8
      have hVg : Hid (g < V.heap.size) := Lib.hid (by have := HKv.out.size; have := HL3.out; omega)
      by_cases hq1 : 0 < q
      · have hyl : ys.length ≤ 7 := by have := HQ.out; omega
        have HXq := Lib.hid (HHv.out.kb HKq.out HAg.out)
        go_wp2_with fail
        refine (pick_any g A n c (4 + M * 100 + 4 + 2 + 2 * ys.length) xs (M : Int) _ HXq.out HAg.out HSq.out (by omega) hn (by omega) (by omega)).mono ?_
        rintro e1 w1 ⟨y1, rfl, hy0, hy1, hs1, hk1⟩
        have hE1 := hk1.own' hF hVg.out
        have HK4 := Lib.hid (HKq.out.trans hk1)
        have HS4 := Lib.hid hs1
        have HYY : Hid (∀ x ∈ ys ++ [y1], 0 ≤ x ∧ x < (M : Int)) := Lib.hid (by
          intro x hx
          rcases List.mem_append.1 hx with h | h
          · exact HY.out x h
          · rw [List.mem_singleton.1 h]; exact ⟨hy0, by omega⟩)
        clear hs1 hk1 hy1 hy0
        go_wp2_with (at_builtin; refine wpList_append_Own rfl (.tmp 37) (.tmp 41) rfl elI (lo := V.heap.size) rfl (hE1.alloc _) rfl (Rd.new1 _ (.int .i64 y1) _) (by simp [Value.oneCell']) (by omega) (by simp only [maxLen]; omega) (by have := HK4.out.size; simp; omega) ?_; intro A5 c5 W9 o5 hg5 hw5)
        have HK5 : Hid (Kb g V W9) := Lib.hid ((HK4.out.alloc _).grown (hE1.alloc _) (Nat.le_refl _) hg5)
        have HS5 : Hid (Src g A n c (4 + M * 100 + 4 + 2 + 2 * (ys ++ [y1]).length) W9) := Lib.hid (by
          rw [List.length_append]
          exact ((HS4.out.alloc _).grown (hE1.alloc _) hVg.out hg5).le (by simp; omega))
        have o6 : Own W9 V.heap.size 2 1 A5 (ys ++ [y1]).length c5 (ints (ys ++ [y1])) := by
          rw [List.length_append, ← ints_append]; exact o5
        have HLL : Hid (ys.length + 1 = (ys ++ [y1]).length) := Lib.hid (by rw [List.length_append]; rfl)
        have HQ5 : Hid ((ys ++ [y1]).length + (q - 1) = q0) := Lib.hid (by rw [← HLL.out]; have := HQ.out; omega)
        go_wp2_with fail
        go_roundw
        case rel => exact ⟨q - 1, A5, c5, ys ++ [y1], by omega, by go_num, by rw [← HLL.out], o6, HQ5, HYY, HS5, HK5⟩
        case measure => simp [intOf]; omega
      · obtain rfl : q = 0 := by omega
        have hxl : ys.length ≤ 7 := by have := HQ.out; omega
        have Ce := HKq.out.blk_ HCv.out (by have := HT.out; omega)
        have Be := HKq.out.blk_ HBv.out (by have := HG.out; omega)
        have q0 : wr.cell? ⟨(w4.heap.size + 1), 0, none⟩ = some (.int .i64 (E : Int)) := Ce.cell 0
        have q1 : wr.cell? ⟨(w4.heap.size + 1), 1, none⟩ = some (.slice D us.length dc) := Ce.cell 1
        have q2 : wr.cell? ⟨(w4.heap.size + 1), 2, none⟩ = some (.slice H zs.length hc) := Ce.cell 2
        have f0 := Be.frozen 0
        have f1 := Be.frozen 1
        have f2 := Be.frozen 2
        have hgb : w.heap.size < wr.heap.size := Be.lt
        have p0 : wr.cell? ⟨w.heap.size, 0, none⟩ = some (.int .i64 0) := Be.cell 0
        have p1 : wr.cell? ⟨w.heap.size, 1, none⟩ = some (.slice none 0 0) := Be.cell 1
        have p2 : wr.cell? ⟨w.heap.size, 2, none⟩ = some (.slice none 0 0) := Be.cell 2
        have HS : Hid (Small E (nums us) zs ys) := Lib.hid (small_of hE1 hE3 hM1 hM4 HUL.out HOK.out Hhz.out hxl HY.out)
        have HV : Hid (l3 ≤ V.heap.size) := Lib.hid (by have := HKv.out.size; have := HL3.out; omega)
        have HD := Lib.hid (drew_done (d := E) (by have := HL3.out; have := HG.out; omega) HL3.out.2.1 HG.out HU4.out HKv.out HOv.out HZv.out HKq.out hF HV.out HS.out (.int .i64 (E : Int)) (.slice D us.length dc) (.slice H zs.length hc))
        have HB3 := Lib.hid (((Be.set_ 0 (.int .i64 (E : Int))).set_ 1 (.slice D us.length dc)).set_ 2 (.slice H zs.length hc))
        clear Be Ce hF HZv
        go_wp2_with fail
        have d1 := HB3.out
        exact bodyPost_ret (v := .tuple #[.agg #[.int .i64 (E : Int), .slice D us.length dc, .slice H zs.length hc], .slice F ys.length f]) (by simp [results, Try.results33, go_sem, d1.cell 0, d1.cell 1, d1.cell 2]) rfl HD.out
end Go.Proofs.Ytokglpdlhacnaaa

/-
  The key of a word (keyOf).
-/
namespace Go.Proofs.Ytokglpdlhacnaaa
open Go.RowKit

theorem elU8 : Elem Try.prog 22 5 1 1 (.int .u8 0) := ⟨Try.underlying22, by kernel_rfl, rfl, by decide⟩
def u8s (xs : List Int) : List Value := xs.map (Value.int .u8)
theorem u8s_len (xs : List Int) : (u8s xs).length = xs.length := by simp [u8s]
theorem u8s_set (xs : List Int) (k : Nat) (x : Int) : (u8s xs).set k (.int .u8 x) = u8s (xs.set k x) := by simp [u8s, List.map_set]
theorem made_u8 (n : Nat) (xs : List Int) (h : xs.length = n) : (madeCells (Value.int .u8 0).cells (n * 1)).toList = u8s (copied xs 0) := by
  show (madeCells #[Value.int .u8 0] (n * 1)).toList = _
  rw [toList_madeCells_one]
  simp [u8s, copied, h]
set_option maxRecDepth 100000 in
set_option maxHeartbeats 4000000 in
theorem keyOf_any (A : Option Addr) (n c : Nat) (xs : List Int) (w : World) (hx : SI w A n xs) (hn : n ≤ 1048576) (hr : ∀ x ∈ xs, 0 ≤ x ∧ x ≤ 255) :
    Calls Try.prog 87 #[.slice A n c] w fun e w' => e = .returned (.string (strOfNums xs)) ∧ Below w.heap.size w w' := by
  have HL := Lib.hid hx.len
  have HR := Lib.hid hr
  clear hr
  go_enter Try.func87, Try.ntmps87
  go_wp2_with (at_make; refine wpList_make_Own rfl (.tmp 7) (.tmp 7) rfl elU8 (n := n) (lo := w.heap.size) rfl rfl (by omega) (by unfold maxLen; omega) (Nat.le_refl _) ?_; intro w2 ho2 hb2 hs2)
  rw [made_u8 n xs HL.out] at ho2
  have HS := Lib.hid hs2
  clear hs2
  go_loopw [11] (fun i wr => ∃ k : Nat, k ≤ n ∧ i = .int .i64 (k : Int) ∧ Own wr w.heap.size 5 1 (some ⟨w.heap.size, 0, none⟩) n n (u8s (copied xs k)) ∧ Below w.heap.size w wr) (fun i _ => n - (intOf i).toNat)
  case atStart => exact ⟨0, by omega, rfl, ho2, hb2⟩
  case round =>
    obtain ⟨k, hk, rfl, ho, hb⟩ := hrel
    clear ho2 hb2
    by_cases hlt : k < n
    · obtain ⟨b, off, rfl, hbl, hc⟩ := (hx.below hb).at_ hlt
      obtain ⟨y, hy⟩ : ∃ y, y = xs[k]'(by rw [HL.out]; exact hlt) := ⟨_, rfl⟩
      have hy2 := HR.out y (by rw [hy]; exact List.getElem_mem _)
      obtain ⟨y0, y1⟩ := hy2
      have hw8 : IntKind.u8.wrap y = y := by rw [IntKind.wrap_u8]; omega
      have hml : k < (u8s (copied xs k)).length := by rw [u8s_len, length_copied _ _ (by rw [HL.out]; omega), HL.out]; exact hlt
      obtain ⟨b', off', he, hlo, _, hc', hf'⟩ := ho.at_ hml
      simp only [Option.some.injEq, Addr.mk.injEq, and_true] at he
      obtain ⟨rfl, rfl⟩ := he
      have ho3 := ho.set_ hml (.int .u8 y)
      rw [hy, u8s_set, copied_next _ _ (by rw [HL.out]; exact hlt), ← hy] at ho3
      have hb3 := hb.setCell (p := ⟨w.heap.size, 0 + k, none⟩) (Nat.le_refl _) (.int .u8 y)
      rw [← hy] at hc
      simp only [Nat.zero_add] at hc' hf' ho3 hb3
      clear hy
      go_wp2_with fail
      exact ⟨⟨k + 1, by omega, by go_num, ho3, hb3⟩, by simp [intOf]; omega⟩
    · obtain rfl : k = n := by omega
      have e2 : copied xs k = xs := copied_end xs (by rw [HL.out]; omega)
      rw [e2] at ho
      have hcv : (convert 22 9 (.slice (some ⟨w.heap.size, 0, none⟩) k k)).run Try.prog wr = .ok (.string (strOfNums xs)) wr :=
        run_convert_bytes_arg wr 22 5 Try.underlying22 Try.underlying5 w.heap.size 0 k k xs HL.out (fun i hi => by
          obtain ⟨b', off', he, _, _, hc', _⟩ := ho.at_ (k := i) (by rw [u8s_len, HL.out]; exact hi)
          simp only [Option.some.injEq, Addr.mk.injEq, and_true] at he
          obtain ⟨rfl, rfl⟩ := he
          rw [hc']
          have hix : i < xs.length := by rw [HL.out]; exact hi
          simp [u8s, List.getD_eq_getElem?_getD, List.getElem?_eq_getElem hix]) 9 Try.underlying9
      have HB := Lib.hid hb
      clear ho hb
      go_wp2_with fail
      go_ret
      exact ⟨rfl, HB.out⟩
end Go.Proofs.Ytokglpdlhacnaaa

/-
  A map from texts to numbers that the call makes; firstAgain.
-/
namespace Go.Proofs.Ytokglpdlhacnaaa
open Go.RowKit Go.Maps

theorem strKeyed' : Keyed Try.prog 9 := string_keyed Try.underlying9
def fD (o : Option Int) (z : DataW Unit) : DataW Unit := match o with
  | some a => .lit (.int .i64 a)
  | none => z
/-- Block b is a map of at most n entries; it holds what f says. -/
def StrMap (W : World) (b n : Nat) (f : ByteArray → Option Int) : Prop :=
  ∃ D : DataW Unit, W.ownsMap Try.prog 9 (plainElem Try.prog 2) b n D ∧ IsMap D ∧ ∀ s : ByteArray, s.size ≤ maxLen → ∀ z, D.atKey (.string s.data.toList) z = fD (f s) z
theorem StrMap.new (w : World) : StrMap (w.alloc (.map #[] 0)) w.heap.size 0 (fun _ => none) :=
  ⟨.map [], World.ownsMap_made _ _ _ _, ⟨[], rfl⟩, fun _ _ _ => rfl⟩
theorem StrMap.lt {W : World} {b n : Nat} {f : ByteArray → Option Int} (h : StrMap W b n f) : b < W.heap.size := by
  obtain ⟨D, ho, _⟩ := h
  exact ho.lt
theorem StrMap.keep {W W' : World} {b n : Nat} {f : ByteArray → Option Int} (h : StrMap W b n f) (hk : W'.heap[b]? = W.heap[b]?) : StrMap W' b n f := by
  obtain ⟨D, ⟨es, clock, hb, F, hs, hD⟩, hM, hm⟩ := h
  exact ⟨D, ⟨es, clock, hk.trans hb, F, hs, hD⟩, hM, hm⟩
theorem StrMap.congr {W : World} {b n : Nat} {f g : ByteArray → Option Int} (h : StrMap W b n f) (e : ∀ s, f s = g s) : StrMap W b n g := by
  obtain ⟨D, h1, h2, h3⟩ := h
  exact ⟨D, h1, h2, fun s hs z => by rw [h3 s hs z, e s]⟩
theorem StrMap.mono {W : World} {b n n' : Nat} {f : ByteArray → Option Int} (h : StrMap W b n f) (hn : n ≤ n') : StrMap W b n' f := by
  obtain ⟨D, h1, h2, h3⟩ := h
  exact ⟨D, h1.mono hn, h2, h3⟩
def lookV (o : Option Int) : Value := match o with
  | some a => .tuple #[.int .i64 a, .bool true]
  | none => .tuple #[.int .i64 0, .bool false]
set_option maxRecDepth 100000 in
theorem StrMap.look {W : World} {b n : Nat} {f : ByteArray → Option Int} (h : StrMap W b n f) (s : ByteArray) (hs : s.size ≤ maxLen) :
    (Instr.lookup 126 (.map (some b)) (.string s) true).run Try.prog W = .ok (lookV (f s)) W := by
  obtain ⟨D, ⟨es, clock, hb, F, hc, rfl⟩, _, hm⟩ := h
  have hz : (zeroValue 2).run Try.prog W = .ok (.int .i64 0) W := by kernel_rfl
  have hm' := hm s hs
  rcases Maps.fit_look true strKeyed' Try.underlying126 hz hb F (WideMaps.keyOf_string_mk Try.underlying9 hs) with ⟨hrun, _, hat⟩ | ⟨e0, y, _, _, hrun, hRv, hat, _⟩
  · have e : f s = none := by
      cases hf : f s with
      | none => rfl
      | some a =>
        have h1 := (hat .nil).symm.trans (hm' .nil)
        rw [hf] at h1
        cases h1
    rw [hrun, e]; rfl
  · obtain ⟨a, ha, rfl, _⟩ := plainElem_int_inv Try.underlying2 hRv
    have e : f s = some a := by
      have h1 := (hat .nil).symm.trans (hm' .nil)
      cases hf : f s with
      | none => rw [hf] at h1; cases h1
      | some a' =>
        rw [hf] at h1
        simp only [fD] at h1
        cases h1
        rfl
    rw [hrun, e, ha]; rfl
theorem StrMap.put {W : World} {b n : Nat} {f : ByteArray → Option Int} (h : StrMap W b n f) (hn : n < maxLen) (s : ByteArray) (hs : s.size ≤ maxLen) (a : Int) (ha : (Lit.int .i64 a).wf = true) :
    ∃ w', (Instr.mapUpdate 126 (.map (some b)) (.string s) (.int .i64 a)).run Try.prog W = .ok () w' ∧ StrMap w' b (n + 1) (fun t => if t = s then some a else f t) ∧ W.grownBy w' (some b) := by
  obtain ⟨D, ho, hM, hm⟩ := h
  obtain ⟨w', hrun, ho', hg⟩ := ho.update strKeyed' Try.underlying126 hn (WideMaps.keyOf_string_mk Try.underlying9 hs) (plainElem_int Try.underlying2 ha)
  refine ⟨w', hrun, ⟨_, ho', ?_, fun t ht z => ?_⟩, hg⟩
  · obtain ⟨es, rfl⟩ := hM; exact ⟨_, rfl⟩
  · by_cases e : t = s
    · subst e
      rw [atKey_put_same (k := .string t.data.toList) hM (by trivial)]; simp [fD]
    · rw [atKey_put_other (fun h => e (by
        apply ByteArray.ext; apply Array.toList_inj.1
        simpa using h)), hm t ht]
      simp [e]
theorem int_wf {a : Int} (h0 : 0 ≤ a) (h1 : a ≤ 1000000000) : (Lit.int .i64 a).wf = true := by
  have e1 : IntKind.min .i64 = -9223372036854775808 := rfl
  have e2 : IntKind.max .i64 = 9223372036854775807 := rfl
  show (decide (IntKind.min .i64 ≤ a) && decide (a ≤ IntKind.max .i64)) = true
  rw [e1, e2, decide_eq_true (by omega), decide_eq_true (by omega)]; rfl
set_option maxRecDepth 100000 in
set_option maxHeartbeats 2000000 in
/-- The text was there. -/
theorem firstAgain_yes (gm k : Nat) (f : ByteArray → Option Int) (s : ByteArray) (i a : Int) (w : World) (h : StrMap w gm k f) (hs : s.size ≤ maxLen) (hf : f s = some a) (h0 : 0 ≤ a) (h1 : a ≤ i) (h2 : i ≤ 1000000000) :
    Calls Try.prog 86 #[.map (some gm), .string s, .int .i64 i] w fun e w' => e = .returned (.tuple #[.int .i64 a, .int .i64 (i - a), .bool true]) ∧ w = w' := by
  have hl := h.look s hs
  rw [hf] at hl
  have hl2 : (Instr.lookup 126 (.map (some gm)) (.string s) true).run Try.prog w = .ok (.tuple #[.int .i64 a, .bool true]) w := hl
  clear hl h hf
  go_enter Try.func86, Try.ntmps86
  go_wp2_with fail
  exact bodyPost_ret (v := .tuple #[.int .i64 a, .int .i64 (i - a), .bool true]) (by simp [results, Try.results86, go_sem]) rfl ⟨rfl, rfl⟩
set_option maxRecDepth 100000 in
set_option maxHeartbeats 2000000 in
/-- The text was not there. -/
theorem firstAgain_no (gm k : Nat) (f : ByteArray → Option Int) (s : ByteArray) (i : Int) (w : World) (h : StrMap w gm k f) (hk : k < maxLen) (hs : s.size ≤ maxLen) (hf : f s = none) (h1 : 0 ≤ i) (h2 : i ≤ 1000000000) :
    Calls Try.prog 86 #[.map (some gm), .string s, .int .i64 i] w fun e w' => e = .returned (.tuple #[.int .i64 0, .int .i64 0, .bool false]) ∧ StrMap w' gm (k + 1) (fun t => if t = s then some i else f t) ∧ w.grownBy w' (some gm) := by
  have hl := h.look s hs
  rw [hf] at hl
  have hl2 : (Instr.lookup 126 (.map (some gm)) (.string s) true).run Try.prog w = .ok (.tuple #[.int .i64 0, .bool false]) w := hl
  obtain ⟨w', hrun, hm, hg⟩ := h.put hk s hs i (int_wf h1 h2)
  have HM := Lib.hid hm
  have HG := Lib.hid hg
  clear hl h hf hm hg
  go_enter Try.func86, Try.ntmps86
  go_wp2_with fail
  exact bodyPost_ret (v := .tuple #[.int .i64 0, .int .i64 0, .bool false]) (by simp [results, Try.results86, go_sem]) rfl ⟨rfl, HM.out, HG.out⟩
end Go.Proofs.Ytokglpdlhacnaaa
