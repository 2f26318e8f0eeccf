/-
  Contracts of impl's checks of words and proofs: isLetters, IsWord, areWords, ValidProof, proofOf, afterSteps, CheckHalt.
-/
import Derived.Test.YthipbeggaeogcaaRunU
import Derived.Test.YthipbeggaeogcaaFirst
import Derived.Test.YthipbeggaeogcaaRunV
namespace Go.Proofs.Ythipbeggaeogcaa
open Go.RowKit

/-- A word. -/
def isWordB (xs : List Int) : Bool := decide (xs.length ≤ 400) && allIn xs 0 9
def areWordsB (xss : List (List Int)) : Bool := xss.all isWordB
theorem areWordsB_not (xss : List (List Int)) : (!xss.any (fun xs => !isWordB xs)) = areWordsB xss := by
  unfold areWordsB; rw [List.not_any_eq_all_not]; simp

theorem isLetters_any (A : Option Addr) (n c : Nat) (xs : List Int) (w : World) (hx : SI w A n xs) (hn : n ≤ 9223372036854775807) :
    Calls Try.prog 221 #[.slice A n c] w fun e w' => e = .returned (.bool (allIn xs 0 9)) ∧ w = w' := by
  go_enter Try.func221, Try.ntmps221
  go_wp2_with (go_at_call 103; refine (allWithin_any _ _ _ _ _ _ _ hx hn).mono ?_; rintro e w' ⟨rfl, rfl⟩)
  go_ret
  exact ⟨rfl, rfl⟩
theorem isWord_any (A : Option Addr) (n c : Nat) (xs : List Int) (w : World) (hx : SI w A n xs) (hn : n ≤ 9223372036854775807) :
    Calls Try.prog 203 #[.slice A n c] w fun e w' => e = .returned (.bool (isWordB xs)) ∧ w = w' := by
  have hl := Lib.hid hx.len
  by_cases h3 : n ≤ 400
  · have h4 : (n : Int) ≤ 400 := by omega
    go_enter Try.func203, Try.ntmps203
    go_wp2_with (go_at_call 221; refine (isLetters_any _ _ _ _ _ hx hn).mono ?_; rintro e w' ⟨rfl, rfl⟩)
    go_ret
    exact ⟨ret_bool (by unfold isWordB; rw [hl.out]; simp [h3]), rfl⟩
  · have h4 : ¬ (n : Int) ≤ 400 := by omega
    go_enter Try.func203, Try.ntmps203
    go_wp2
    go_ret
    exact ⟨ret_bool (by unfold isWordB; rw [hl.out]; simp; omega), rfl⟩
set_option maxHeartbeats 400000 in
theorem indexFuncII0_any (A : Option Addr) (n c : Nat) (ts : List Sl) (f : FuncId) (p : List Int → Bool) (w : World) (hx : SII w A n ts) (hn : n ≤ 9223372036854775807) (hcall : ∀ (args : Array Value) (w : World), (callFunc f args).run Try.prog w = .ok (.enter f args) w)
    (hf : Hid (∀ t ∈ ts, Calls Try.prog f #[.slice t.A t.xs.length t.c] w fun e w' => e = .returned (.bool (p t.xs)) ∧ w = w')) :
    Calls Try.prog 217 #[.slice A n c, .func (.func f) #[] #[]] w fun e w' => e = .returned (.int .i64 (firstB p (nums ts))) ∧ w = w' := by
  go_enter Try.func217, Try.ntmps217
  go_wp2
  go_loop [8] (fun i => ∃ k : Nat, k ≤ n ∧ i = .int .i64 k ∧ Hid (((nums ts).take k).any p = false)) (fun i => n - (intOf i).toNat)
  case atStart => exact ⟨0, by omega, rfl, rfl⟩
  case round =>
    obtain ⟨k, hk, rfl, he⟩ := hrel
    by_cases hlt : k < n
    · obtain ⟨t, b, off, hT, htm, rfl, _, hc, hr⟩ := hx.pick hlt
      go_wp2_with fail
      refine (hf.out t htm).mono ?_
      rintro e w' ⟨rfl, rfl⟩
      cases hp : p t.xs
      · have HP := Lib.hid hp
        clear hp
        go_wp2
        exact ⟨⟨k + 1, by omega, by go_num, firstB_next hT.out HP.out he.out⟩, by simp [intOf]; omega⟩
      · have HP := Lib.hid hp
        clear hp
        go_wp2
        go_ret
        exact ⟨ret_int (firstB_at hT.out HP.out he.out), rfl⟩
    · go_wp2
      go_ret
      exact ⟨ret_int (firstB_none (by omega) hx.len he.out), rfl⟩
theorem containsFuncII0_any (A : Option Addr) (n c : Nat) (ts : List Sl) (f : FuncId) (p : List Int → Bool) (w : World) (hx : SII w A n ts) (hn : n ≤ 9223372036854775807) (hcall : ∀ (args : Array Value) (w : World), (callFunc f args).run Try.prog w = .ok (.enter f args) w)
    (hf : Hid (∀ t ∈ ts, Calls Try.prog f #[.slice t.A t.xs.length t.c] w fun e w' => e = .returned (.bool (p t.xs)) ∧ w = w')) :
    Calls Try.prog 194 #[.slice A n c, .func (.func f) #[] #[]] w fun e w' => e = .returned (.bool ((nums ts).any p)) ∧ w = w' := by
  go_enter Try.func194, Try.ntmps194
  go_wp2_with (go_at_call 217; refine (indexFuncII0_any _ _ _ ts _ p _ hx hn hcall hf).mono ?_; rintro e w' ⟨rfl, rfl⟩)
  go_ret
  exact ⟨ret_bool (firstB_ge p (nums ts)), rfl⟩
/-- A valid proof. -/
def validProofB (q : Int) (xs : List Int) (xss : List (List Int)) : Bool := inB q 1 8 && decide (xs.length ≤ 300) && decide (xss.length ≤ 300) && allIn xs (-1000000000000) 1000000000000 && areWordsB xss

/-- A machine and a proof of a kind, with so many numbers and no words. -/
def proofOfB (sy st : Int) (rs : List R3) (q : Int) (xs : List Int) (xss : List (List Int)) (kd : Int) (nn : Nat) : Bool :=
  machB sy st rs && validProofB q xs xss && decide (q = kd) && decide (xs.length = nn) && decide (xss.length = 0)

/-- A runner behind N steps from the blank tape, and whether they can be made. -/
def AfterP (w : World) (sy st : Int) (A : Option Addr) (n k : Nat) (rs : List R3) (N : Nat) (e : Ending) (w' : World) : Prop :=
  ∃ g v, e = .returned (.tuple #[.pointer (some ⟨g, 0, none⟩), .bool v]) ∧ w.heap.size ≤ g ∧ (v = true → Alive sy rs blankC N ∧ RunC (fun _ => False) w' w.heap.size g sy st A n k (itC sy rs blankC N)) ∧ (v = false → ¬ Alive sy rs blankC N) ∧ Below w.heap.size w w'

theorem RunC.lo_mono {X : Nat → Prop} {w : World} {lo lo' g : Nat} {sy st : Int} {A : Option Addr} {n k : Nat} {c : Conf} (h : RunC X w lo g sy st A n k c) (hl : lo' ≤ lo) : RunC X w lo' g sy st A n k c := by
  obtain ⟨L, a, R, d, h1, h2, h3, h4⟩ := h
  exact ⟨L, a, R, d, h1, h2.mono hl, h3.mono hl, h4⟩
theorem Alive.mono {sy : Int} {rs : List R3} {c : Conf} {i j : Nat} (h : Alive sy rs c j) (hij : i ≤ j) : Alive sy rs c i := fun k hk => h k (by omega)
theorem not_alive_ended {sy : Int} {rs : List R3} {c : Conf} {N i : Nat} (h : Ended sy rs c N i) (hne : ¬ i = N) : ¬ Alive sy rs c N := by
  intro ha
  obtain ⟨h1, h2, h3⟩ := h
  rcases h3 with h3 | h3
  · exact hne h3
  · have h4 := (ha i (by omega)).1
    rw [h3] at h4; cases h4
theorem not_alive_full {sy : Int} {rs : List R3} {c : Conf} {N i : Nat} (h : Full sy rs c N i) : ¬ Alive sy rs c N := by
  intro ha
  obtain ⟨h1, h2, h3, h4⟩ := h
  have h5 := (ha i h1).2
  rw [h4] at h5; cases h5

/-- Whether N steps can be made. -/
def aliveB (sy : Int) (rs : List R3) (c : Conf) (N : Nat) : Bool := decide (runN sy rs N c = some N)
theorem aliveB_true {sy : Int} {rs : List R3} {c : Conf} {N : Nat} (h : Alive sy rs c N) : aliveB sy rs c N = true := by
  unfold aliveB; rw [runN_ended ⟨Nat.le_refl _, h, .inl rfl⟩]; simp
theorem aliveB_false {sy : Int} {rs : List R3} {c : Conf} {N : Nat} (h : ¬ Alive sy rs c N) : aliveB sy rs c N = false := by
  unfold aliveB
  rw [decide_eq_false_iff_not]
  exact fun h1 => h (runN_alive h1)
/-- What CheckHalt returns. -/
def checkHaltF (sy st : Int) (rs : List R3) (q : Int) (xs : List Int) (xss : List (List Int)) : Bool :=
  proofOfB sy st rs q xs xss 1 1 && inB (xs.headD 0) 0 20000 && aliveB sy rs blankC (xs.headD 0).toNat && haltC sy rs (itC sy rs blankC (xs.headD 0).toNat)
theorem proofOf_parts {sy st : Int} {rs : List R3} {q : Int} {xs : List Int} {xss : List (List Int)} {kd : Int} {nn : Nat} (h : proofOfB sy st rs q xs xss kd nn = true) : goodC sy st rs blankC ∧ xs.length = nn := by
  unfold proofOfB at h
  simp only [Bool.and_eq_true, decide_eq_true_eq] at h
  exact ⟨by show validConfB sy st rs 0 [] [] = true; rw [blank_good]; exact h.1.1.1.1, h.1.2⟩

end Go.Proofs.Ythipbeggaeogcaa
