/-
  Contracts of the reference's l00Max, l30Used, l05Budget, l30Status, NodeStatus.
-/
import Derived.Test.YtokglpdlhacnaaaPkBounds1
import Derived.Test.YtokglpdlhacnaaaPkBounds3
import Derived.Test.YtokglpdlhacnaaaPkBounds4
namespace Go.Proofs.Ytokglpdlhacnaaa
open Go.RowKit

/-- The numbers of used states and symbols, and of rules, of the first k rules. -/
def usedTo (rs : List R3) : Nat → Int × Int × Int
  | 0 => (1, 1, 0)
  | k + 1 => let u := usedTo rs k; let r := rs.getD k ⟨0, 0, -1⟩
    if isRuleB r then ((if r.c + 1 < u.1 then u.1 else r.c + 1), (if r.a + 1 < u.2.1 then u.2.1 else r.a + 1), u.2.2 + 1) else u
def usedF (rs : List R3) : Int × Int × Int := usedTo rs rs.length
theorem usedTo_yes {rs : List R3} {k : Nat} {r : R3} (h : rs[k]? = some r) (hr : isRuleB r = true) : usedTo rs (k + 1) = ((if r.c + 1 < (usedTo rs k).1 then (usedTo rs k).1 else r.c + 1), (if r.a + 1 < (usedTo rs k).2.1 then (usedTo rs k).2.1 else r.a + 1), (usedTo rs k).2.2 + 1) := by
  have e : rs.getD k ⟨0, 0, -1⟩ = r := by simp [List.getD, h]
  show (if isRuleB (rs.getD k ⟨0, 0, -1⟩) then _ else _) = _
  rw [e, hr]; rfl
theorem usedTo_no {rs : List R3} {k : Nat} {r : R3} (h : rs[k]? = some r) (hr : isRuleB r = false) : usedTo rs (k + 1) = usedTo rs k := by
  have e : rs.getD k ⟨0, 0, -1⟩ = r := by simp [List.getD, h]
  show (if isRuleB (rs.getD k ⟨0, 0, -1⟩) then _ else _) = _
  rw [e, hr]; rfl
theorem usedTo_free {rs : List R3} {k : Nat} (hk : k ≤ rs.length) : (usedTo rs k).2.2 + ((freeTo rs k).length : Int) = (k : Int) := by
  induction k with
  | zero => simp [usedTo, freeTo]
  | succ k ih =>
    have ih := ih (by omega)
    have hg : rs[k]? = some rs[k] := List.getElem?_eq_getElem (by omega)
    cases hr : isRuleB rs[k] with
    | true => rw [usedTo_yes hg hr, freeTo_no hg hr]; show (usedTo rs k).2.2 + 1 + _ = _; omega
    | false => rw [usedTo_no hg hr, freeTo_yes hg hr]; simp; omega
theorem used_free (rs : List R3) : (usedF rs).2.2 + ((freeF rs).length : Int) = (rs.length : Int) := usedTo_free (Nat.le_refl _)

/-- The fields of a machine's rules are small. -/
def SmallR (rs : List R3) : Prop := ∀ r ∈ rs, isRuleB r = true → 0 ≤ r.a ∧ r.a ≤ 100000 ∧ 0 ≤ r.c ∧ r.c ≤ 100000
theorem usedTo_small {rs : List R3} (h : SmallR rs) {k : Nat} (hk : k ≤ rs.length) : 1 ≤ (usedTo rs k).1 ∧ (usedTo rs k).1 ≤ 100001 ∧ 1 ≤ (usedTo rs k).2.1 ∧ (usedTo rs k).2.1 ≤ 100001 ∧ 0 ≤ (usedTo rs k).2.2 ∧ (usedTo rs k).2.2 ≤ k := by
  induction k with
  | zero => simp [usedTo]
  | succ k ih =>
    have ih := ih (by omega)
    have hg : rs[k]? = some rs[k] := List.getElem?_eq_getElem (by omega)
    cases hr : isRuleB rs[k] with
    | true =>
      have hs := h _ (List.getElem_mem (by omega : k < rs.length)) hr
      rw [usedTo_yes hg hr]
      dsimp only
      repeat' split
      all_goals omega
    | false => rw [usedTo_no hg hr]; omega

theorem small_of {sy st : Int} {rs : List R3} (h : machB sy st rs = true) : SmallR rs := fun r hr hi => by
  obtain ⟨k1, k2, k3, k4, _, k6⟩ := machB_parts h
  have hv := k6 r hr
  unfold validRuleB at hv
  rw [hi] at hv
  simp only [Bool.not_true, Bool.false_or, Bool.and_eq_true, inB_iff] at hv
  omega
theorem blank_good (sy st : Int) (rs : List R3) : validConfB sy st rs 0 [] [] = machB sy st rs := by
  unfold validConfB
  cases h : machB sy st rs with
  | false => rfl
  | true =>
    obtain ⟨k1, k2, k3, k4, _, _⟩ := machB_parts h
    have : confB sy st 0 [] [] = true := by
      unfold confB sideB allIn
      simp [inB]
      omega
    rw [this]; rfl

end Go.Proofs.Ytokglpdlhacnaaa

/-
  A configuration that a law keeps in a box.
-/
namespace Go.Proofs.Ytokglpdlhacnaaa
open Go.RowKit
theorem conf_ne {w : World} {g : Nat} {cs : Array Value} {lo s n' c' : Nat} {X : Option Addr} {xs : List Value} (h : Blk w g 29 cs) (h' : Own w lo 2 s X n' c' xs) : blk X ≠ some g := by
  intro hb
  rcases h'.2 with ⟨rfl, _⟩ | ⟨b, off, cur, rfl, _, hg, _⟩
  · simp [blk] at hb
  · simp [blk] at hb; subst hb
    unfold Blk at h
    rw [hg] at h
    simp at h
theorem conf_far2 {w : World} {g lo n c : Nat} {A : Option Addr} {cs : List Value} {vs : Array Value} (hg : Blk w g 29 vs) (h : Own w lo 2 1 A n c cs) (x y z : Value) : Own (((w.setCell ⟨g, 0, none⟩ x).setCell ⟨g, 1, none⟩ y).setCell ⟨g, 2, none⟩ z) lo 2 1 A n c cs := by
  have hb : blk A ≠ some g := conf_ne hg h
  exact ((h.far (p := ⟨g, 0, none⟩) hb _).far (p := ⟨g, 1, none⟩) hb _).far (p := ⟨g, 2, none⟩) hb _
/-- A result of StepMachine in a box. -/
def ConfBox (lo : Nat) (W : World) (s6 s7 : Value) (r : Conf × Int) (wx : World) : Prop :=
  ∃ g L c R d, s6 = .pointer (some ⟨g, 0, none⟩) ∧ s7 = .int .i64 r.2 ∧ lo ≤ g ∧ Blk wx g 29 #[.int .i64 r.1.q, .slice L r.1.xs.length c, .slice R r.1.ys.length d] ∧ Own wx lo 2 1 L r.1.xs.length c (ints r.1.xs) ∧ Own wx lo 2 1 R r.1.ys.length d (ints r.1.ys) ∧ (∀ b, blk L = some b → blk R ≠ some b) ∧ Below W.heap.size W wx
theorem stepMachF_len (sy st : Int) (rs : List R3) (q : Int) (xs ys : List Int) : (stepMachF sy st rs q xs ys).1.xs.length ≤ 1048576 ∧ (stepMachF sy st rs q xs ys).1.ys.length ≤ 1048576 := by
  unfold stepMachF
  split
  · split
    · split
      · rename_i h
        unfold roomC roomB at h
        simp only [Bool.and_eq_true, decide_eq_true_eq] at h
        exact ⟨by show (stepC (ruleOf sy rs q ys) xs ys).xs.length ≤ _; omega, by show (stepC (ruleOf sy rs q ys) xs ys).ys.length ≤ _; omega⟩
      · simp
    · simp
  · simp
end Go.Proofs.Ytokglpdlhacnaaa

/-
  Contracts of impl.RunMachine and spec.RunMachine: both return what runMachF says.
-/
namespace Go.Proofs.Ytokglpdlhacnaaa
open Go.RowKit

/-- What RunMachine returns. -/
def runMachF (sy st : Int) (rs : List R3) (q : Int) (xs ys : List Int) (b : Int) : Conf × Int × Bool × Int :=
  if validConfB sy st rs q xs ys then
    if inB b 1 20000 then
      match runN sy rs b.toNat ⟨q, xs, ys⟩ with
      | some i => (itC sy rs ⟨q, xs, ys⟩ i, (i : Int), haltC sy rs (itC sy rs ⟨q, xs, ys⟩ i), 0)
      | none => (⟨0, [], []⟩, 0, false, 5)
    else (⟨0, [], []⟩, 0, false, 2)
  else (⟨0, [], []⟩, 0, false, 1)
theorem Alive.cons {sy : Int} {rs : List R3} {c : Conf} {i : Nat} (h1 : haltC sy rs c = false) (h2 : roomC (nextC sy rs c) = true) (h : Alive sy rs (nextC sy rs c) i) : Alive sy rs c (i + 1) := fun j hj => by
  cases j with
  | zero => exact ⟨h1, h2⟩
  | succ j =>
    have h3 := h j (by omega)
    rw [itC_shift, itC_shift] at h3
    exact h3
theorem runN_alive {sy : Int} {rs : List R3} : ∀ {N : Nat} {c : Conf} {i : Nat}, runN sy rs N c = some i → Alive sy rs c i := by
  intro N
  induction N with
  | zero => intro c i h; unfold runN at h; cases h; exact Alive.zero _ _ _
  | succ N ih =>
    intro c i h
    unfold runN at h
    split at h
    · cases h; exact Alive.zero _ _ _
    · rename_i h1
      split at h
      · rename_i h2
        cases h3 : runN sy rs N (nextC sy rs c) with
        | none => rw [h3] at h; cases h
        | some j =>
          rw [h3] at h
          obtain rfl : j + 1 = i := by simpa using h
          exact (ih h3).cons (by simpa using h1) h2
      · cases h
theorem runMachF_len (sy st : Int) (rs : List R3) (q : Int) (xs ys : List Int) (b : Int) : (runMachF sy st rs q xs ys b).1.xs.length ≤ 1048576 ∧ (runMachF sy st rs q xs ys b).1.ys.length ≤ 1048576 := by
  unfold runMachF
  split
  · rename_i h1
    split
    · split
      · rename_i i hi
        have hg : goodC sy st rs (itC sy rs ⟨q, xs, ys⟩ i) := (runN_alive hi).good h1
        have hp := conf_parts hg
        have h2 := hp.2.2.2.2.2.2.2.1
        have h3 := hp.2.2.2.2.2.2.2.2.1
        exact ⟨by show (itC sy rs ⟨q, xs, ys⟩ i).xs.length ≤ _; omega, by show (itC sy rs ⟨q, xs, ys⟩ i).ys.length ≤ _; omega⟩
      · simp
    · simp
  · simp
/-- A configuration in new memory, a number, a Bool and a code. -/
def NewConf4 (w : World) (r : Conf × Int × Bool × Int) (e : Ending) (w' : World) : Prop :=
  ∃ L c R d, e = .returned (.tuple #[.agg #[.int .i64 r.1.q, .slice L r.1.xs.length c, .slice R r.1.ys.length d], .int .i64 r.2.1, .bool r.2.2.1, .int .i64 r.2.2.2]) ∧ Own w' w.heap.size 2 1 L r.1.xs.length c (ints r.1.xs) ∧ Own w' w.heap.size 2 1 R r.1.ys.length d (ints r.1.ys) ∧ (∀ b, blk L = some b → blk R ≠ some b) ∧ Below w.heap.size w w'
theorem newConf4_zero {w wf : World} {k : Int} {r : Conf × Int × Bool × Int} (hr : r = (⟨0, [], []⟩, 0, false, k)) (hz : Below w.heap.size w wf) : NewConf4 w r (.returned (.tuple #[.agg #[.int .i64 0, .slice none 0 0, .slice none 0 0], .int .i64 0, .bool false, .int .i64 k])) wf := by
  subst hr
  exact ⟨none, 0, none, 0, rfl, Own.nil, Own.nil, fun b h => by simp [blk] at h, hz⟩
/-- A result of RunMachine in a box. -/
def ConfBox4 (lo : Nat) (W : World) (s6 s7 s8 s9 : Value) (r : Conf × Int × Bool × Int) (wx : World) : Prop :=
  ∃ g L c R d, s6 = .pointer (some ⟨g, 0, none⟩) ∧ s7 = .int .i64 r.2.1 ∧ s8 = .bool r.2.2.1 ∧ s9 = .int .i64 r.2.2.2 ∧ lo ≤ g ∧ Blk wx g 29 #[.int .i64 r.1.q, .slice L r.1.xs.length c, .slice R r.1.ys.length d] ∧ Own wx lo 2 1 L r.1.xs.length c (ints r.1.xs) ∧ Own wx lo 2 1 R r.1.ys.length d (ints r.1.ys) ∧ (∀ b, blk L = some b → blk R ≠ some b) ∧ Below W.heap.size W wx

end Go.Proofs.Ytokglpdlhacnaaa

/-
  Contracts of impl's checks of words and proofs: isLetters, IsWord, areWords, ValidProof, proofOf, afterSteps, CheckHalt.
-/
namespace Go.Proofs.Ytokglpdlhacnaaa
open Go.RowKit

/-- A word. -/
def isWordB (xs : List Int) : Bool := decide (xs.length ≤ 400) && allIn xs 0 9
def areWordsB (xss : List (List Int)) : Bool := xss.all isWordB
theorem areWordsB_not (xss : List (List Int)) : (!xss.any (fun xs => !isWordB xs)) = areWordsB xss := by
  unfold areWordsB; rw [List.not_any_eq_all_not]; simp

theorem isLetters_any (A : Option Addr) (n c : Nat) (xs : List Int) (w : World) (hx : SI w A n xs) (hn : n ≤ 9223372036854775807) :
    Calls Try.prog 107 #[.slice A n c] w fun e w' => e = .returned (.bool (allIn xs 0 9)) ∧ w = w' := by
  go_enter Try.func107, Try.ntmps107
  go_wp2_with (go_at_call 68; refine (allWithin_any _ _ _ _ _ _ _ hx hn).mono ?_; rintro e w' ⟨rfl, rfl⟩)
  go_ret
  exact ⟨rfl, rfl⟩
theorem isWord_any (A : Option Addr) (n c : Nat) (xs : List Int) (w : World) (hx : SI w A n xs) (hn : n ≤ 9223372036854775807) :
    Calls Try.prog 54 #[.slice A n c] w fun e w' => e = .returned (.bool (isWordB xs)) ∧ w = w' := by
  have hl := Lib.hid hx.len
  by_cases h3 : n ≤ 400
  · have h4 : (n : Int) ≤ 400 := by omega
    go_enter Try.func54, Try.ntmps54
    go_wp2_with (go_at_call 107; refine (isLetters_any _ _ _ _ _ hx hn).mono ?_; rintro e w' ⟨rfl, rfl⟩)
    go_ret
    exact ⟨ret_bool (by unfold isWordB; rw [hl.out]; simp [h3]), rfl⟩
  · have h4 : ¬ (n : Int) ≤ 400 := by omega
    go_enter Try.func54, Try.ntmps54
    go_wp2
    go_ret
    exact ⟨ret_bool (by unfold isWordB; rw [hl.out]; simp; omega), rfl⟩
theorem areWords1_any (A : Option Addr) (n c : Nat) (xs : List Int) (w : World) (hx : SI w A n xs) (hn : n ≤ 9223372036854775807) :
    Calls Try.prog 140 #[.slice A n c] w fun e w' => e = .returned (.bool (!isWordB xs)) ∧ w = w' := by
  go_enter Try.func140, Try.ntmps140
  go_wp2_with (go_at_call 54; refine (isWord_any _ _ _ _ _ hx hn).mono ?_; rintro e w' ⟨rfl, rfl⟩)
  go_ret
  exact ⟨rfl, rfl⟩

set_option maxHeartbeats 400000 in
theorem indexFuncII0_any (A : Option Addr) (n c : Nat) (ts : List Sl) (f : FuncId) (p : List Int → Bool) (w : World) (hx : SII w A n ts) (hn : n ≤ 9223372036854775807) (hcall : ∀ (args : Array Value) (w : World), (callFunc f args).run Try.prog w = .ok (.enter f args) w)
    (hf : Hid (∀ t ∈ ts, Calls Try.prog f #[.slice t.A t.xs.length t.c] w fun e w' => e = .returned (.bool (p t.xs)) ∧ w = w')) :
    Calls Try.prog 154 #[.slice A n c, .func (.func f) #[] #[]] w fun e w' => e = .returned (.int .i64 (firstB p (nums ts))) ∧ w = w' := by
  go_enter Try.func154, Try.ntmps154
  go_wp2
  go_loop [8] (fun i => ∃ k : Nat, k ≤ n ∧ i = .int .i64 k ∧ Hid (((nums ts).take k).any p = false)) (fun i => n - (intOf i).toNat)
  case atStart => exact ⟨0, by omega, rfl, rfl⟩
  case round =>
    obtain ⟨k, hk, rfl, he⟩ := hrel
    by_cases hlt : k < n
    · obtain ⟨t, b, off, hT, htm, rfl, _, hc, hr⟩ := hx.pick hlt
      go_wp2_with fail
      refine (hf.out t htm).mono ?_
      rintro e w' ⟨rfl, rfl⟩
      cases hp : p t.xs
      · have HP := Lib.hid hp
        clear hp
        go_wp2
        exact ⟨⟨k + 1, by omega, by go_num, firstB_next hT.out HP.out he.out⟩, by simp [intOf]; omega⟩
      · have HP := Lib.hid hp
        clear hp
        go_wp2
        go_ret
        exact ⟨ret_int (firstB_at hT.out HP.out he.out), rfl⟩
    · go_wp2
      go_ret
      exact ⟨ret_int (firstB_none (by omega) hx.len he.out), rfl⟩
theorem containsFuncII0_any (A : Option Addr) (n c : Nat) (ts : List Sl) (f : FuncId) (p : List Int → Bool) (w : World) (hx : SII w A n ts) (hn : n ≤ 9223372036854775807) (hcall : ∀ (args : Array Value) (w : World), (callFunc f args).run Try.prog w = .ok (.enter f args) w)
    (hf : Hid (∀ t ∈ ts, Calls Try.prog f #[.slice t.A t.xs.length t.c] w fun e w' => e = .returned (.bool (p t.xs)) ∧ w = w')) :
    Calls Try.prog 139 #[.slice A n c, .func (.func f) #[] #[]] w fun e w' => e = .returned (.bool ((nums ts).any p)) ∧ w = w' := by
  go_enter Try.func139, Try.ntmps139
  go_wp2_with (go_at_call 154; refine (indexFuncII0_any _ _ _ ts _ p _ hx hn hcall hf).mono ?_; rintro e w' ⟨rfl, rfl⟩)
  go_ret
  exact ⟨ret_bool (firstB_ge p (nums ts)), rfl⟩
theorem areWords_any (A : Option Addr) (n c : Nat) (ts : List Sl) (w : World) (hx : SII w A n ts) (hn : n ≤ 9223372036854775807) (hns : ∀ t ∈ ts, t.xs.length ≤ 9223372036854775807) :
    Calls Try.prog 106 #[.slice A n c] w fun e w' => e = .returned (.bool (areWordsB (nums ts))) ∧ w = w' := by
  have HNS := Lib.hid hns
  clear hns
  go_enter Try.func106, Try.ntmps106
  go_wp2_with fail
  refine (containsFuncII0_any _ _ _ ts _ (fun xs => !isWordB xs) _ hx hn Try.call140 (fun t ht => areWords1_any _ _ _ _ _ (hx.2 t ht) (HNS.out t ht))).mono ?_
  rintro e w' ⟨rfl, rfl⟩
  go_wp2
  go_ret
  exact ⟨ret_bool (areWordsB_not _), rfl⟩

/-- A valid proof. -/
def validProofB (q : Int) (xs : List Int) (xss : List (List Int)) : Bool := inB q 1 8 && decide (xs.length ≤ 300) && decide (xss.length ≤ 300) && allIn xs (-1000000000000) 1000000000000 && areWordsB xss

/-- A machine and a proof of a kind, with so many numbers and no words. -/
def proofOfB (sy st : Int) (rs : List R3) (q : Int) (xs : List Int) (xss : List (List Int)) (kd : Int) (nn : Nat) : Bool :=
  machB sy st rs && validProofB q xs xss && decide (q = kd) && decide (xs.length = nn) && decide (xss.length = 0)

/-- A runner behind N steps from the blank tape, and whether they can be made. -/
def AfterP (w : World) (sy st : Int) (A : Option Addr) (n k : Nat) (rs : List R3) (N : Nat) (e : Ending) (w' : World) : Prop :=
  ∃ g v, e = .returned (.tuple #[.pointer (some ⟨g, 0, none⟩), .bool v]) ∧ w.heap.size ≤ g ∧ (v = true → Alive sy rs blankC N ∧ RunC (fun _ => False) w' w.heap.size g sy st A n k (itC sy rs blankC N)) ∧ (v = false → ¬ Alive sy rs blankC N) ∧ Below w.heap.size w w'

theorem RunC.lo_mono {X : Nat → Prop} {w : World} {lo lo' g : Nat} {sy st : Int} {A : Option Addr} {n k : Nat} {c : Conf} (h : RunC X w lo g sy st A n k c) (hl : lo' ≤ lo) : RunC X w lo' g sy st A n k c := by
  obtain ⟨L, a, R, d, h1, h2, h3, h4⟩ := h
  exact ⟨L, a, R, d, h1, h2.mono hl, h3.mono hl, h4⟩
theorem Alive.mono {sy : Int} {rs : List R3} {c : Conf} {i j : Nat} (h : Alive sy rs c j) (hij : i ≤ j) : Alive sy rs c i := fun k hk => h k (by omega)
theorem not_alive_ended {sy : Int} {rs : List R3} {c : Conf} {N i : Nat} (h : Ended sy rs c N i) (hne : ¬ i = N) : ¬ Alive sy rs c N := by
  intro ha
  obtain ⟨h1, h2, h3⟩ := h
  rcases h3 with h3 | h3
  · exact hne h3
  · have h4 := (ha i (by omega)).1
    rw [h3] at h4; cases h4
theorem not_alive_full {sy : Int} {rs : List R3} {c : Conf} {N i : Nat} (h : Full sy rs c N i) : ¬ Alive sy rs c N := by
  intro ha
  obtain ⟨h1, h2, h3, h4⟩ := h
  have h5 := (ha i h1).2
  rw [h4] at h5; cases h5

/-- Whether N steps can be made. -/
def aliveB (sy : Int) (rs : List R3) (c : Conf) (N : Nat) : Bool := decide (runN sy rs N c = some N)
theorem aliveB_true {sy : Int} {rs : List R3} {c : Conf} {N : Nat} (h : Alive sy rs c N) : aliveB sy rs c N = true := by
  unfold aliveB; rw [runN_ended ⟨Nat.le_refl _, h, .inl rfl⟩]; simp
theorem aliveB_false {sy : Int} {rs : List R3} {c : Conf} {N : Nat} (h : ¬ Alive sy rs c N) : aliveB sy rs c N = false := by
  unfold aliveB
  rw [decide_eq_false_iff_not]
  exact fun h1 => h (runN_alive h1)
/-- What CheckHalt returns. -/
def checkHaltF (sy st : Int) (rs : List R3) (q : Int) (xs : List Int) (xss : List (List Int)) : Bool :=
  proofOfB sy st rs q xs xss 1 1 && inB (xs.headD 0) 0 20000 && aliveB sy rs blankC (xs.headD 0).toNat && haltC sy rs (itC sy rs blankC (xs.headD 0).toNat)
theorem proofOf_parts {sy st : Int} {rs : List R3} {q : Int} {xs : List Int} {xss : List (List Int)} {kd : Int} {nn : Nat} (h : proofOfB sy st rs q xs xss kd nn = true) : goodC sy st rs blankC ∧ xs.length = nn := by
  unfold proofOfB at h
  simp only [Bool.and_eq_true, decide_eq_true_eq] at h
  exact ⟨by show validConfB sy st rs 0 [] [] = true; rw [blank_good]; exact h.1.1.1.1, h.1.2⟩

end Go.Proofs.Ytokglpdlhacnaaa

/-
  Contracts of the reference's checks of words and proofs: l03Is, l03All, l25Is, l25Form, l25Blank, l25Side, l25After, CheckHalt.
-/
namespace Go.Proofs.Ytokglpdlhacnaaa
open Go.RowKit

theorem isWord_out {xs : List Int} {k n : Nat} (hk : k < n) (hl : xs.length = n) (h : (!inB (xs[k]'(by omega)) 0 9) = true) : false = isWordB xs := by
  have := allIn_at hk hl h
  unfold isWordB; rw [← this]; simp
theorem isWord_end {xs : List Int} {k n : Nat} (hk : n ≤ k) (hl : xs.length = n) (he : allIn (xs.take k) 0 9 = true) : decide ((n : Int) ≤ 400) = isWordB xs := by
  have := allIn_end hk hl he
  unfold isWordB; rw [← this, hl]; simp; omega

set_option maxHeartbeats 400000 in
theorem l03Is_any (A : Option Addr) (n c : Nat) (xs : List Int) (w : World) (hx : SI w A n xs) (hn : n ≤ 9223372036854775807) :
    Calls Try.prog 58 #[.slice A n c] w fun e w' => e = .returned (.bool (isWordB xs)) ∧ w = w' := by
  go_enter Try.func58, Try.ntmps58
  go_wp2
  go_loop [3] (fun i => ∃ k : Nat, k ≤ n ∧ i = .int .i64 k ∧ Hid (allIn (xs.take k) 0 9 = true)) (fun i => n - (intOf i).toNat)
  case atStart => exact ⟨0, by omega, rfl, rfl⟩
  case round =>
    obtain ⟨k, hk, rfl, he⟩ := hrel
    by_cases hlt : k < n
    · obtain ⟨b, off, rfl, _, hc⟩ := hx.at_ hlt
      go_wp2_with (go_at_call 110; refine (l00In_any _ _ _ _).mono ?_; rintro e w' ⟨rfl, rfl⟩)
      · go_ret
        exact ⟨ret_bool (isWord_out hlt hx.len (by assumption)), rfl⟩
      · exact ⟨⟨k + 1, by omega, by go_num, allIn_next hlt hx.len (by assumption) he.out⟩, by simp [intOf]; omega⟩
    · go_wp2
      go_ret
      exact ⟨ret_bool (isWord_end (by omega) hx.len he.out), rfl⟩

theorem areWords_not {ts : List Sl} {t : Sl} {k : Nat} (hT : ts[k]? = some t) (h : (!isWordB t.xs) = true) : false = areWordsB (nums ts) := by
  symm
  unfold areWordsB; rw [List.all_eq_false]
  exact ⟨t.xs, by simp only [nums, List.mem_map]; exact ⟨t, List.mem_of_getElem? hT, rfl⟩, by simpa using h⟩
theorem areWords_next {ts : List Sl} {t : Sl} {k : Nat} (hT : ts[k]? = some t) (h : (!isWordB t.xs) = false) (he : areWordsB ((nums ts).take k) = true) : areWordsB ((nums ts).take (k + 1)) = true := by
  obtain ⟨hk, rfl⟩ := List.getElem?_eq_some_iff.1 hT
  unfold areWordsB at he ⊢
  rw [List.take_succ_eq_append_getElem (by simpa [nums] using hk), List.all_append, he]
  simpa [nums] using h
theorem areWords_end {ts : List Sl} {k n : Nat} (hk : n ≤ k) (hl : ts.length = n) (he : areWordsB ((nums ts).take k) = true) : true = areWordsB (nums ts) := by
  rw [List.take_of_length_le (by simp [nums]; omega)] at he; exact he.symm

/-- A proof behind a pointer. -/
def PrfAt (w : World) (g : Nat) (q : Int) (A : Option Addr) (n c : Nat) (B : Option Addr) (m d : Nat) : Prop :=
  w.cell? ⟨g, 0, none⟩ = some (.int .i64 q) ∧ w.cell? ⟨g, 1, none⟩ = some (.slice A n c) ∧ w.cell? ⟨g, 2, none⟩ = some (.slice B m d)
theorem PrfAt.below {w w' : World} {g : Nat} {q : Int} {A : Option Addr} {n c : Nat} {B : Option Addr} {m d : Nat} (h : PrfAt w g q A n c B m d) (hb : Below w.heap.size w w') : PrfAt w' g q A n c B m d := by
  have hlt : g < w.heap.size := World.block_lt_of_cell? w _ h.1
  exact ⟨(hb.cell (p := ⟨g, 0, none⟩) hlt).trans h.1, (hb.cell (p := ⟨g, 1, none⟩) hlt).trans h.2.1, (hb.cell (p := ⟨g, 2, none⟩) hlt).trans h.2.2⟩
theorem Blk.prfAt {w : World} {g : Nat} {t : TypeId} {q : Int} {A : Option Addr} {n c : Nat} {B : Option Addr} {m d : Nat} (h : Blk w g t #[.int .i64 q, .slice A n c, .slice B m d]) : PrfAt w g q A n c B m d := ⟨h.cell 0, h.cell 1, h.cell 2⟩

def formB (q : Int) (xs : List Int) (xss : List (List Int)) (kd : Int) (nn : Nat) : Bool := validProofB q xs xss && decide (q = kd) && decide (xs.length = nn) && decide (xss.length = 0)
theorem formB_eq (sy st : Int) (rs : List R3) (q : Int) (xs : List Int) (xss : List (List Int)) (kd : Int) (nn : Nat) : proofOfB sy st rs q xs xss kd nn = (machB sy st rs && formB q xs xss kd nn) := by
  unfold proofOfB formB; simp only [Bool.and_assoc]

/-- The configuration behind N steps, and whether they can be made. -/
def AfterS (w : World) (sy : Int) (rs : List R3) (c : Conf) (N : Nat) (e : Ending) (w' : World) : Prop :=
  ∃ (v : Bool) (x : Int) (cf : Conf) (L : Option Addr) (a : Nat) (R : Option Addr) (d : Nat), e = .returned (.tuple #[.agg #[.int .i64 cf.q, .slice L cf.xs.length a, .slice R cf.ys.length d], .int .i64 x, .bool v]) ∧ (v = true → Alive sy rs c N ∧ cf = itC sy rs c N) ∧ (v = false → ¬ Alive sy rs c N) ∧
    Own w' w.heap.size 2 1 L cf.xs.length a (ints cf.xs) ∧ Own w' w.heap.size 2 1 R cf.ys.length d (ints cf.ys) ∧ (∀ b, blk L = some b → blk R ≠ some b) ∧ Below w.heap.size w w'
theorem not_alive_halt {sy : Int} {rs : List R3} {c : Conf} {N i : Nat} (h : i < N) (hh : haltC sy rs (itC sy rs c i) = true) : ¬ Alive sy rs c N := fun ha => by
  have := (ha i h).1; rw [hh] at this; cases this
theorem not_alive_room {sy : Int} {rs : List R3} {c : Conf} {N i : Nat} (h : i < N) (hh : roomC (nextC sy rs (itC sy rs c i)) = false) : ¬ Alive sy rs c N := fun ha => by
  have h1 : roomC (nextC sy rs (itC sy rs c i)) = true := (ha i h).2
  rw [hh] at h1; cases h1

/-- What l25After returned, in a box. -/
def AfterBox (W : World) (sy : Int) (rs : List R3) (N : Nat) (s5 s6 s7 : Value) (wx : World) : Prop :=
  ∃ g v x cf, s5 = .pointer (some ⟨g, 0, none⟩) ∧ s6 = .int .i64 x ∧ s7 = .bool v ∧ ConfC wx W.heap.size g cf ∧ (v = true → Alive sy rs blankC N ∧ cf = itC sy rs blankC N) ∧ (v = false → ¬ Alive sy rs blankC N) ∧ Below W.heap.size W wx
theorem MachAt.alloc {w : World} {g : Nat} {sy st : Int} {A : Option Addr} {n k : Nat} (h : MachAt w g sy st A n k) (o : Obj) : MachAt (w.alloc o) g sy st A n k := h.below ((Below.refl _ _).alloc (Nat.le_refl _) o)
theorem ConfC.new {W w : World} {q : Int} {xs ys : List Int} {L R : Option Addr} {a d : Nat} (oL : Own w W.heap.size 2 1 L xs.length a (ints xs)) (oR : Own w W.heap.size 2 1 R ys.length d (ints ys)) (hap : ∀ b, blk L = some b → blk R ≠ some b) :
    ConfC (w.alloc (.cells #[.int .i64 q, .slice L xs.length a, .slice R ys.length d] 29)) W.heap.size w.heap.size ⟨q, xs, ys⟩ := ⟨L, a, R, d, Blk.new w _ _, oL.alloc _, oR.alloc _, hap⟩

end Go.Proofs.Ytokglpdlhacnaaa

/-
  Contracts of impl.StartConfig and spec.StartConfig: both return what startF says.
-/
namespace Go.Proofs.Ytokglpdlhacnaaa
open Go.RowKit

/-- What StartConfig returns. -/
def startF (sy st : Int) (rs : List R3) (xs : List Int) : Conf × Int :=
  if machB sy st rs && isWordB xs then
    if allIn xs 0 (sy - 1) then
      if (trimI xs).length ≤ 200 then (⟨0, [], trimI xs⟩, 0) else (⟨0, [], []⟩, 5)
    else (⟨0, [], []⟩, 2)
  else (⟨0, [], []⟩, 1)
theorem trim_take (xs : List Int) : ∃ k, k ≤ xs.length ∧ trimI xs = xs.take k := by
  unfold trimI
  have h : (xs.reverse.dropWhile (· == 0)) <:+ xs.reverse := List.dropWhile_suffix _
  obtain ⟨t, ht⟩ := h
  refine ⟨(xs.reverse.dropWhile (· == 0)).length, ?_, ?_⟩
  · have := congrArg List.length ht; simp at this; omega
  · have h2 : xs = (xs.reverse.dropWhile (· == 0)).reverse ++ t.reverse := by
      have := congrArg List.reverse ht
      simpa using this.symm
    conv => rhs; arg 2; rw [h2]
    rw [List.take_left' (by simp)]

set_option maxHeartbeats 1000000 in
theorem trimmed_any (A : Option Addr) (n c : Nat) (xs : List Int) (w : World) (hx : SI w A n xs) (hn : n ≤ 1048576) (hcap : n ≤ c) :
    Calls Try.prog 98 #[.slice A n c] w fun e w' => e = .returned (.slice A (trimI xs).length c) ∧ w = w' := by
  have HL := Lib.hid hx.len
  go_enter Try.func98, Try.ntmps98
  go_wp2
  go_loop [0] (fun s => ∃ k : Nat, k ≤ n ∧ s = .slice A k c ∧ Hid (trimI (xs.take k) = trimI xs)) (fun s => match s with | .slice _ k _ => k | _ => 0)
  case atStart => exact ⟨n, by omega, rfl, by show _ = _; rw [List.take_of_length_le (by rw [HL.out]; omega)]⟩
  case round =>
    obtain ⟨k, hk, rfl, he⟩ := hrel
    by_cases hk0 : 0 < k
    · obtain ⟨b, off, rfl, _, hc0⟩ := hx.at_ (k := k - 1) (by omega)
      have hnth : xs[k - 1]'(by rw [HL.out]; omega) = nth xs (k - 1) := (nth_eq xs (k - 1) (by rw [HL.out]; omega)).symm
      rw [hnth] at hc0
      clear hnth
      have i0 : decide ((0 : Int) < (k : Int)) = true := by simp; omega
      have i1 : (0 : Int) ≤ (k : Int) - 1 := by omega
      have i2 : ((k : Int) - 1).toNat = k - 1 := by omega
      have i3 : (k : Int) - 1 < (k : Int) := by omega
      have i4 : (k : Int) - 1 ≤ (c : Int) := by omega
      cases hz : (nth xs (k - 1) == 0)
      · have HZ := Lib.hid (trim_stop hk0 (by rw [HL.out]; omega) hz he.out)
        go_wp2
        go_ret
        exact ⟨ret_slice (by rw [← HZ.out, List.length_take, HL.out]; omega), rfl⟩
      · have HZ := Lib.hid (trim_next hk0 (by rw [HL.out]; omega) hz he.out)
        go_wp2
        go_round
        case rel => exact ⟨k - 1, by omega, by simp [i2], HZ.out⟩
        case measure => simp; omega
    · obtain rfl : k = 0 := by omega
      have HZ : Hid (trimI xs = []) := Lib.hid (by rw [← he.out]; simp [trimI])
      go_wp2
      go_ret
      exact ⟨ret_slice (by rw [HZ.out]; rfl), rfl⟩

theorem isWord_is {xs : List Int} {v : Bool} (h : isWordB xs = v) (A : Option Addr) (n c : Nat) (w : World) (hx : SI w A n xs) (hn : n ≤ 9223372036854775807) :
    Calls Try.prog 54 #[.slice A n c] w fun e w' => e = .returned (.bool v) ∧ w = w' := h ▸ isWord_any A n c xs w hx hn
theorem allWithin_is {xs : List Int} {lo hi : Int} {v : Bool} (h : allIn xs lo hi = v) (A : Option Addr) (n c : Nat) (w : World) (hx : SI w A n xs) (hn : n ≤ 9223372036854775807) :
    Calls Try.prog 68 #[.slice A n c, .int .i64 lo, .int .i64 hi] w fun e w' => e = .returned (.bool v) ∧ w = w' := h ▸ allWithin_any A n c xs lo hi w hx hn
theorem own_trim {w : World} {lo n c : Nat} {A : Option Addr} {xs : List Int} (h : Own w lo 2 1 A n c (ints xs)) : Own w lo 2 1 A (trimI xs).length c (ints (trimI xs)) := by
  obtain ⟨k, hk, e⟩ := trim_take xs
  have hl : xs.length = n := h.asI.len
  have h1 := h.upto (j := k) (by omega)
  rw [ints_take] at h1
  have h2 : (trimI xs).length = k := by rw [e, List.length_take]; omega
  rw [h2, e]
  exact h1
theorem startF_bad {sy st : Int} {rs : List R3} {xs : List Int} (h : (machB sy st rs && isWordB xs) = false) : startF sy st rs xs = (⟨0, [], []⟩, 1) := by unfold startF; rw [h]; rfl
theorem startF_out {sy st : Int} {rs : List R3} {xs : List Int} (h : machB sy st rs = true) (h1 : isWordB xs = true) (h2 : allIn xs 0 (sy - 1) = false) : startF sy st rs xs = (⟨0, [], []⟩, 2) := by unfold startF; rw [h, h1, h2]; rfl
theorem startF_full {sy st : Int} {rs : List R3} {xs : List Int} (h : machB sy st rs = true) (h1 : isWordB xs = true) (h2 : allIn xs 0 (sy - 1) = true) (h3 : ¬ (trimI xs).length ≤ 200) : startF sy st rs xs = (⟨0, [], []⟩, 5) := by unfold startF; rw [h, h1, h2]; simp [h3]
theorem startF_ok {sy st : Int} {rs : List R3} {xs : List Int} (h : machB sy st rs = true) (h1 : isWordB xs = true) (h2 : allIn xs 0 (sy - 1) = true) (h3 : (trimI xs).length ≤ 200) : startF sy st rs xs = (⟨0, [], trimI xs⟩, 0) := by unfold startF; rw [h, h1, h2]; simp [h3]
theorem trim_good2 (xs : List Int) : trimI xs = [] ∨ lastI (trimI xs) ≠ 0 := by
  unfold trimI lastI
  cases h : xs.reverse.dropWhile (· == 0) with
  | nil => left; rfl
  | cons a t =>
    right
    have h2 : (a == 0) = false := by
      have := List.head?_dropWhile_not (· == 0) xs.reverse
      rw [h] at this
      simpa using this
    simpa using h2
theorem startF_good {sy st : Int} {rs : List R3} {xs : List Int} (h : (startF sy st rs xs).2 = 0) : goodC sy st rs (startF sy st rs xs).1 := by
  unfold startF at h ⊢
  split at h
  · rename_i h0
    simp only [Bool.and_eq_true] at h0
    split at h
    · rename_i h1
      split at h
      · rename_i h2
        rw [if_pos (by simp [h0.1, h0.2]), if_pos h1, if_pos h2]
        obtain ⟨p1, p2, p3, p4, _, _⟩ := machB_parts h0.1
        have hin : ∀ y ∈ trimI xs, 0 ≤ y ∧ y ≤ sy - 1 := by
          obtain ⟨k, hk, e⟩ := trim_take xs
          rw [e]
          intro y hy
          have := List.mem_of_mem_take hy
          unfold allIn at h1
          rw [List.all_eq_true] at h1
          exact (inB_iff _ _ _).1 (h1 y this)
        have hs := side_of (sy := sy) h2 hin (trim_good2 xs)
        have hs0 := side_of (sy := sy) (xs := []) (by simp) (by simp) (.inl rfl)
        show validConfB sy st rs 0 [] (trimI xs) = true
        unfold validConfB confB
        rw [h0.1, hs, hs0]
        simp [inB]; omega
      · cases h
    · cases h
  · cases h

set_option maxHeartbeats 4000000 in
theorem startConfigI_any (sy st : Int) (A : Option Addr) (n k : Nat) (rs : List R3) (B : Option Addr) (m c : Nat) (xs : List Int) (w : World) (hr : S3 w A n rs) (hx : SI w B m xs) (hn : n ≤ 1048576) (hm : m ≤ 1048576) :
    Calls Try.prog 47 #[.agg #[.int .i64 sy, .int .i64 st, .slice A n k], .slice B m c] w (NewConf2 w (startF sy st rs xs)) := by
  obtain ⟨W, hW_⟩ : ∃ W, W = (w.alloc (.cells #[.int .i64 sy, .int .i64 st, .slice A n k] 26)).alloc (.cells #[.int .i64 0, .slice none 0 0, .slice none 0 0] 29) := ⟨_, rfl⟩
  have s_1 : (w.alloc (.cells #[.int .i64 sy, .int .i64 st, .slice A n k] 26)).heap.size = w.heap.size + 1 := by simp
  have b0 : Blk W w.heap.size 26 #[.int .i64 sy, .int .i64 st, .slice A n k] := by rw [hW_]; exact (Blk.new w _ _).alloc _
  have b1 : Blk W (w.heap.size + 1) 29 #[.int .i64 0, .slice none 0 0, .slice none 0 0] := by rw [hW_, ← s_1]; exact Blk.new _ _ _
  have y0 : Below w.heap.size w W := by rw [hW_]; exact ((Below.refl _ _).alloc (Nat.le_refl _) _).alloc (by simp) _
  have HW := Lib.hid hW_
  clear hW_ s_1
  have q0 : W.cell? ⟨w.heap.size, 0, none⟩ = some (.int .i64 sy) := b0.cell 0
  have q1 : W.cell? ⟨w.heap.size, 1, none⟩ = some (.int .i64 st) := b0.cell 1
  have q2 : W.cell? ⟨w.heap.size, 2, none⟩ = some (.slice A n k) := b0.cell 2
  go_enter Try.func47, Try.ntmps47
  go_wp2_with fail
  rw [← HW.out]
  refine (validMachine_any _ _ _ _ _ rs _ (hr.below y0) hn).mono ?_
  rintro e W1 ⟨rfl, z1⟩
  have y1 := y0.trans (z1.mono y0.size)
  have c0 := b0.below' z1
  have c1 := b1.below' z1
  clear q0 q1 q2
  have q0 : W1.cell? ⟨w.heap.size, 0, none⟩ = some (.int .i64 sy) := c0.cell 0
  have q1 : W1.cell? ⟨w.heap.size, 1, none⟩ = some (.int .i64 st) := c0.cell 1
  have q2 : W1.cell? ⟨w.heap.size, 2, none⟩ = some (.slice A n k) := c0.cell 2
  have u0 : W1.cell? ⟨(w.heap.size + 1), 0, none⟩ = some (.int .i64 0) := c1.cell 0
  have u1 : W1.cell? ⟨(w.heap.size + 1), 1, none⟩ = some (.slice none 0 0) := c1.cell 1
  have u2 : W1.cell? ⟨(w.heap.size + 1), 2, none⟩ = some (.slice none 0 0) := c1.cell 2
  have f0 := c1.frozen 0
  have f1 := c1.frozen 1
  have f2 := c1.frozen 2
  cases a0 : machB sy st rs
  · have HF := Lib.hid (startF_bad (sy := sy) (st := st) (rs := rs) (xs := xs) (by rw [a0]; rfl))
    clear a0
    go_wp2_with fail
    have d1 := conf_set c1 (.int .i64 0) (.slice none 0 0) (.slice none 0 0)
    exact bodyPost_ret (v := .tuple #[.agg #[.int .i64 0, .slice none 0 0, .slice none 0 0], .int .i64 1]) (by simp [results, Try.results47, go_sem, d1.cell 0, d1.cell 1, d1.cell 2]) rfl (newConf2_zero HF.out (conf_below y1 (by omega) _ _ _))
  obtain ⟨p1, p2, p3, p4, _, _⟩ := machB_parts a0
  have A0 := Lib.hid a0
  clear a0
  cases a1 : isWordB xs
  · have HF := Lib.hid (startF_bad (sy := sy) (st := st) (rs := rs) (xs := xs) (by rw [a1]; simp))
    have A1 := Lib.hid a1
    clear a1
    go_wp2_with (go_at_call 54; refine (isWord_is A1.out _ _ _ _ (hx.below y1) (by omega)).mono ?_; rintro e w' ⟨rfl, rfl⟩)
    have d1 := conf_set c1 (.int .i64 0) (.slice none 0 0) (.slice none 0 0)
    exact bodyPost_ret (v := .tuple #[.agg #[.int .i64 0, .slice none 0 0, .slice none 0 0], .int .i64 1]) (by simp [results, Try.results47, go_sem, d1.cell 0, d1.cell 1, d1.cell 2]) rfl (newConf2_zero HF.out (conf_below y1 (by omega) _ _ _))
  have A1 := Lib.hid a1
  clear a1
  cases a2 : allIn xs 0 (sy - 1)
  · have HF := Lib.hid (startF_out A0.out A1.out a2)
    have A2 := Lib.hid a2
    clear a2
    go_wp2_with (first
      | (go_at_call 54; refine (isWord_is A1.out _ _ _ _ (hx.below y1) (by omega)).mono ?_; rintro e w' ⟨rfl, rfl⟩)
      | (go_at_call 68; refine (allWithin_is A2.out _ _ _ _ (hx.below y1) (by omega)).mono ?_; rintro e w' ⟨rfl, rfl⟩))
    have d1 := conf_set c1 (.int .i64 0) (.slice none 0 0) (.slice none 0 0)
    exact bodyPost_ret (v := .tuple #[.agg #[.int .i64 0, .slice none 0 0, .slice none 0 0], .int .i64 2]) (by simp [results, Try.results47, go_sem, d1.cell 0, d1.cell 1, d1.cell 2]) rfl (newConf2_zero HF.out (conf_below y1 (by omega) _ _ _))
  have A2 := Lib.hid a2
  clear a2
  go_wp2_with (first
    | (go_at_call 54; refine (isWord_is A1.out _ _ _ _ (hx.below y1) (by omega)).mono ?_; rintro e w' ⟨rfl, rfl⟩)
    | (go_at_call 68; refine (allWithin_is A2.out _ _ _ _ (hx.below y1) (by omega)).mono ?_; rintro e w' ⟨rfl, rfl⟩))
  refine (cloneI_any _ _ _ xs _ (hx.below y1) hm).mono ?_
  rintro e W2 ⟨B2, c2, rfl, o2, z2⟩
  go_wp2_with fail
  refine (trimmed_any _ _ _ xs _ o2.asI (by have := hx.len; omega) o2.le).mono ?_
  rintro e w' ⟨rfl, rfl⟩
  have o3 := own_trim o2
  have y2 := y1.trans (z2.mono y1.size)
  have hlt : w.heap.size + 1 < W1.heap.size := c1.lt
  have HF1 := Lib.hid (startF_full (sy := sy) (st := st) (rs := rs) A0.out A1.out A2.out)
  have HF2 := Lib.hid (startF_ok (sy := sy) (st := st) (rs := rs) A0.out A1.out A2.out)
  have htl : (trimI xs).length ≤ 1048576 := by
    obtain ⟨j, hj, e⟩ := trim_take xs
    have := hx.len
    rw [e, List.length_take]; omega
  clear q0 q1 q2 u0 u1 u2 f0 f1 f2 o2
  generalize trimI xs = t at *
  obtain ⟨W3, hW_⟩ : ∃ W_, W_ = W2.alloc (.cells #[.int .i64 0, .slice none 0 0, .slice B2 t.length c2] 29) := ⟨_, rfl⟩
  have b3 : Blk W3 W2.heap.size 29 #[.int .i64 0, .slice none 0 0, .slice B2 t.length c2] := by rw [hW_]; exact Blk.new W2 _ _
  have z3 : Below W2.heap.size W2 W3 := by rw [hW_]; exact (Below.refl _ _).alloc (Nat.le_refl _) _
  have HW3 := Lib.hid hW_
  clear hW_
  have y3 := y2.trans (z3.mono y2.size)
  have c3 := (c1.below' z2).below' z3
  have hz2 : W1.heap.size ≤ W2.heap.size := z2.size
  have q0 : W3.cell? ⟨W2.heap.size, 0, none⟩ = some (.int .i64 0) := b3.cell 0
  have q1 : W3.cell? ⟨W2.heap.size, 1, none⟩ = some (.slice none 0 0) := b3.cell 1
  have q2 : W3.cell? ⟨W2.heap.size, 2, none⟩ = some (.slice B2 t.length c2) := b3.cell 2
  have u0 : W3.cell? ⟨(w.heap.size + 1), 0, none⟩ = some (.int .i64 0) := c3.cell 0
  have u1 : W3.cell? ⟨(w.heap.size + 1), 1, none⟩ = some (.slice none 0 0) := c3.cell 1
  have u2 : W3.cell? ⟨(w.heap.size + 1), 2, none⟩ = some (.slice none 0 0) := c3.cell 2
  have f0 := c3.frozen 0
  have f1 := c3.frozen 1
  have f2 := c3.frozen 2
  go_upto_region 6 with fail
  rw [← HW3.out]
  by_cases h3 : t.length ≤ 200
  · have HF := Lib.hid (HF2.out h3)
    have i1 : decide ((200 : Int) < (t.length : Int)) = false := by simp; omega
    clear HF1 HF2
    go_wp2_with fail
    have d1 := conf_set c3 (.int .i64 0) (.slice none 0 0) (.slice B2 t.length c2)
    refine bodyPost_ret (v := .tuple #[.agg #[.int .i64 0, .slice none 0 0, .slice B2 t.length c2], .int .i64 0]) (by simp [results, Try.results47, go_sem, d1.cell 0, d1.cell 1, d1.cell 2]) rfl ?_
    rw [HF.out]
    exact ⟨none, 0, B2, c2, rfl, Own.nil, (conf_far (o3.below z3) (by omega) _ _ _).mono (by omega), fun b h => by simp [blk] at h, conf_below y3 (by omega) _ _ _⟩
  · have HF := Lib.hid (HF1.out h3)
    have i1 : decide ((200 : Int) < (t.length : Int)) = true := by simp; omega
    clear HF1 HF2
    go_wp2_with fail
    have d1 := conf_set c3 (.int .i64 0) (.slice none 0 0) (.slice none 0 0)
    exact bodyPost_ret (v := .tuple #[.agg #[.int .i64 0, .slice none 0 0, .slice none 0 0], .int .i64 5]) (by simp [results, Try.results47, go_sem, d1.cell 0, d1.cell 1, d1.cell 2]) rfl (newConf2_zero HF.out (conf_below y3 (by omega) _ _ _))
end Go.Proofs.Ytokglpdlhacnaaa
