/-
  Words that the laws' walks share: a box that a region made, contracts of the helpers in one form.
-/
import Derived.Test.YtdlojbabnelbdaaGreatDoorPkdFindCycle1
import Derived.Test.YtdlojbabnelbdaaGreatDoorPkdFindCycle4
import Derived.Test.YtdlojbabnelbdaaGreatDoorPkdFindCycle5
import Derived.Test.YtdlojbabnelbdaaGreatDoorPkdFindCycle6
import Derived.Deep.RegionHeld3
import Derived.Deep.RegionLaw
import Derived.Deep.DeepCutAuto
import Derived.Lib.QuietBelow
namespace Go.Proofs.YtdlojbabnelbdaaGreatDoor
open Go.RowKit

theorem Own.asI {w : World} {lo n c : Nat} {e : TypeId} {A : Option Addr} {xs : List Int} (h : Own w lo e 1 A n c (ints xs)) : SI w A n xs := h.rd
theorem Own.as3 {w : World} {lo n c : Nat} {e : TypeId} {A : Option Addr} {xs : List R3} (h : Own w lo e 3 A n c (cells3 xs)) : S3 w A n xs := h.rd
/-- A block from lo on that is known whole. -/
def Bx (lo : Nat) (t : TypeId) (cs : Array Value) (g : Nat) (w : World) : Prop := lo ≤ g ∧ Blk w g t cs
theorem Bx.new {lo : Nat} (w : World) (t : TypeId) (cs : Array Value) (h : lo ≤ w.heap.size) : Bx lo t cs w.heap.size (w.alloc (.cells cs t)) := ⟨h, Blk.new w t cs⟩
theorem Bx.below' {lo g : Nat} {t : TypeId} {cs : Array Value} {w w' : World} (h : Bx lo t cs g w) (z : Below w.heap.size w w') : Bx lo t cs g w' := ⟨h.1, h.2.below' z⟩
theorem Bx.drewN {lo g : Nat} {t : TypeId} {cs : Array Value} {w : World} (h : Bx lo t cs g w) (n : Nat) : Bx lo t cs g (w.drewN n) := ⟨h.1, h.2.drewN n⟩
theorem below_of_alloc {w w' : World} {o : Obj} (h : Below (w.alloc o).heap.size (w.alloc o) w') : Below w.heap.size w w' :=
  ((Below.refl _ _).alloc (Nat.le_refl _) o).trans (h.mono (by simp))
theorem eqI_b (A B : Option Addr) (n m c d : Nat) (xs ys : List Int) (w : World) (hx : SI w A n xs) (hy : SI w B m ys) (hn : n ≤ 9223372036854775807) :
    Calls Tryz.prog 24 #[.slice A n c, .slice B m d] w fun e w' => e = .returned (.bool (sameI xs ys)) ∧ Below w.heap.size w w' :=
  (eqI A B n m c d xs ys w hx hy hn).mono fun _ _ ⟨he, q, hq⟩ => ⟨he, hq ▸ below_drewN (Below.refl _ _) q⟩
theorem heldI_b (A : Option Addr) (n c : Nat) (xs : List Int) (m : Int) (w : World) (hx : SI w A n xs) (h0 : 0 ≤ m) (h1 : m + n ≤ 9223372036854775807) : Calls Tryz.prog 30 #[.slice A n c, .int .i64 m] w fun e w' => e = .returned (.int .i64 (heldF m xs)) ∧ Below w.heap.size w w' := (heldI A n c xs m w hx h0 h1).mono fun _ _ ⟨he, hq⟩ => ⟨he, hq ▸ Below.refl _ _⟩
theorem sameII_self (xs : List (List Int)) : sameII xs xs = true := by simp [sameII]
end Go.Proofs.YtdlojbabnelbdaaGreatDoor

/-
  A configuration that a law keeps in a box.
-/
namespace Go.Proofs.YtdlojbabnelbdaaGreatDoor
open Go.RowKit
theorem conf_ne {w : World} {g : Nat} {cs : Array Value} {lo s n' c' : Nat} {X : Option Addr} {xs : List Value} (h : Blk w g 57 cs) (h' : Own w lo 2 s X n' c' xs) : blk X ≠ some g := by
  intro hb
  rcases h'.2 with ⟨rfl, _⟩ | ⟨b, off, cur, rfl, _, hg, _⟩
  · simp [blk] at hb
  · simp [blk] at hb; subst hb
    unfold Blk at h
    rw [hg] at h
    simp at h
theorem conf_far2 {w : World} {g lo n c : Nat} {A : Option Addr} {cs : List Value} {vs : Array Value} (hg : Blk w g 57 vs) (h : Own w lo 2 1 A n c cs) (x y z : Value) : Own (((w.setCell ⟨g, 0, none⟩ x).setCell ⟨g, 1, none⟩ y).setCell ⟨g, 2, none⟩ z) lo 2 1 A n c cs := by
  have hb : blk A ≠ some g := conf_ne hg h
  exact ((h.far (p := ⟨g, 0, none⟩) hb _).far (p := ⟨g, 1, none⟩) hb _).far (p := ⟨g, 2, none⟩) hb _
/-- A result of StepMachine in a box. -/
def ConfBox (lo : Nat) (W : World) (s6 s7 : Value) (r : Conf × Int) (wx : World) : Prop :=
  ∃ g L c R d, s6 = .pointer (some ⟨g, 0, none⟩) ∧ s7 = .int .i64 r.2 ∧ lo ≤ g ∧ Blk wx g 57 #[.int .i64 r.1.q, .slice L r.1.xs.length c, .slice R r.1.ys.length d] ∧ Own wx lo 2 1 L r.1.xs.length c (ints r.1.xs) ∧ Own wx lo 2 1 R r.1.ys.length d (ints r.1.ys) ∧ (∀ b, blk L = some b → blk R ≠ some b) ∧ Below W.heap.size W wx
theorem stepMachF_len (sy st : Int) (rs : List R3) (q : Int) (xs ys : List Int) : (stepMachF sy st rs q xs ys).1.xs.length ≤ 1048576 ∧ (stepMachF sy st rs q xs ys).1.ys.length ≤ 1048576 := by
  unfold stepMachF
  split
  · split
    · split
      · rename_i h
        unfold roomC roomB at h
        simp only [Bool.and_eq_true, decide_eq_true_eq] at h
        exact ⟨by show (stepC (ruleOf sy rs q ys) xs ys).xs.length ≤ _; omega, by show (stepC (ruleOf sy rs q ys) xs ys).ys.length ≤ _; omega⟩
      · simp
    · simp
  · simp
end Go.Proofs.YtdlojbabnelbdaaGreatDoor

/-
  Contracts of impl.RunMachine and spec.RunMachine: both return what runMachF says.
-/
namespace Go.Proofs.YtdlojbabnelbdaaGreatDoor
open Go.RowKit

/-- What RunMachine returns. -/
def runMachF (sy st : Int) (rs : List R3) (q : Int) (xs ys : List Int) (b : Int) : Conf × Int × Bool × Int :=
  if validConfB sy st rs q xs ys then
    if inB b 1 20000 then
      match runN sy rs b.toNat ⟨q, xs, ys⟩ with
      | some i => (itC sy rs ⟨q, xs, ys⟩ i, (i : Int), haltC sy rs (itC sy rs ⟨q, xs, ys⟩ i), 0)
      | none => (⟨0, [], []⟩, 0, false, 5)
    else (⟨0, [], []⟩, 0, false, 2)
  else (⟨0, [], []⟩, 0, false, 1)
theorem Alive.cons {sy : Int} {rs : List R3} {c : Conf} {i : Nat} (h1 : haltC sy rs c = false) (h2 : roomC (nextC sy rs c) = true) (h : Alive sy rs (nextC sy rs c) i) : Alive sy rs c (i + 1) := fun j hj => by
  cases j with
  | zero => exact ⟨h1, h2⟩
  | succ j =>
    have h3 := h j (by omega)
    rw [itC_shift, itC_shift] at h3
    exact h3
theorem runN_alive {sy : Int} {rs : List R3} : ∀ {N : Nat} {c : Conf} {i : Nat}, runN sy rs N c = some i → Alive sy rs c i := by
  intro N
  induction N with
  | zero => intro c i h; unfold runN at h; cases h; exact Alive.zero _ _ _
  | succ N ih =>
    intro c i h
    unfold runN at h
    split at h
    · cases h; exact Alive.zero _ _ _
    · rename_i h1
      split at h
      · rename_i h2
        cases h3 : runN sy rs N (nextC sy rs c) with
        | none => rw [h3] at h; cases h
        | some j =>
          rw [h3] at h
          obtain rfl : j + 1 = i := by simpa using h
          exact (ih h3).cons (by simpa using h1) h2
      · cases h
theorem runMachF_len (sy st : Int) (rs : List R3) (q : Int) (xs ys : List Int) (b : Int) : (runMachF sy st rs q xs ys b).1.xs.length ≤ 1048576 ∧ (runMachF sy st rs q xs ys b).1.ys.length ≤ 1048576 := by
  unfold runMachF
  split
  · rename_i h1
    split
    · split
      · rename_i i hi
        have hg : goodC sy st rs (itC sy rs ⟨q, xs, ys⟩ i) := (runN_alive hi).good h1
        have hp := conf_parts hg
        have h2 := hp.2.2.2.2.2.2.2.1
        have h3 := hp.2.2.2.2.2.2.2.2.1
        exact ⟨by show (itC sy rs ⟨q, xs, ys⟩ i).xs.length ≤ _; omega, by show (itC sy rs ⟨q, xs, ys⟩ i).ys.length ≤ _; omega⟩
      · simp
    · simp
  · simp
/-- A configuration in new memory, a number, a Bool and a code. -/
def NewConf4 (w : World) (r : Conf × Int × Bool × Int) (e : Ending) (w' : World) : Prop :=
  ∃ L c R d, e = .returned (.tuple #[.agg #[.int .i64 r.1.q, .slice L r.1.xs.length c, .slice R r.1.ys.length d], .int .i64 r.2.1, .bool r.2.2.1, .int .i64 r.2.2.2]) ∧ Own w' w.heap.size 2 1 L r.1.xs.length c (ints r.1.xs) ∧ Own w' w.heap.size 2 1 R r.1.ys.length d (ints r.1.ys) ∧ (∀ b, blk L = some b → blk R ≠ some b) ∧ Below w.heap.size w w'
theorem newConf4_zero {w wf : World} {k : Int} {r : Conf × Int × Bool × Int} (hr : r = (⟨0, [], []⟩, 0, false, k)) (hz : Below w.heap.size w wf) : NewConf4 w r (.returned (.tuple #[.agg #[.int .i64 0, .slice none 0 0, .slice none 0 0], .int .i64 0, .bool false, .int .i64 k])) wf := by
  subst hr
  exact ⟨none, 0, none, 0, rfl, Own.nil, Own.nil, fun b h => by simp [blk] at h, hz⟩
/-- A result of RunMachine in a box. -/
def ConfBox4 (lo : Nat) (W : World) (s6 s7 s8 s9 : Value) (r : Conf × Int × Bool × Int) (wx : World) : Prop :=
  ∃ g L c R d, s6 = .pointer (some ⟨g, 0, none⟩) ∧ s7 = .int .i64 r.2.1 ∧ s8 = .bool r.2.2.1 ∧ s9 = .int .i64 r.2.2.2 ∧ lo ≤ g ∧ Blk wx g 57 #[.int .i64 r.1.q, .slice L r.1.xs.length c, .slice R r.1.ys.length d] ∧ Own wx lo 2 1 L r.1.xs.length c (ints r.1.xs) ∧ Own wx lo 2 1 R r.1.ys.length d (ints r.1.ys) ∧ (∀ b, blk L = some b → blk R ≠ some b) ∧ Below W.heap.size W wx

end Go.Proofs.YtdlojbabnelbdaaGreatDoor

/-
  Contracts of impl's checks of words and proofs: isLetters, IsWord, areWords, ValidProof, proofOf, afterSteps, CheckHalt.
-/
namespace Go.Proofs.YtdlojbabnelbdaaGreatDoor
open Go.RowKit

/-- A word. -/
def isWordB (xs : List Int) : Bool := decide (xs.length ≤ 400) && allIn xs 0 9
def areWordsB (xss : List (List Int)) : Bool := xss.all isWordB
theorem areWordsB_not (xss : List (List Int)) : (!xss.any (fun xs => !isWordB xs)) = areWordsB xss := by
  unfold areWordsB; rw [List.not_any_eq_all_not]; simp

/-- A valid proof. -/
def validProofB (q : Int) (xs : List Int) (xss : List (List Int)) : Bool := inB q 1 8 && decide (xs.length ≤ 300) && decide (xss.length ≤ 300) && allIn xs (-1000000000000) 1000000000000 && areWordsB xss

/-- A machine and a proof of a kind, with so many numbers and no words. -/
def proofOfB (sy st : Int) (rs : List R3) (q : Int) (xs : List Int) (xss : List (List Int)) (kd : Int) (nn : Nat) : Bool :=
  machB sy st rs && validProofB q xs xss && decide (q = kd) && decide (xs.length = nn) && decide (xss.length = 0)

/-- A runner behind N steps from the blank tape, and whether they can be made. -/
def AfterP (w : World) (sy st : Int) (A : Option Addr) (n k : Nat) (rs : List R3) (N : Nat) (e : Ending) (w' : World) : Prop :=
  ∃ g v, e = .returned (.tuple #[.pointer (some ⟨g, 0, none⟩), .bool v]) ∧ w.heap.size ≤ g ∧ (v = true → Alive sy rs blankC N ∧ RunC (fun _ => False) w' w.heap.size g sy st A n k (itC sy rs blankC N)) ∧ (v = false → ¬ Alive sy rs blankC N) ∧ Below w.heap.size w w'

theorem RunC.lo_mono {X : Nat → Prop} {w : World} {lo lo' g : Nat} {sy st : Int} {A : Option Addr} {n k : Nat} {c : Conf} (h : RunC X w lo g sy st A n k c) (hl : lo' ≤ lo) : RunC X w lo' g sy st A n k c := by
  obtain ⟨L, a, R, d, h1, h2, h3, h4⟩ := h
  exact ⟨L, a, R, d, h1, h2.mono hl, h3.mono hl, h4⟩
theorem Alive.mono {sy : Int} {rs : List R3} {c : Conf} {i j : Nat} (h : Alive sy rs c j) (hij : i ≤ j) : Alive sy rs c i := fun k hk => h k (by omega)
theorem not_alive_ended {sy : Int} {rs : List R3} {c : Conf} {N i : Nat} (h : Ended sy rs c N i) (hne : ¬ i = N) : ¬ Alive sy rs c N := by
  intro ha
  obtain ⟨h1, h2, h3⟩ := h
  rcases h3 with h3 | h3
  · exact hne h3
  · have h4 := (ha i (by omega)).1
    rw [h3] at h4; cases h4
theorem not_alive_full {sy : Int} {rs : List R3} {c : Conf} {N i : Nat} (h : Full sy rs c N i) : ¬ Alive sy rs c N := by
  intro ha
  obtain ⟨h1, h2, h3, h4⟩ := h
  have h5 := (ha i h1).2
  rw [h4] at h5; cases h5

/-- Whether N steps can be made. -/
def aliveB (sy : Int) (rs : List R3) (c : Conf) (N : Nat) : Bool := decide (runN sy rs N c = some N)
theorem aliveB_true {sy : Int} {rs : List R3} {c : Conf} {N : Nat} (h : Alive sy rs c N) : aliveB sy rs c N = true := by
  unfold aliveB; rw [runN_ended ⟨Nat.le_refl _, h, .inl rfl⟩]; simp
theorem aliveB_false {sy : Int} {rs : List R3} {c : Conf} {N : Nat} (h : ¬ Alive sy rs c N) : aliveB sy rs c N = false := by
  unfold aliveB
  rw [decide_eq_false_iff_not]
  exact fun h1 => h (runN_alive h1)
/-- What CheckHalt returns. -/
def checkHaltF (sy st : Int) (rs : List R3) (q : Int) (xs : List Int) (xss : List (List Int)) : Bool :=
  proofOfB sy st rs q xs xss 1 1 && inB (xs.headD 0) 0 20000 && aliveB sy rs blankC (xs.headD 0).toNat && haltC sy rs (itC sy rs blankC (xs.headD 0).toNat)
theorem proofOf_parts {sy st : Int} {rs : List R3} {q : Int} {xs : List Int} {xss : List (List Int)} {kd : Int} {nn : Nat} (h : proofOfB sy st rs q xs xss kd nn = true) : goodC sy st rs blankC ∧ xs.length = nn := by
  unfold proofOfB at h
  simp only [Bool.and_eq_true, decide_eq_true_eq] at h
  exact ⟨by show validConfB sy st rs 0 [] [] = true; rw [blank_good]; exact h.1.1.1.1, h.1.2⟩

end Go.Proofs.YtdlojbabnelbdaaGreatDoor

/-
  Contracts of the reference's checks of words and proofs: l03Is, l03All, l25Is, l25Form, l25Blank, l25Side, l25After, CheckHalt.
-/
namespace Go.Proofs.YtdlojbabnelbdaaGreatDoor
open Go.RowKit

theorem isWord_out {xs : List Int} {k n : Nat} (hk : k < n) (hl : xs.length = n) (h : (!inB (xs[k]'(by omega)) 0 9) = true) : false = isWordB xs := by
  have := allIn_at hk hl h
  unfold isWordB; rw [← this]; simp
theorem isWord_end {xs : List Int} {k n : Nat} (hk : n ≤ k) (hl : xs.length = n) (he : allIn (xs.take k) 0 9 = true) : decide ((n : Int) ≤ 400) = isWordB xs := by
  have := allIn_end hk hl he
  unfold isWordB; rw [← this, hl]; simp; omega

theorem areWords_not {ts : List Sl} {t : Sl} {k : Nat} (hT : ts[k]? = some t) (h : (!isWordB t.xs) = true) : false = areWordsB (nums ts) := by
  symm
  unfold areWordsB; rw [List.all_eq_false]
  exact ⟨t.xs, by simp only [nums, List.mem_map]; exact ⟨t, List.mem_of_getElem? hT, rfl⟩, by simpa using h⟩
theorem areWords_next {ts : List Sl} {t : Sl} {k : Nat} (hT : ts[k]? = some t) (h : (!isWordB t.xs) = false) (he : areWordsB ((nums ts).take k) = true) : areWordsB ((nums ts).take (k + 1)) = true := by
  obtain ⟨hk, rfl⟩ := List.getElem?_eq_some_iff.1 hT
  unfold areWordsB at he ⊢
  rw [List.take_succ_eq_append_getElem (by simpa [nums] using hk), List.all_append, he]
  simpa [nums] using h
theorem areWords_end {ts : List Sl} {k n : Nat} (hk : n ≤ k) (hl : ts.length = n) (he : areWordsB ((nums ts).take k) = true) : true = areWordsB (nums ts) := by
  rw [List.take_of_length_le (by simp [nums]; omega)] at he; exact he.symm

/-- A proof behind a pointer. -/
def PrfAt (w : World) (g : Nat) (q : Int) (A : Option Addr) (n c : Nat) (B : Option Addr) (m d : Nat) : Prop :=
  w.cell? ⟨g, 0, none⟩ = some (.int .i64 q) ∧ w.cell? ⟨g, 1, none⟩ = some (.slice A n c) ∧ w.cell? ⟨g, 2, none⟩ = some (.slice B m d)
theorem PrfAt.below {w w' : World} {g : Nat} {q : Int} {A : Option Addr} {n c : Nat} {B : Option Addr} {m d : Nat} (h : PrfAt w g q A n c B m d) (hb : Below w.heap.size w w') : PrfAt w' g q A n c B m d := by
  have hlt : g < w.heap.size := World.block_lt_of_cell? w _ h.1
  exact ⟨(hb.cell (p := ⟨g, 0, none⟩) hlt).trans h.1, (hb.cell (p := ⟨g, 1, none⟩) hlt).trans h.2.1, (hb.cell (p := ⟨g, 2, none⟩) hlt).trans h.2.2⟩
theorem Blk.prfAt {w : World} {g : Nat} {t : TypeId} {q : Int} {A : Option Addr} {n c : Nat} {B : Option Addr} {m d : Nat} (h : Blk w g t #[.int .i64 q, .slice A n c, .slice B m d]) : PrfAt w g q A n c B m d := ⟨h.cell 0, h.cell 1, h.cell 2⟩

def formB (q : Int) (xs : List Int) (xss : List (List Int)) (kd : Int) (nn : Nat) : Bool := validProofB q xs xss && decide (q = kd) && decide (xs.length = nn) && decide (xss.length = 0)
theorem formB_eq (sy st : Int) (rs : List R3) (q : Int) (xs : List Int) (xss : List (List Int)) (kd : Int) (nn : Nat) : proofOfB sy st rs q xs xss kd nn = (machB sy st rs && formB q xs xss kd nn) := by
  unfold proofOfB formB; simp only [Bool.and_assoc]

set_option maxHeartbeats 1000000 in
theorem l25Blank_any (w : World) : Calls Tryz.prog 35 #[] w (NewConf w 0 [] []) := by
  obtain ⟨C, hC⟩ : ∃ C : Obj, C = .cells #[.int .i64 0, .slice (some ⟨w.heap.size + 1, 0, none⟩) 0 0, .slice (some ⟨w.heap.size + 1 + 1, 0, none⟩) 0 0] 57 := ⟨_, rfl⟩
  have s1 : (w.alloc C).heap.size = w.heap.size + 1 := by simp
  have s2 : ((w.alloc C).alloc (.cells #[] 2)).heap.size = w.heap.size + 1 + 1 := by simp
  have o1 := (Own.lit (w.alloc C) #[] 2 0 1 w.heap.size (by simp) (by simp [maxLen]) (by simp)).alloc (.cells #[] 2)
  have o2 := Own.lit ((w.alloc C).alloc (.cells #[] 2)) #[] 2 0 1 w.heap.size (by simp) (by simp [maxLen]) (by simp; omega)
  rw [s1] at o1
  rw [s2] at o2
  have d : Blk (((w.alloc C).alloc (.cells #[] 2)).alloc (.cells #[] 2)) w.heap.size 57 #[.int .i64 0, .slice (some ⟨w.heap.size + 1, 0, none⟩) 0 0, .slice (some ⟨w.heap.size + 1 + 1, 0, none⟩) 0 0] := by rw [hC]; exact ((Blk.new w _ _).alloc _).alloc _
  have y : Below w.heap.size w (((w.alloc C).alloc (.cells #[] 2)).alloc (.cells #[] 2)) := (((Below.refl _ _).alloc (Nat.le_refl _) _).alloc (by simp) _).alloc (by simp; omega) _
  have HC := Lib.hid hC
  clear hC s1 s2
  go_enter Tryz.func35, Tryz.ntmps35
  go_wp2_with fail
  rw [← HC.out]
  generalize ((w.alloc C).alloc (.cells #[] 2)).alloc (.cells #[] 2) = wf at *
  have q0 : wf.cell? ⟨w.heap.size, 0, none⟩ = some (.int .i64 0) := d.cell 0
  have q1 : wf.cell? ⟨w.heap.size, 1, none⟩ = some (.slice (some ⟨w.heap.size + 1, 0, none⟩) 0 0) := d.cell 1
  have q2 : wf.cell? ⟨w.heap.size, 2, none⟩ = some (.slice (some ⟨w.heap.size + 1 + 1, 0, none⟩) 0 0) := d.cell 2
  exact bodyPost_ret (v := .agg #[.int .i64 0, .slice (some ⟨w.heap.size + 1, 0, none⟩) 0 0, .slice (some ⟨w.heap.size + 1 + 1, 0, none⟩) 0 0]) (by simp [results, Tryz.results35, go_sem, q0, q1, q2]) rfl ⟨_, 0, _, 0, rfl, o1, o2, fun b h1 h2 => by simp [blk] at h1 h2; omega, y⟩

set_option maxHeartbeats 2000000 in
theorem l25Side_c {w : World} {g : Nat} {sy st : Int} {A : Option Addr} {n k : Nat} {rs : List R3} {f lo : Nat} {c : Conf} (hm : MachAt w g sy st A n k) (hrs : S3 w A n rs) (hc : ConfC w lo f c) (hg : goodC sy st rs c) (_hn : n ≤ 1048576) :
    Calls Tryz.prog 56 #[.pointer (some ⟨g, 0, none⟩), .pointer (some ⟨f, 0, none⟩)] w fun e w' => e = .returned (.int .i64 (ruleOf sy rs c.q c.ys).b) ∧ ∃ nq, w' = w.drewN nq := by
  obtain ⟨p1, p2, p3, p4, p5, p6, p7, p8, p9, p10, p11, p12⟩ := conf_parts hg
  have hys : ∀ y ∈ c.ys.reverse, 0 ≤ y ∧ y ≤ sy - 1 := fun y hy' => p11 y (List.mem_reverse.mp hy')
  have hrl : rs.length = n := hrs.len
  obtain ⟨i1, i2, i3, i4, idx, i5, i6⟩ := at_parts (n := n) p1 p2 p3 p4 (by rw [← hrl]; exact p5) p6 p7 hys
  have ir : rs[idx]? = some (ruleOf sy rs c.q c.ys) := ruleOf_get i5 (by rw [hrl]; exact i6)
  obtain ⟨q0, q1, q2⟩ := id hm
  obtain ⟨r', b, off, hr', _, rfl, hbl, c0, c1, c2⟩ := hrs.pick i6
  obtain rfl : ruleOf sy rs c.q c.ys = r' := by have e2 := hr'.out; rw [ir] at e2; simpa using e2
  have j1 : (0 : Int) ≤ (idx : Int) := by omega
  have j2 : (idx : Int) < (n : Int) := by omega
  have I5 := Lib.hid i5
  have HAT : Hid (∀ q, Calls Tryz.prog 58 #[.pointer (some ⟨g, 0, none⟩), .pointer (some ⟨f, 0, none⟩)] (w.drewN q) fun e w' => e = .returned (.int .i64 (idx : Int)) ∧ ∃ nq, w' = (w.drewN q).drewN nq) := fun q => by
    rw [← i5]; exact l05At_c (hm.drewN q) (hc.drewN q) hg
  clear p5 p10 p11 p12 hys i5 ir hrl
  go_enter Tryz.func56, Tryz.ntmps56
  go_wp2_with fail
  go_quiet ((go_at_call 58; exact quiet_1 (HAT.out _)))
  go_wp2_with fail
  go_ret
  exact ⟨rfl, _, rfl⟩
/-- The configuration behind N steps, and whether they can be made. -/
def AfterS (w : World) (sy : Int) (rs : List R3) (c : Conf) (N : Nat) (e : Ending) (w' : World) : Prop :=
  ∃ (v : Bool) (x : Int) (cf : Conf) (L : Option Addr) (a : Nat) (R : Option Addr) (d : Nat), e = .returned (.tuple #[.agg #[.int .i64 cf.q, .slice L cf.xs.length a, .slice R cf.ys.length d], .int .i64 x, .bool v]) ∧ (v = true → Alive sy rs c N ∧ cf = itC sy rs c N) ∧ (v = false → ¬ Alive sy rs c N) ∧
    Own w' w.heap.size 2 1 L cf.xs.length a (ints cf.xs) ∧ Own w' w.heap.size 2 1 R cf.ys.length d (ints cf.ys) ∧ (∀ b, blk L = some b → blk R ≠ some b) ∧ Below w.heap.size w w'
theorem not_alive_halt {sy : Int} {rs : List R3} {c : Conf} {N i : Nat} (h : i < N) (hh : haltC sy rs (itC sy rs c i) = true) : ¬ Alive sy rs c N := fun ha => by
  have := (ha i h).1; rw [hh] at this; cases this
theorem not_alive_room {sy : Int} {rs : List R3} {c : Conf} {N i : Nat} (h : i < N) (hh : roomC (nextC sy rs (itC sy rs c i)) = false) : ¬ Alive sy rs c N := fun ha => by
  have h1 : roomC (nextC sy rs (itC sy rs c i)) = true := (ha i h).2
  rw [hh] at h1; cases h1

set_option maxRecDepth 100000 in
set_option maxHeartbeats 4000000 in
theorem l25After_any (g : Nat) (sy st : Int) (A : Option Addr) (n k : Nat) (rs : List R3) (c : Conf) (L : Option Addr) (a : Nat) (R : Option Addr) (d : Nat) (N : Nat) (w : World) (hm : MachAt w g sy st A n k) (hrs : S3 w A n rs) (hx : SI w L c.xs.length c.xs) (hy : SI w R c.ys.length c.ys) (hgc : goodC sy st rs c) (hn : n ≤ 1048576) (hN : N ≤ 1000000) :
    Calls Tryz.prog 37 #[.pointer (some ⟨g, 0, none⟩), .agg #[.int .i64 c.q, .slice L c.xs.length a, .slice R c.ys.length d], .int .i64 (N : Int)] w (AfterS w sy rs c N) := by
  obtain ⟨W, hW_⟩ : ∃ W, W = (w.alloc (.cells #[.int .i64 c.q, .slice L c.xs.length a, .slice R c.ys.length d] 57)).alloc (.cells #[.int .i64 0, .slice none 0 0, .slice none 0 0] 57) := ⟨_, rfl⟩
  have s_1 : (w.alloc (.cells #[.int .i64 c.q, .slice L c.xs.length a, .slice R c.ys.length d] 57)).heap.size = w.heap.size + 1 := by simp
  have b0 : Blk W w.heap.size 57 #[.int .i64 c.q, .slice L c.xs.length a, .slice R c.ys.length d] := by rw [hW_]; exact (Blk.new w _ _).alloc _
  have b1 : Blk W (w.heap.size + 1) 57 #[.int .i64 0, .slice none 0 0, .slice none 0 0] := by rw [hW_, ← s_1]; exact Blk.new _ _ _
  have y0 : Below w.heap.size w W := by rw [hW_]; exact ((Below.refl _ _).alloc (Nat.le_refl _) _).alloc (by simp) _
  have HW := Lib.hid hW_
  clear hW_ s_1
  have hl := conf_parts hgc
  have hxl : c.xs.length ≤ 1048576 := by have := hl.2.2.2.2.2.2.2.1; omega
  have hyl : c.ys.length ≤ 1048576 := by have := hl.2.2.2.2.2.2.2.2.1; omega
  clear hl
  go_enter Tryz.func37, Tryz.ntmps37
  go_wp2_with fail
  rw [← HW.out]
  clear HW
  refine (l05OwnConfig_any _ _ _ _ _ c.xs _ _ _ c.ys _ b0.confAt (hx.below y0) (hy.below y0) hxl hyl).mono ?_
  rintro e W1 ⟨L1, a1, R1, d1, rfl, o1, o1', hap1, z1⟩
  have HAP1 := Lib.hid hap1
  clear hap1
  obtain ⟨W2, hW_⟩ : ∃ W_, W_ = W1.alloc (.cells #[.int .i64 c.q, .slice L1 c.xs.length a1, .slice R1 c.ys.length d1] 57) := ⟨_, rfl⟩
  have b2 : Blk W2 W1.heap.size 57 #[.int .i64 c.q, .slice L1 c.xs.length a1, .slice R1 c.ys.length d1] := by rw [hW_]; exact Blk.new W1 _ _
  have z2 : Below W1.heap.size W1 W2 := by rw [hW_]; exact (Below.refl _ _).alloc (Nat.le_refl _) _
  have HW2 := Lib.hid hW_
  clear hW_
  have y2 : Below w.heap.size w W2 := (y0.trans (z1.mono y0.size)).trans (z2.mono (y0.trans (z1.mono y0.size)).size)
  have hC2 : ConfC W2 w.heap.size W1.heap.size c := ⟨L1, a1, R1, d1, b2, (o1.below z2).mono y0.size, (o1'.below z2).mono y0.size, HAP1.out⟩
  have b12 := (b1.below' z1).below' z2
  have hf : w.heap.size + 1 < W1.heap.size := by have := (b1.below' z1).lt; omega
  clear b0 b1 o1 o1' HAP1 b2
  go_wp2_with fail
  rw [← HW2.out]
  clear HW2
  obtain ⟨f, hf'⟩ : ∃ f, f = W1.heap.size := ⟨_, rfl⟩
  rw [← hf'] at hC2 hf
  rw [← hf']
  clear hf' z1 z2
  go_loopw [2, 10] (fun s x wr => ∃ (i : Nat) (v : Int), s = .int .i64 ((N : Int) - (i : Int)) ∧ x = .int .i64 v ∧ i ≤ N ∧ Alive sy rs c i ∧ ConfC wr w.heap.size f (itC sy rs c i) ∧ Blk wr (w.heap.size + 1) 57 #[.int .i64 0, .slice none 0 0, .slice none 0 0] ∧ Below w.heap.size w wr) (fun s _ _ => (intOf s).toNat)
  case atStart => exact ⟨0, 0, by simp, rfl, Nat.zero_le _, Alive.zero _ _ _, hC2, b12, y2⟩
  case round =>
    obtain ⟨i, v, rfl, rfl, hi, hal, hC, hB, hY⟩ := hrel
    have HGOOD := Lib.hid (hal.good hgc)
    have HAL := Lib.hid hal
    clear hal hC2 b12 y2 y0
    have HHALT := Lib.hid (l05Halts_c (hm.below hY) (hrs.below hY) hC HGOOD.out hn)
    have hBlt : w.heap.size + 1 < wr.heap.size := hB.lt
    by_cases hlt : i < N
    · have j1 : (0 : Int) < (N : Int) - (i : Int) := by omega
      go_wp2_with fail
      refine HHALT.out.mono ?_
      rintro e W3 ⟨rfl, z3⟩
      have hC3 := hC.below z3
      have hB3 := hB.below' z3
      have hY3 : Below w.heap.size w W3 := hY.trans (z3.mono hY.size)
      cases hh : haltC sy rs (itC sy rs c i) with
      | true =>
        have HH := Lib.hid (not_alive_halt hlt hh)
        clear hh
        obtain ⟨L3, a3, R3', d3, bc, ol, or_, hap⟩ := hC3
        have HAP := Lib.hid hap
        clear hap
        generalize itC sy rs c i = ci at *
        have c0 : W3.cell? ⟨f, 0, none⟩ = some (.int .i64 ci.q) := bc.cell 0
        have c1 : W3.cell? ⟨f, 1, none⟩ = some (.slice L3 ci.xs.length a3) := bc.cell 1
        have c2 : W3.cell? ⟨f, 2, none⟩ = some (.slice R3' ci.ys.length d3) := bc.cell 2
        have u0 : W3.cell? ⟨(w.heap.size + 1), 0, none⟩ = some (.int .i64 0) := hB3.cell 0
        have u1 : W3.cell? ⟨(w.heap.size + 1), 1, none⟩ = some (.slice none 0 0) := hB3.cell 1
        have u2 : W3.cell? ⟨(w.heap.size + 1), 2, none⟩ = some (.slice none 0 0) := hB3.cell 2
        have f0 := hB3.frozen 0
        have f1 := hB3.frozen 1
        have f2 := hB3.frozen 2
        go_wp2_with fail
        have hCf := ConfC.set3 (c := ci) rfl hB3 ol or_ HAP.out
        have hYf := conf_below hY3 (show w.heap.size ≤ w.heap.size + 1 by omega) (.int .i64 ci.q) (.slice L3 ci.xs.length a3) (.slice R3' ci.ys.length d3)
        generalize ((W3.setCell ⟨w.heap.size + 1, 0, none⟩ (.int .i64 ci.q)).setCell ⟨w.heap.size + 1, 1, none⟩ (.slice L3 ci.xs.length a3)).setCell ⟨w.heap.size + 1, 2, none⟩ (.slice R3' ci.ys.length d3) = Wf at *
        obtain ⟨Lf, af, Rf, df, bf, olf, orf, hapf⟩ := hCf
        have g0 : Wf.cell? ⟨(w.heap.size + 1), 0, none⟩ = some (.int .i64 ci.q) := bf.cell 0
        have g1 : Wf.cell? ⟨(w.heap.size + 1), 1, none⟩ = some (.slice Lf ci.xs.length af) := bf.cell 1
        have g2 : Wf.cell? ⟨(w.heap.size + 1), 2, none⟩ = some (.slice Rf ci.ys.length df) := bf.cell 2
        exact bodyPost_ret (v := .tuple #[.agg #[.int .i64 ci.q, .slice Lf ci.xs.length af, .slice Rf ci.ys.length df], .int .i64 0, .bool false]) (by simp [results, Tryz.results37, go_sem, g0, g1, g2]) rfl ⟨false, 0, ci, Lf, af, Rf, df, rfl, (fun h => by cases h), fun _ => HH.out, olf, orf, hapf, hYf⟩
      | false =>
        have HH := Lib.hid hh
        clear hh
        have HSIDE := Lib.hid (l25Side_c (hm.below hY3) (hrs.below hY3) hC3 HGOOD.out hn)
        go_wp2_with fail
        refine HSIDE.out.mono ?_
        rintro e W3' ⟨rfl, nq, rfl⟩
        have hY3' : Below w.heap.size w (W3.drewN nq) := below_drewN hY3 nq
        have hC3' := hC3.drewN nq
        have hB3' : Blk (W3.drewN nq) (w.heap.size + 1) 57 #[.int .i64 0, .slice none 0 0, .slice none 0 0] := hB3.drewN nq
        clear hC3 hB3 hY3 HSIDE z3
        generalize W3.drewN nq = W4 at *
        have HSTEP := Lib.hid (l05Step_c (hm.below hY3') (hrs.below hY3') hC3' HGOOD.out hn)
        go_wp2_with fail
        refine HSTEP.out.mono ?_
        rintro e W5 ⟨L4, a4, R4, d4, rfl, ol4, or4, hap4, z4⟩
        have HAP4 := Lib.hid hap4
        clear hap4 HSTEP HHALT
        have hY4 : Below w.heap.size w W5 := hY3'.trans (z4.mono hY3'.size)
        have HNXT : Hid (roomC (itC sy rs c (i + 1)) = true → Alive sy rs c (i + 1)) := fun h => HAL.out.next HH.out h
        have hHR := Lib.hid (not_alive_room (sy := sy) (rs := rs) (c := c) hlt)
        generalize hnx : nextC sy rs (itC sy rs c i) = nx at *
        have HNX : Hid (itC sy rs c (i + 1) = nx) := Lib.hid hnx
        clear hnx
        obtain ⟨W6, hW_⟩ : ∃ W_, W_ = W5.alloc (.cells #[.int .i64 nx.q, .slice L4 nx.xs.length a4, .slice R4 nx.ys.length d4] 57) := ⟨_, rfl⟩
        have b5 : Blk W6 W5.heap.size 57 #[.int .i64 nx.q, .slice L4 nx.xs.length a4, .slice R4 nx.ys.length d4] := by rw [hW_]; exact Blk.new W5 _ _
        have z5 : Below W5.heap.size W5 W6 := by rw [hW_]; exact (Below.refl _ _).alloc (Nat.le_refl _) _
        have HW6 := Lib.hid hW_
        clear hW_
        have hY5 : Below w.heap.size w W6 := hY4.trans (z5.mono hY4.size)
        have hB5 := (hB3'.below' z4).below' z5
        have hC5 := (hC3'.below z4).below z5
        have hfW : f < W5.heap.size := by obtain ⟨_, _, _, _, b4, _⟩ := hC3'.below z4; exact b4.lt
        have hB5lt : w.heap.size + 1 < W5.heap.size := (hB3'.below' z4).lt
        obtain ⟨L5, a5, R5, d5, bc5, ol5, or5, hap5⟩ := hC5
        have HAP5 := Lib.hid hap5
        clear hap5
        generalize itC sy rs c i = ci at *
        cases hro : roomC nx with
        | true =>
          have HRO : Hid (roomC (itC sy rs c (i + 1)) = true) := Lib.hid (by rw [HNX.out]; exact hro)
          clear hro
          go_upto_region 9 with fail
          rw [← HW6.out]
          clear HW6
          have c0 : W6.cell? ⟨W5.heap.size, 0, none⟩ = some (.int .i64 nx.q) := b5.cell 0
          have c1 : W6.cell? ⟨W5.heap.size, 1, none⟩ = some (.slice L4 nx.xs.length a4) := b5.cell 1
          have c2 : W6.cell? ⟨W5.heap.size, 2, none⟩ = some (.slice R4 nx.ys.length d4) := b5.cell 2
          have u0 : W6.cell? ⟨f, 0, none⟩ = some (.int .i64 ci.q) := bc5.cell 0
          have u1 : W6.cell? ⟨f, 1, none⟩ = some (.slice L5 ci.xs.length a5) := bc5.cell 1
          have u2 : W6.cell? ⟨f, 2, none⟩ = some (.slice R5 ci.ys.length d5) := bc5.cell 2
          have f0 := bc5.frozen 0
          have f1 := bc5.frozen 1
          have f2 := bc5.frozen 2
          go_wp2_with fail
          have hCf := ConfC.set3 (c := nx) rfl bc5 ((ol4.below z5).mono hY3'.size) ((or4.below z5).mono hY3'.size) HAP4.out
          have hYf := conf_below hY5 (show w.heap.size ≤ f by omega) (.int .i64 nx.q) (.slice L4 nx.xs.length a4) (.slice R4 nx.ys.length d4)
          have hBf := ((hB5.far (p := ⟨f, 0, none⟩) (show w.heap.size + 1 ≠ f by omega) (.int .i64 nx.q)).far (p := ⟨f, 1, none⟩) (show w.heap.size + 1 ≠ f by omega) (.slice L4 nx.xs.length a4)).far (p := ⟨f, 2, none⟩) (show w.heap.size + 1 ≠ f by omega) (.slice R4 nx.ys.length d4)
          go_roundw
          case rel => exact ⟨i + 1, _, by go_num, rfl, by omega, HNXT.out HRO.out, by rw [HNX.out]; exact hCf, hBf, hYf⟩
          case measure => simp [intOf]; omega
        | false =>
          have HRO := Lib.hid (hHR.out hro)
          clear hro
          go_upto_region 9 with fail
          rw [← HW6.out]
          clear HW6
          have c0 : W6.cell? ⟨f, 0, none⟩ = some (.int .i64 ci.q) := bc5.cell 0
          have c1 : W6.cell? ⟨f, 1, none⟩ = some (.slice L5 ci.xs.length a5) := bc5.cell 1
          have c2 : W6.cell? ⟨f, 2, none⟩ = some (.slice R5 ci.ys.length d5) := bc5.cell 2
          have u0 : W6.cell? ⟨(w.heap.size + 1), 0, none⟩ = some (.int .i64 0) := hB5.cell 0
          have u1 : W6.cell? ⟨(w.heap.size + 1), 1, none⟩ = some (.slice none 0 0) := hB5.cell 1
          have u2 : W6.cell? ⟨(w.heap.size + 1), 2, none⟩ = some (.slice none 0 0) := hB5.cell 2
          have f0 := hB5.frozen 0
          have f1 := hB5.frozen 1
          have f2 := hB5.frozen 2
          go_wp2_with fail
          have hCf := ConfC.set3 (c := ci) rfl hB5 ol5 or5 HAP5.out
          have hYf := conf_below hY5 (show w.heap.size ≤ w.heap.size + 1 by omega) (.int .i64 ci.q) (.slice L5 ci.xs.length a5) (.slice R5 ci.ys.length d5)
          generalize ((W6.setCell ⟨w.heap.size + 1, 0, none⟩ (.int .i64 ci.q)).setCell ⟨w.heap.size + 1, 1, none⟩ (.slice L5 ci.xs.length a5)).setCell ⟨w.heap.size + 1, 2, none⟩ (.slice R5 ci.ys.length d5) = Wf at *
          obtain ⟨Lf, af, Rf, df, bf, olf, orf, hapf⟩ := hCf
          have g0 : Wf.cell? ⟨(w.heap.size + 1), 0, none⟩ = some (.int .i64 ci.q) := bf.cell 0
          have g1 : Wf.cell? ⟨(w.heap.size + 1), 1, none⟩ = some (.slice Lf ci.xs.length af) := bf.cell 1
          have g2 : Wf.cell? ⟨(w.heap.size + 1), 2, none⟩ = some (.slice Rf ci.ys.length df) := bf.cell 2
          exact bodyPost_ret (v := .tuple #[.agg #[.int .i64 ci.q, .slice Lf ci.xs.length af, .slice Rf ci.ys.length df], .int .i64 0, .bool false]) (by simp [results, Tryz.results37, go_sem, g0, g1, g2]) rfl ⟨false, 0, ci, Lf, af, Rf, df, rfl, (fun h => by cases h), fun _ => HRO.out, olf, orf, hapf, hYf⟩
    · obtain rfl : N = i := by omega
      have j1 : ¬ ((0 : Int) < (N : Int) - (N : Int)) := by omega
      obtain ⟨L3, a3, R3', d3, bc, ol, or_, hap⟩ := hC
      have HAP := Lib.hid hap
      have HCI : Hid (itC sy rs c N = itC sy rs c N) := rfl
      clear hap HHALT
      generalize hci : itC sy rs c N = ci at *
      have HC1 := Lib.hid hci
      clear hci HCI
      have c0 : wr.cell? ⟨f, 0, none⟩ = some (.int .i64 ci.q) := bc.cell 0
      have c1 : wr.cell? ⟨f, 1, none⟩ = some (.slice L3 ci.xs.length a3) := bc.cell 1
      have c2 : wr.cell? ⟨f, 2, none⟩ = some (.slice R3' ci.ys.length d3) := bc.cell 2
      have u0 : wr.cell? ⟨(w.heap.size + 1), 0, none⟩ = some (.int .i64 0) := hB.cell 0
      have u1 : wr.cell? ⟨(w.heap.size + 1), 1, none⟩ = some (.slice none 0 0) := hB.cell 1
      have u2 : wr.cell? ⟨(w.heap.size + 1), 2, none⟩ = some (.slice none 0 0) := hB.cell 2
      have f0 := hB.frozen 0
      have f1 := hB.frozen 1
      have f2 := hB.frozen 2
      go_wp2_with fail
      have hCf := ConfC.set3 (c := ci) rfl hB ol or_ HAP.out
      have hYf := conf_below hY (show w.heap.size ≤ w.heap.size + 1 by omega) (.int .i64 ci.q) (.slice L3 ci.xs.length a3) (.slice R3' ci.ys.length d3)
      generalize ((wr.setCell ⟨w.heap.size + 1, 0, none⟩ (.int .i64 ci.q)).setCell ⟨w.heap.size + 1, 1, none⟩ (.slice L3 ci.xs.length a3)).setCell ⟨w.heap.size + 1, 2, none⟩ (.slice R3' ci.ys.length d3) = Wf at *
      obtain ⟨Lf, af, Rf, df, bf, olf, orf, hapf⟩ := hCf
      have g0 : Wf.cell? ⟨(w.heap.size + 1), 0, none⟩ = some (.int .i64 ci.q) := bf.cell 0
      have g1 : Wf.cell? ⟨(w.heap.size + 1), 1, none⟩ = some (.slice Lf ci.xs.length af) := bf.cell 1
      have g2 : Wf.cell? ⟨(w.heap.size + 1), 2, none⟩ = some (.slice Rf ci.ys.length df) := bf.cell 2
      exact bodyPost_ret (v := .tuple #[.agg #[.int .i64 ci.q, .slice Lf ci.xs.length af, .slice Rf ci.ys.length df], .int .i64 v, .bool true]) (by simp [results, Tryz.results37, go_sem, g0, g1, g2]) rfl ⟨true, v, ci, Lf, af, Rf, df, rfl, fun _ => ⟨HAL.out, HC1.out.symm⟩, (fun h => by cases h), olf, orf, hapf, hYf⟩

theorem l25After_blank (g : Nat) (sy st : Int) (A : Option Addr) (n k : Nat) (rs : List R3) (L : Option Addr) (a : Nat) (R : Option Addr) (d : Nat) (N : Nat) (w : World) (hm : MachAt w g sy st A n k) (hrs : S3 w A n rs) (hgc : goodC sy st rs blankC) (hn : n ≤ 1048576) (hN : N ≤ 1000000) :
    Calls Tryz.prog 37 #[.pointer (some ⟨g, 0, none⟩), .agg #[.int .i64 0, .slice L 0 a, .slice R 0 d], .int .i64 (N : Int)] w (AfterS w sy rs blankC N) :=
  l25After_any g sy st A n k rs blankC L a R d N w hm hrs SI.nil SI.nil hgc hn hN
/-- What l25After returned, in a box. -/
def AfterBox (W : World) (sy : Int) (rs : List R3) (N : Nat) (s5 s6 s7 : Value) (wx : World) : Prop :=
  ∃ g v x cf, s5 = .pointer (some ⟨g, 0, none⟩) ∧ s6 = .int .i64 x ∧ s7 = .bool v ∧ ConfC wx W.heap.size g cf ∧ (v = true → Alive sy rs blankC N ∧ cf = itC sy rs blankC N) ∧ (v = false → ¬ Alive sy rs blankC N) ∧ Below W.heap.size W wx
theorem MachAt.alloc {w : World} {g : Nat} {sy st : Int} {A : Option Addr} {n k : Nat} (h : MachAt w g sy st A n k) (o : Obj) : MachAt (w.alloc o) g sy st A n k := h.below ((Below.refl _ _).alloc (Nat.le_refl _) o)
theorem ConfC.new {W w : World} {q : Int} {xs ys : List Int} {L R : Option Addr} {a d : Nat} (oL : Own w W.heap.size 2 1 L xs.length a (ints xs)) (oR : Own w W.heap.size 2 1 R ys.length d (ints ys)) (hap : ∀ b, blk L = some b → blk R ≠ some b) :
    ConfC (w.alloc (.cells #[.int .i64 q, .slice L xs.length a, .slice R ys.length d] 57)) W.heap.size w.heap.size ⟨q, xs, ys⟩ := ⟨L, a, R, d, Blk.new w _ _, oL.alloc _, oR.alloc _, hap⟩

end Go.Proofs.YtdlojbabnelbdaaGreatDoor

/-
  Contracts of impl.FindHalt and spec.FindHalt: both return what findHaltF says.
-/
namespace Go.Proofs.YtdlojbabnelbdaaGreatDoor
open Go.RowKit

/-- What FindHalt returns: kind and numbers of a proof without words, and a code. -/
def findHaltF (sy st : Int) (rs : List R3) (b : Int) : (Int × List Int) × Int :=
  if codeF sy st rs blankC b = 0 then
    match runN sy rs b.toNat blankC with
    | some i => if haltC sy rs (itC sy rs blankC i) then ((1, [(i : Int)]), 0) else ((0, []), 3)
    | none => ((0, []), 5)
  else ((0, []), codeF sy st rs blankC b)
theorem findHaltF_len (sy st : Int) (rs : List R3) (b : Int) : (findHaltF sy st rs b).1.2.length ≤ 1048576 := by
  unfold findHaltF
  split
  · split
    · split <;> simp
    · simp
  · simp
theorem findHaltF_halt {sy st : Int} {rs : List R3} {N i : Nat} (hc : codeF sy st rs blankC (N : Int) = 0) (h : Ended sy rs blankC N i) (hh : haltC sy rs (itC sy rs blankC i) = true) : findHaltF sy st rs (N : Int) = ((1, [(i : Int)]), 0) := by
  unfold findHaltF; rw [if_pos hc, Int.toNat_natCast, runN_ended h]; simp [hh]
theorem findHaltF_runs {sy st : Int} {rs : List R3} {N i : Nat} (hc : codeF sy st rs blankC (N : Int) = 0) (h : Ended sy rs blankC N i) (hh : haltC sy rs (itC sy rs blankC i) = false) : findHaltF sy st rs (N : Int) = ((0, []), 3) := by
  unfold findHaltF; rw [if_pos hc, Int.toNat_natCast, runN_ended h]; simp [hh]
theorem findHaltF_full {sy st : Int} {rs : List R3} {N i : Nat} (hc : codeF sy st rs blankC (N : Int) = 0) (h : Full sy rs blankC N i) : findHaltF sy st rs (N : Int) = ((0, []), 5) := by
  unfold findHaltF; rw [if_pos hc, Int.toNat_natCast, runN_full h]
theorem findHaltF_code {sy st : Int} {rs : List R3} {b : Int} (hc : ¬ codeF sy st rs blankC b = 0) : findHaltF sy st rs b = ((0, []), codeF sy st rs blankC b) := by
  unfold findHaltF; rw [if_neg hc]
/-- A proof without words in new memory, and a code. -/
def NewPrf2 (w : World) (r : (Int × List Int) × Int) (e : Ending) (w' : World) : Prop :=
  ∃ L c R d, e = .returned (.tuple #[.agg #[.int .i64 r.1.1, .slice L r.1.2.length c, .slice R 0 d], .int .i64 r.2]) ∧ Own w' w.heap.size 2 1 L r.1.2.length c (ints r.1.2) ∧ Below w.heap.size w w'
theorem newPrf2_zero {w wf : World} {k : Int} {r : (Int × List Int) × Int} (hr : r = ((0, []), k)) (hz : Below w.heap.size w wf) : NewPrf2 w r (.returned (.tuple #[.agg #[.int .i64 0, .slice none 0 0, .slice none 0 0], .int .i64 k])) wf := by
  subst hr
  exact ⟨none, 0, none, 0, rfl, Own.nil, hz⟩
theorem newPrf2_one {w wf : World} {a k x : Int} {r : (Int × List Int) × Int} {L R : Option Addr} {c d : Nat} (hr : r = ((a, [x]), k)) (ho : Own wf w.heap.size 2 1 L 1 c [.int .i64 x]) (hz : Below w.heap.size w wf) : NewPrf2 w r (.returned (.tuple #[.agg #[.int .i64 a, .slice L 1 c, .slice R 0 d], .int .i64 k])) wf := by
  subst hr
  exact ⟨L, c, R, d, rfl, ho, hz⟩

-- the reference
theorem codeF_blank (sy st : Int) (rs : List R3) (b : Int) : codeF sy st rs blankC b = if machB sy st rs then (if inB b 1 20000 then 0 else 2) else 1 := by
  unfold codeF; rw [show validConfB sy st rs blankC.q blankC.xs blankC.ys = machB sy st rs from blank_good sy st rs]

set_option maxHeartbeats 1000000 in
theorem l25Ask_any (g : Nat) (sy st : Int) (A : Option Addr) (n k : Nat) (rs : List R3) (b : Int) (w : World) (hm : MachAt w g sy st A n k) (hrs : S3 w A n rs) (hn : n ≤ 1048576) :
    Calls Tryz.prog 14 #[.pointer (some ⟨g, 0, none⟩), .int .i64 b] w fun e w' => e = .returned (.int .i64 (codeF sy st rs blankC b)) ∧ Below w.heap.size w w' := by
  go_enter Tryz.func14, Tryz.ntmps14
  go_wp2_with fail
  refine (l05Is_any _ _ _ _ _ _ rs _ hm hrs hn).mono ?_
  rintro e W1 ⟨rfl, z1⟩
  cases a0 : machB sy st rs
  · have A0 := Lib.hid a0
    clear a0
    go_wp2_with fail
    go_ret
    exact ⟨ret_int (by rw [codeF_blank, A0.out]; rfl), z1⟩
  have A0 := Lib.hid a0
  clear a0
  cases a1 : inB b 1 20000
  · have A1 := Lib.hid a1
    clear a1
    go_wp2_with (go_at_call 33; refine (l05Budget_is A1.out _).mono ?_; rintro e w' ⟨rfl, rfl⟩)
    go_ret
    exact ⟨ret_int (by rw [codeF_blank, A0.out, A1.out]; rfl), z1⟩
  · have A1 := Lib.hid a1
    clear a1
    go_wp2_with (go_at_call 33; refine (l05Budget_is A1.out _).mono ?_; rintro e w' ⟨rfl, rfl⟩)
    go_ret
    exact ⟨ret_int (by rw [codeF_blank, A0.out, A1.out]; rfl), z1⟩

set_option maxHeartbeats 1000000 in
theorem l25Made_any (a : Int) (A : Option Addr) (n c : Nat) (w : World) :
    Calls Tryz.prog 40 #[.int .i64 a, .slice A n c] w fun e w' => ∃ R d, e = .returned (.agg #[.int .i64 a, .slice A n c, .slice R 0 d]) ∧ Below w.heap.size w w' := by
  obtain ⟨C, hC⟩ : ∃ C : Obj, C = .cells #[.int .i64 a, .slice A n c, .slice (some ⟨w.heap.size + 1, 0, none⟩) 0 0] 29 := ⟨_, rfl⟩
  have d : Blk ((w.alloc C).alloc (.cells #[] 26)) w.heap.size 29 #[.int .i64 a, .slice A n c, .slice (some ⟨w.heap.size + 1, 0, none⟩) 0 0] := by rw [hC]; exact (Blk.new w _ _).alloc _
  have y : Below w.heap.size w ((w.alloc C).alloc (.cells #[] 26)) := ((Below.refl _ _).alloc (Nat.le_refl _) _).alloc (by simp) _
  have HC := Lib.hid hC
  clear hC
  go_enter Tryz.func40, Tryz.ntmps40
  go_wp2_with fail
  rw [← HC.out]
  generalize (w.alloc C).alloc (.cells #[] 26) = wf at *
  have q0 : wf.cell? ⟨w.heap.size, 0, none⟩ = some (.int .i64 a) := d.cell 0
  have q1 : wf.cell? ⟨w.heap.size, 1, none⟩ = some (.slice A n c) := d.cell 1
  have q2 : wf.cell? ⟨w.heap.size, 2, none⟩ = some (.slice (some ⟨w.heap.size + 1, 0, none⟩) 0 0) := d.cell 2
  exact bodyPost_ret (v := .agg #[.int .i64 a, .slice A n c, .slice (some ⟨w.heap.size + 1, 0, none⟩) 0 0]) (by simp [results, Tryz.results40, go_sem, q0, q1, q2]) rfl ⟨_, 0, rfl, y⟩

theorem l05Run_blank (g : Nat) (sy st : Int) (A : Option Addr) (n k : Nat) (rs : List R3) (L : Option Addr) (a : Nat) (R : Option Addr) (d : Nat) (N : Nat) (w : World) (hm : MachAt w g sy st A n k) (hrs : S3 w A n rs) (hgc : goodC sy st rs blankC) (hn : n ≤ 1048576) (hN : N ≤ 1000000) :
    Calls Tryz.prog 34 #[.pointer (some ⟨g, 0, none⟩), .agg #[.int .i64 0, .slice L 0 a, .slice R 0 d], .int .i64 (N : Int)] w (SpecRun w sy rs blankC N) :=
  l05Run_any g sy st A n k rs blankC L a R d N w hm hrs SI.nil SI.nil hgc hn hN

end Go.Proofs.YtdlojbabnelbdaaGreatDoor

/-
  What FindCycle returns, in plain words; the texts of a run in a map.
-/
namespace Go.Proofs.YtdlojbabnelbdaaGreatDoor
open Go.RowKit

/-- What FindCycle returns: kind and numbers of a proof without words, and a code. -/
def findCycF (sy st : Int) (rs : List R3) (b : Int) : (Int × List Int) × Int :=
  if codeF sy st rs blankC b = 0 then
    match runN sy rs b.toNat blankC with
    | some i => if haltC sy rs (itC sy rs blankC i) then ((0, []), 3) else match firstTo (itC sy rs blankC) (b.toNat + 1) with
      | some (a, l) => ((2, [(a : Int), (l : Int)]), 0)
      | none => ((0, []), 6)
    | none => ((0, []), 5)
  else ((0, []), codeF sy st rs blankC b)
theorem findCycF_len (sy st : Int) (rs : List R3) (b : Int) : (findCycF sy st rs b).1.2.length ≤ 1048576 := by
  unfold findCycF
  split
  · split
    · split
      · simp
      · split <;> simp
    · simp
  · simp
section
variable {sy st : Int} {rs : List R3} {N i : Nat}
theorem findCycF_code {b : Int} (hc : ¬ codeF sy st rs blankC b = 0) : findCycF sy st rs b = ((0, []), codeF sy st rs blankC b) := by unfold findCycF; rw [if_neg hc]
theorem findCycF_full (hc : codeF sy st rs blankC (N : Int) = 0) (h : Full sy rs blankC N i) : findCycF sy st rs (N : Int) = ((0, []), 5) := by
  unfold findCycF; rw [if_pos hc, Int.toNat_natCast, runN_full h]
theorem findCycF_halt (hc : codeF sy st rs blankC (N : Int) = 0) (h : Ended sy rs blankC N i) (hh : haltC sy rs (itC sy rs blankC i) = true) : findCycF sy st rs (N : Int) = ((0, []), 3) := by
  unfold findCycF; rw [if_pos hc, Int.toNat_natCast, runN_ended h]; simp [hh]
theorem findCycF_none (hc : codeF sy st rs blankC (N : Int) = 0) (h : Ended sy rs blankC N i) (hh : haltC sy rs (itC sy rs blankC i) = false) (hf : firstTo (itC sy rs blankC) (N + 1) = none) : findCycF sy st rs (N : Int) = ((0, []), 6) := by
  unfold findCycF; rw [if_pos hc, Int.toNat_natCast, runN_ended h]; simp [hh, hf]
theorem findCycF_some {a l : Nat} (hc : codeF sy st rs blankC (N : Int) = 0) (h : Ended sy rs blankC N i) (hh : haltC sy rs (itC sy rs blankC i) = false) (hf : firstTo (itC sy rs blankC) (N + 1) = some (a, l)) : findCycF sy st rs (N : Int) = ((2, [(a : Int), (l : Int)]), 0) := by
  unfold findCycF; rw [if_pos hc, Int.toNat_natCast, runN_ended h]; simp [hh, hf]
theorem itC_step (sy : Int) (rs : List R3) (c : Conf) (n : Nat) : itC sy rs c (n + 1) = nextC sy rs (itC sy rs c n) := rfl
/-- A run that comes to a configuration again goes on for ever. -/
theorem rep_alive {c : Conf} {j : Nat} (hA : Alive sy rs c i) (hji : j < i) (he : itC sy rs c j = itC sy rs c i) (n : Nat) : Alive sy rs c n ∧ haltC sy rs (itC sy rs c n) = false := by
  have key := fun k => rep_all (f := itC sy rs c) (itC_step sy rs c) hji he k
  refine ⟨fun k _ => ?_, ?_⟩
  · obtain ⟨m, hm, e⟩ := key k
    rw [itC_step, e, ← itC_step]
    exact hA m hm
  · obtain ⟨m, hm, e⟩ := key n
    rw [e]
    exact (hA m hm).1
theorem findCycF_again {j : Nat} (hc : codeF sy st rs blankC (N : Int) = 0) (hi : i ≤ N) (hA : Alive sy rs blankC i) (hp : prevT (itC sy rs blankC) i = some j) (hf : firstTo (itC sy rs blankC) i = none) : findCycF sy st rs (N : Int) = ((2, [(j : Int), ((i - j : Nat) : Int)]), 0) := by
  obtain ⟨h1, h2⟩ := prevT_some hp
  have hr := rep_alive hA h1 h2
  exact findCycF_some hc ⟨Nat.le_refl _, (hr N).1, .inl rfl⟩ (hr N).2 (firstTo_mono (firstTo_next hf hp) (by omega))
end
section
variable {f : Nat → Conf} {i : Nat}
/-- What the map holds behind i visits. -/
def mapK (f : Nat → Conf) (i : Nat) (t : ByteArray) : Option Int := ((List.range i).find? fun j => decide (confT (f j) = t)).map fun j : Nat => (j : Int)
theorem mapK_zero (t : ByteArray) : mapK f 0 t = none := rfl
theorem mapK_own (h : ∀ j, j ≤ i → ∀ k, k ≤ i → confT (f j) = confT (f k) → f j = f k) : mapK f i (confT (f i)) = (prevT f i).map fun j : Nat => (j : Int) := by
  unfold mapK prevT
  congr 1
  have key : ∀ l : List Nat, (∀ j ∈ l, j < i) → l.find? (fun j => decide (confT (f j) = confT (f i))) = l.find? fun j => decide (f j = f i) := by
    intro l
    induction l with
    | nil => intro _; rfl
    | cons a l ih =>
      intro hl
      have e : decide (confT (f a) = confT (f i)) = decide (f a = f i) := by
        rw [decide_eq_decide]
        exact ⟨h a (by have := hl a List.mem_cons_self; omega) i (Nat.le_refl _), fun e => by rw [e]⟩
      rw [List.find?_cons, List.find?_cons, e, ih (fun j hj => hl j (List.mem_cons_of_mem _ hj))]
  exact key _ (fun j hj => List.mem_range.1 hj)
theorem mapK_next (t : ByteArray) : mapK f (i + 1) t = (mapK f i t).or (if confT (f i) = t then some (i : Int) else none) := by
  unfold mapK
  rw [List.range_succ, List.find?_append]
  cases (List.range i).find? (fun j => decide (confT (f j) = t)) with
  | some a => rfl
  | none =>
    simp only [Option.none_or, Option.map_none, List.find?_cons, List.find?_nil]
    by_cases h : confT (f i) = t
    · simp [h]
    · simp [h]
theorem mapK_new (h : mapK f i (confT (f i)) = none) (t : ByteArray) : (if t = confT (f i) then some (i : Int) else mapK f i t) = mapK f (i + 1) t := by
  rw [mapK_next]
  by_cases e : t = confT (f i)
  · subst e; rw [h]; simp
  · rw [if_neg e, if_neg (fun h => e h.symm)]; simp
end
theorem good_digits {sy st : Int} {rs : List R3} {c : Conf} (h : goodC sy st rs c) : (∀ z ∈ c.xs, 0 ≤ z ∧ z ≤ 9) ∧ (∀ z ∈ c.ys, 0 ≤ z ∧ z ≤ 9) ∧ 0 ≤ c.q ∧ c.q ≤ 1000 ∧ c.xs.length ≤ 200 ∧ c.ys.length ≤ 200 := by
  obtain ⟨h1, h2, h3, h4, _, h5, h6, hx2, hy2, hxm, hym, _⟩ := conf_parts h
  exact ⟨fun z hz => by have := hxm z hz; omega, fun z hz => by have := hym z hz; omega, h5, by omega, hx2, hy2⟩
theorem keys_apart {sy st : Int} {rs : List R3} {c : Conf} {i : Nat} (hA : Alive sy rs c i) (hg : goodC sy st rs c) : ∀ j, j ≤ i → ∀ k, k ≤ i → confT (itC sy rs c j) = confT (itC sy rs c k) → itC sy rs c j = itC sy rs c k := by
  intro j hj k hk h
  have g1 : goodC sy st rs (itC sy rs c j) := Alive.good (fun a ha => hA a (by omega)) hg
  have g2 : goodC sy st rs (itC sy rs c k) := Alive.good (fun a ha => hA a (by omega)) hg
  obtain ⟨a1, a2, a3, _⟩ := good_digits g1
  obtain ⟨b1, b2, b3, _⟩ := good_digits g2
  exact confT_inj a1 a2 a3 b1 b2 b3 h
end Go.Proofs.YtdlojbabnelbdaaGreatDoor

/-
  The sides of a good configuration are short.
-/
namespace Go.Proofs.YtdlojbabnelbdaaGreatDoor
open Go.RowKit
theorem conf_len {sy st : Int} {rs : List R3} {c : Conf} (h : goodC sy st rs c) : c.xs.length ≤ 200 ∧ c.ys.length ≤ 200 := by
  have hp := conf_parts h
  exact ⟨hp.2.2.2.2.2.2.2.1, hp.2.2.2.2.2.2.2.2.1⟩
end Go.Proofs.YtdlojbabnelbdaaGreatDoor

/-
  Contracts of impl's sameConfig, spanOk, CheckCycle.
-/
namespace Go.Proofs.YtdlojbabnelbdaaGreatDoor
open Go.RowKit Go.Sort

def sameConfB (c d : Conf) : Bool := decide (c.q = d.q) && sameI c.xs d.xs && sameI c.ys d.ys

def spanB (a b : Int) : Bool := inB a 0 20000 && inB b 1 (20000 - a)

theorem spanB_iff (a b : Int) : spanB a b = true ↔ 0 ≤ a ∧ a ≤ 20000 ∧ 1 ≤ b ∧ b ≤ 20000 - a := by
  unfold spanB inB; simp; omega

/-- What CheckCycle returns. -/
def checkCycleF (sy st : Int) (rs : List R3) (q : Int) (xs : List Int) (xss : List (List Int)) : Bool :=
  proofOfB sy st rs q xs xss 2 2 && spanB (xs.getD 0 0) (xs.getD 1 0) && aliveB sy rs blankC (xs.getD 0 0).toNat && aliveB sy rs blankC (xs.getD 0 0 + xs.getD 1 0).toNat &&
    sameConfB (itC sy rs blankC (xs.getD 0 0).toNat) (itC sy rs blankC (xs.getD 0 0 + xs.getD 1 0).toNat)
theorem SI.two {w : World} {A : Option Addr} {xs : List Int} (h : SI w A 2 xs) : ∃ b off, A = some ⟨b, off, none⟩ ∧ b < w.heap.size ∧ w.cell? ⟨b, off, none⟩ = some (.int .i64 (xs.getD 0 0)) ∧ w.cell? ⟨b, off + 1, none⟩ = some (.int .i64 (xs.getD 1 0)) := by
  obtain ⟨b, off, rfl, hb, h0⟩ := h.at_ (k := 0) (by omega)
  obtain ⟨b', off', e, _, h1⟩ := h.at_ (k := 1) (by omega)
  cases e
  have hl := h.len
  refine ⟨b, off, rfl, hb, ?_, ?_⟩
  · rw [show off = off + 0 from rfl, h0]; congr 2; simp [List.getD_eq_getElem?_getD, List.getElem?_eq_getElem (show 0 < xs.length by omega)]
  · rw [h1]; congr 2; simp [List.getD_eq_getElem?_getD, List.getElem?_eq_getElem (show 1 < xs.length by omega)]
end Go.Proofs.YtdlojbabnelbdaaGreatDoor

/-
  Contract of the reference's l00Same.
-/
namespace Go.Proofs.YtdlojbabnelbdaaGreatDoor
open Go.RowKit

set_option maxHeartbeats 400000 in
theorem l00Same_any (A B : Option Addr) (n m c d : Nat) (xs ys : List Int) (w : World) (hx : SI w A n xs) (hy : SI w B m ys) (hn : n ≤ 9223372036854775807) :
    Calls Tryz.prog 57 #[.slice A n c, .slice B m d] w fun e w' => e = .returned (.bool (sameI xs ys)) ∧ ∃ q, w' = w.drewN q := by
  by_cases hnm : n = m
  · subst hnm
    go_enter Tryz.func57, Tryz.ntmps57
    go_wp2
    go_loopw [5] (fun i wr => ∃ k q : Nat, k ≤ n ∧ i = .int .i64 k ∧ Hid (xs.take k = ys.take k) ∧ wr = w.drewN q) (fun i _ => n - (intOf i).toNat)
    case atStart => exact ⟨0, 0, by omega, rfl, rfl, rfl⟩
    case round =>
      obtain ⟨k, q, hk, rfl, he, rfl⟩ := hrel
      by_cases hlt : k < n
      · obtain ⟨b, off, rfl, _, hc⟩ := hx.at_ hlt
        obtain ⟨b', off', rfl, _, hc'⟩ := hy.at_ hlt
        go_wp2
        go_quiet (fail)
        go_wp2
        · go_ret
          exact ⟨ret_bool (sameI_ne hlt hx.len hy.len (by assumption)), _, World.drewN_drewN _ _ _⟩
        · exact ⟨⟨k + 1, _, by omega, by go_num, take_next hlt hx.len hy.len he.out (by assumption), rfl⟩, by simp [intOf]; omega⟩
      · go_wp2
        go_ret
        exact ⟨ret_bool (sameI_eq (by omega) hx.len hy.len he.out), _, rfl⟩
  · have hne : ((n : Int) != (m : Int)) = true := by simp; omega
    go_enter Tryz.func57, Tryz.ntmps57
    go_wp2
    go_ret
    exact ⟨ret_bool (sameI_len hnm hx.len hy.len), 0, rfl⟩
theorem l00Same_is {xs ys : List Int} {v : Bool} (h : sameI xs ys = v) (A B : Option Addr) (n m c d : Nat) (w : World) (hx : SI w A n xs) (hy : SI w B m ys) (hn : n ≤ 9223372036854775807) :
    Calls Tryz.prog 57 #[.slice A n c, .slice B m d] w fun e w' => e = .returned (.bool v) ∧ ∃ q, w' = w.drewN q := h ▸ l00Same_any A B n m c d xs ys w hx hy hn
end Go.Proofs.YtdlojbabnelbdaaGreatDoor

/-
  Contracts of the reference's l00Same, l25SameConfig, l25Spans, CheckCycle.
-/
namespace Go.Proofs.YtdlojbabnelbdaaGreatDoor
open Go.RowKit


set_option maxHeartbeats 2000000 in
theorem l25SameConfig_any (f : Nat) (q : Int) (B : Option Addr) (m c : Nat) (xs : List Int) (C : Option Addr) (l d : Nat) (ys : List Int) (f' : Nat) (q' : Int) (B' : Option Addr) (m' c' : Nat) (xs' : List Int) (C' : Option Addr) (l' d' : Nat) (ys' : List Int) (w : World) (hc : ConfAt w f q B m c C l d) (hx : SI w B m xs) (hy : SI w C l ys) (hc' : ConfAt w f' q' B' m' c' C' l' d') (hx' : SI w B' m' xs') (hy' : SI w C' l' ys') (hm : m ≤ 1048576) (hl : l ≤ 1048576) :
    Calls Tryz.prog 38 #[.pointer (some ⟨f, 0, none⟩), .pointer (some ⟨f', 0, none⟩)] w fun e w' => e = .returned (.bool (sameConfB ⟨q, xs, ys⟩ ⟨q', xs', ys'⟩)) ∧ ∃ nq, w' = w.drewN nq := by
  obtain ⟨u0, u1, u2⟩ := id hc
  obtain ⟨v0, v1, v2⟩ := id hc'
  have hm9 : m ≤ 9223372036854775807 := by omega
  have hl9 : l ≤ 9223372036854775807 := by omega
  cases g1 : (q == q')
  · have H1 := Lib.hid (show ¬ q = q' by simpa using g1)
    go_enter Tryz.func38, Tryz.ntmps38
    go_wp2_with fail
    go_quiet (fail)
    go_wp2_with fail
    go_ret
    exact ⟨ret_bool (by unfold sameConfB; simp [H1.out]), _, rfl⟩
  have H1 := Lib.hid (show q = q' by simpa using g1)
  cases g2 : sameI xs xs'
  · have H2 := Lib.hid g2
    go_enter Tryz.func38, Tryz.ntmps38
    go_wp2_with fail
    go_quiet ((go_at_call 57; exact quiet_1 (l00Same_is H2.out _ _ _ _ _ _ _ (hx.drewN _) (hx'.drewN _) hm9)))
    go_wp2_with fail
    go_ret
    exact ⟨ret_bool (by unfold sameConfB; simp [H2.out]), _, rfl⟩
  have H2 := Lib.hid g2
  go_enter Tryz.func38, Tryz.ntmps38
  go_wp2_with fail
  go_quiet ((first
    | (go_at_call_of 57 (Value.slice B m c); exact quiet_1 (l00Same_is H2.out _ _ _ _ _ _ _ (hx.drewN _) (hx'.drewN _) hm9))
    | (go_at_call_of 57 (Value.slice C l d); exact quiet_1 (l00Same_any _ _ _ _ _ _ ys ys' _ (hy.drewN _) (hy'.drewN _) hl9))))
  go_wp2_with fail
  go_ret
  exact ⟨ret_bool (by unfold sameConfB; simp [H1.out, H2.out]), _, rfl⟩

theorem itC_add (sy : Int) (rs : List R3) (c : Conf) (a b : Nat) : itC sy rs (itC sy rs c a) b = itC sy rs c (a + b) := by
  induction b with
  | zero => rfl
  | succ b ih => show nextC sy rs (itC sy rs (itC sy rs c a) b) = nextC sy rs (itC sy rs c (a + b)); rw [ih]
theorem alive_add {sy : Int} {rs : List R3} {c : Conf} {a b : Nat} (h : Alive sy rs c a) : Alive sy rs (itC sy rs c a) b ↔ Alive sy rs c (a + b) := by
  constructor
  · intro hb j hj
    by_cases hja : j < a
    · exact h j hja
    · have h1 := hb (j - a) (by omega)
      rw [itC_add, itC_add, show a + (j - a) = j by omega, show a + (j - a + 1) = j + 1 by omega] at h1
      exact h1
  · intro hb j hj
    rw [itC_add, itC_add]
    exact hb (a + j) (by omega)

/-- What l25After returned, in a box. -/
def AfterBoxC (W : World) (sy : Int) (rs : List R3) (c0 : Conf) (N : Nat) (s5 s6 s7 : Value) (wx : World) : Prop :=
  ∃ g v x cf, s5 = .pointer (some ⟨g, 0, none⟩) ∧ s6 = .int .i64 x ∧ s7 = .bool v ∧ ConfC wx W.heap.size g cf ∧ (v = true → Alive sy rs c0 N ∧ cf = itC sy rs c0 N) ∧ (v = false → ¬ Alive sy rs c0 N) ∧ Below W.heap.size W wx
theorem l25After_int (g : Nat) (sy st : Int) (A : Option Addr) (n k : Nat) (rs : List R3) (c : Conf) (L : Option Addr) (a : Nat) (R : Option Addr) (d : Nat) (x : Int) (w : World) (hm : MachAt w g sy st A n k) (hrs : S3 w A n rs) (hx : SI w L c.xs.length c.xs) (hy : SI w R c.ys.length c.ys) (hgc : goodC sy st rs c) (hn : n ≤ 1048576) (h0 : 0 ≤ x) (h1 : x ≤ 1000000) :
    Calls Tryz.prog 37 #[.pointer (some ⟨g, 0, none⟩), .agg #[.int .i64 c.q, .slice L c.xs.length a, .slice R c.ys.length d], .int .i64 x] w (AfterS w sy rs c x.toNat) := by
  obtain ⟨N, rfl⟩ : ∃ N : Nat, x = (N : Int) := ⟨x.toNat, by omega⟩
  rw [Int.toNat_natCast]
  exact l25After_any g sy st A n k rs c L a R d N w hm hrs hx hy hgc hn (by omega)
theorem l25After_blanki (g : Nat) (sy st : Int) (A : Option Addr) (n k : Nat) (rs : List R3) (L : Option Addr) (a : Nat) (R : Option Addr) (d : Nat) (x : Int) (w : World) (hm : MachAt w g sy st A n k) (hrs : S3 w A n rs) (hgc : goodC sy st rs blankC) (hn : n ≤ 1048576) (h0 : 0 ≤ x) (h1 : x ≤ 1000000) :
    Calls Tryz.prog 37 #[.pointer (some ⟨g, 0, none⟩), .agg #[.int .i64 0, .slice L 0 a, .slice R 0 d], .int .i64 x] w (AfterS w sy rs blankC x.toNat) :=
  l25After_int g sy st A n k rs blankC L a R d x w hm hrs SI.nil SI.nil hgc hn h0 h1

end Go.Proofs.YtdlojbabnelbdaaGreatDoor
