/-
  Contracts of impl's checks of words and proofs: isLetters, IsWord, areWords, ValidProof, proofOf, afterSteps, CheckHalt.
-/
import Derived.Test.YtbedghebckflmaaRunU
import Derived.Test.YtbedghebckflmaaFirst
import Derived.Test.YtbedghebckflmaaRunV
namespace Go.Proofs.Ytbedghebckflmaa
open Go.RowKit

/-- A word. -/
def isWordB (xs : List Int) : Bool := decide (xs.length ≤ 400) && allIn xs 0 9
def areWordsB (xss : List (List Int)) : Bool := xss.all isWordB
theorem areWordsB_not (xss : List (List Int)) : (!xss.any (fun xs => !isWordB xs)) = areWordsB xss := by
  unfold areWordsB; rw [List.not_any_eq_all_not]; simp

theorem isLetters_any (A : Option Addr) (n c : Nat) (xs : List Int) (w : World) (hx : SI w A n xs) (hn : n ≤ 9223372036854775807) :
    Calls Try.prog 178 #[.slice A n c] w fun e w' => e = .returned (.bool (allIn xs 0 9)) ∧ w = w' := by
  go_enter Try.func178, Try.ntmps178
  go_wp2_with (go_at_call 157; refine (allWithin_any _ _ _ _ _ _ _ hx hn).mono ?_; rintro e w' ⟨rfl, rfl⟩)
  go_ret
  exact ⟨rfl, rfl⟩
theorem isWord_any (A : Option Addr) (n c : Nat) (xs : List Int) (w : World) (hx : SI w A n xs) (hn : n ≤ 9223372036854775807) :
    Calls Try.prog 156 #[.slice A n c] w fun e w' => e = .returned (.bool (isWordB xs)) ∧ w = w' := by
  have hl := Lib.hid hx.len
  by_cases h3 : n ≤ 400
  · have h4 : (n : Int) ≤ 400 := by omega
    go_enter Try.func156, Try.ntmps156
    go_wp2_with (go_at_call 178; refine (isLetters_any _ _ _ _ _ hx hn).mono ?_; rintro e w' ⟨rfl, rfl⟩)
    go_ret
    exact ⟨ret_bool (by unfold isWordB; rw [hl.out]; simp [h3]), rfl⟩
  · have h4 : ¬ (n : Int) ≤ 400 := by omega
    go_enter Try.func156, Try.ntmps156
    go_wp2
    go_ret
    exact ⟨ret_bool (by unfold isWordB; rw [hl.out]; simp; omega), rfl⟩
theorem areWords1_any (A : Option Addr) (n c : Nat) (xs : List Int) (w : World) (hx : SI w A n xs) (hn : n ≤ 9223372036854775807) :
    Calls Try.prog 182 #[.slice A n c] w fun e w' => e = .returned (.bool (!isWordB xs)) ∧ w = w' := by
  go_enter Try.func182, Try.ntmps182
  go_wp2_with (go_at_call 156; refine (isWord_any _ _ _ _ _ hx hn).mono ?_; rintro e w' ⟨rfl, rfl⟩)
  go_ret
  exact ⟨rfl, rfl⟩

set_option maxHeartbeats 400000 in
theorem indexFuncII0_any (A : Option Addr) (n c : Nat) (ts : List Sl) (f : FuncId) (p : List Int → Bool) (w : World) (hx : SII w A n ts) (hn : n ≤ 9223372036854775807) (hcall : ∀ (args : Array Value) (w : World), (callFunc f args).run Try.prog w = .ok (.enter f args) w)
    (hf : Hid (∀ t ∈ ts, Calls Try.prog f #[.slice t.A t.xs.length t.c] w fun e w' => e = .returned (.bool (p t.xs)) ∧ w = w')) :
    Calls Try.prog 184 #[.slice A n c, .func (.func f) #[] #[]] w fun e w' => e = .returned (.int .i64 (firstB p (nums ts))) ∧ w = w' := by
  go_enter Try.func184, Try.ntmps184
  go_wp2
  go_loop [8] (fun i => ∃ k : Nat, k ≤ n ∧ i = .int .i64 k ∧ Hid (((nums ts).take k).any p = false)) (fun i => n - (intOf i).toNat)
  case atStart => exact ⟨0, by omega, rfl, rfl⟩
  case round =>
    obtain ⟨k, hk, rfl, he⟩ := hrel
    by_cases hlt : k < n
    · obtain ⟨t, b, off, hT, htm, rfl, _, hc, hr⟩ := hx.pick hlt
      go_wp2_with fail
      refine (hf.out t htm).mono ?_
      rintro e w' ⟨rfl, rfl⟩
      cases hp : p t.xs
      · have HP := Lib.hid hp
        clear hp
        go_wp2
        exact ⟨⟨k + 1, by omega, by go_num, firstB_next hT.out HP.out he.out⟩, by simp [intOf]; omega⟩
      · have HP := Lib.hid hp
        clear hp
        go_wp2
        go_ret
        exact ⟨ret_int (firstB_at hT.out HP.out he.out), rfl⟩
    · go_wp2
      go_ret
      exact ⟨ret_int (firstB_none (by omega) hx.len he.out), rfl⟩
theorem containsFuncII0_any (A : Option Addr) (n c : Nat) (ts : List Sl) (f : FuncId) (p : List Int → Bool) (w : World) (hx : SII w A n ts) (hn : n ≤ 9223372036854775807) (hcall : ∀ (args : Array Value) (w : World), (callFunc f args).run Try.prog w = .ok (.enter f args) w)
    (hf : Hid (∀ t ∈ ts, Calls Try.prog f #[.slice t.A t.xs.length t.c] w fun e w' => e = .returned (.bool (p t.xs)) ∧ w = w')) :
    Calls Try.prog 181 #[.slice A n c, .func (.func f) #[] #[]] w fun e w' => e = .returned (.bool ((nums ts).any p)) ∧ w = w' := by
  go_enter Try.func181, Try.ntmps181
  go_wp2_with (go_at_call 184; refine (indexFuncII0_any _ _ _ ts _ p _ hx hn hcall hf).mono ?_; rintro e w' ⟨rfl, rfl⟩)
  go_ret
  exact ⟨ret_bool (firstB_ge p (nums ts)), rfl⟩
theorem areWords_any (A : Option Addr) (n c : Nat) (ts : List Sl) (w : World) (hx : SII w A n ts) (hn : n ≤ 9223372036854775807) (hns : ∀ t ∈ ts, t.xs.length ≤ 9223372036854775807) :
    Calls Try.prog 173 #[.slice A n c] w fun e w' => e = .returned (.bool (areWordsB (nums ts))) ∧ w = w' := by
  have HNS := Lib.hid hns
  clear hns
  go_enter Try.func173, Try.ntmps173
  go_wp2_with fail
  refine (containsFuncII0_any _ _ _ ts _ (fun xs => !isWordB xs) _ hx hn Try.call182 (fun t ht => areWords1_any _ _ _ _ _ (hx.2 t ht) (HNS.out t ht))).mono ?_
  rintro e w' ⟨rfl, rfl⟩
  go_wp2
  go_ret
  exact ⟨ret_bool (areWordsB_not _), rfl⟩

/-- A valid proof. -/
def validProofB (q : Int) (xs : List Int) (xss : List (List Int)) : Bool := inB q 1 8 && decide (xs.length ≤ 300) && decide (xss.length ≤ 300) && allIn xs (-1000000000000) 1000000000000 && areWordsB xss

set_option maxHeartbeats 1000000 in
theorem validProof_any (q : Int) (A : Option Addr) (n c : Nat) (xs : List Int) (B : Option Addr) (m d : Nat) (ts : List Sl) (w : World) (hx : SI w A n xs) (hy : SII w B m ts) (hn : n ≤ 1048576) (hm : m ≤ 1048576) (hns : ∀ t ∈ ts, t.xs.length ≤ 1048576) :
    Calls Try.prog 146 #[.agg #[.int .i64 q, .slice A n c, .slice B m d]] w fun e w' => e = .returned (.bool (validProofB q xs (nums ts))) ∧ Below w.heap.size w w' := by
  obtain ⟨W, hW_⟩ : ∃ W, W = w.alloc (.cells #[.int .i64 q, .slice A n c, .slice B m d] 58) := ⟨_, rfl⟩
  have b0 : Blk W w.heap.size 58 #[.int .i64 q, .slice A n c, .slice B m d] := by rw [hW_]; exact Blk.new w _ _
  have y0 : Below w.heap.size w W := by rw [hW_]; exact (Below.refl _ _).alloc (Nat.le_refl _) _
  have HW := Lib.hid hW_
  clear hW_
  have HL := Lib.hid hx.len
  have HM : Hid ((nums ts).length = m) := by show _ = _; have := hy.len; simpa [nums] using this
  have HNS := Lib.hid hns
  clear hns
  have u0 : W.cell? ⟨w.heap.size, 0, none⟩ = some (.int .i64 q) := b0.cell 0
  have u1 : W.cell? ⟨w.heap.size, 1, none⟩ = some (.slice A n c) := b0.cell 1
  have u2 : W.cell? ⟨w.heap.size, 2, none⟩ = some (.slice B m d) := b0.cell 2
  have c1 := containsFuncII0_any
  clear c1
  cases a1 : inB q 1 8
  · have A1 := Lib.hid a1
    clear a1
    go_enter Try.func146, Try.ntmps146
    go_wp2_with (go_at_call 96; refine (within_is A1.out _).mono ?_; rintro e w' ⟨rfl, rfl⟩)
    try rw [← HW.out]
    go_ret
    exact ⟨ret_bool (by unfold validProofB; rw [A1.out]; rfl), y0⟩
  have A1 := Lib.hid a1
  clear a1
  by_cases h1 : n ≤ 300
  · by_cases h2 : m ≤ 300
    · have i1 : decide ((300 : Int) < (n : Int)) = false := by simp; omega
      have i2 : decide ((300 : Int) < (m : Int)) = false := by simp; omega
      cases a2 : allIn xs (-1000000000000) 1000000000000
      · have A2 := Lib.hid a2
        clear a2
        go_enter Try.func146, Try.ntmps146
        go_wp2_with fail
        rw [← HW.out]
        go_wp2_with (first
          | (go_at_call 96; refine (within_is A1.out _).mono ?_; rintro e w' ⟨rfl, rfl⟩)
          | (go_at_call 157; refine (allWithin_any _ _ _ xs _ _ _ (hx.below y0) (by omega)).mono ?_; rw [A2.out]; rintro e w' ⟨rfl, rfl⟩))
        go_ret
        exact ⟨ret_bool (by unfold validProofB; rw [A2.out]; simp), y0⟩
      · have A2 := Lib.hid a2
        clear a2
        go_enter Try.func146, Try.ntmps146
        go_wp2_with fail
        rw [← HW.out]
        go_wp2_with (first
          | (go_at_call 96; refine (within_is A1.out _).mono ?_; rintro e w' ⟨rfl, rfl⟩)
          | (go_at_call 157; refine (allWithin_any _ _ _ xs _ _ _ (hx.below y0) (by omega)).mono ?_; rw [A2.out]; rintro e w' ⟨rfl, rfl⟩)
          | (go_at_call 173; refine (areWords_any _ _ _ ts _ (hy.below y0) (by omega) (fun t ht => by have := HNS.out t ht; omega)).mono ?_; rintro e w' ⟨rfl, rfl⟩))
        go_ret
        exact ⟨ret_bool (by unfold validProofB; rw [A1.out, A2.out, HL.out, HM.out]; simp [h1, h2]), y0⟩
    · have i1 : decide ((300 : Int) < (n : Int)) = false := by simp; omega
      have i2 : decide ((300 : Int) < (m : Int)) = true := by simp; omega
      go_enter Try.func146, Try.ntmps146
      go_wp2_with fail
      rw [← HW.out]
      go_wp2_with (go_at_call 96; refine (within_is A1.out _).mono ?_; rintro e w' ⟨rfl, rfl⟩)
      go_ret
      exact ⟨ret_bool (by unfold validProofB; rw [HM.out]; simp [h2]), y0⟩
  · have i1 : decide ((300 : Int) < (n : Int)) = true := by simp; omega
    go_enter Try.func146, Try.ntmps146
    go_wp2_with fail
    rw [← HW.out]
    go_wp2_with (go_at_call 96; refine (within_is A1.out _).mono ?_; rintro e w' ⟨rfl, rfl⟩)
    go_ret
    exact ⟨ret_bool (by unfold validProofB; rw [HL.out]; simp [h1]), y0⟩

/-- A machine and a proof of a kind, with so many numbers and no words. -/
def proofOfB (sy st : Int) (rs : List R3) (q : Int) (xs : List Int) (xss : List (List Int)) (kd : Int) (nn : Nat) : Bool :=
  machB sy st rs && validProofB q xs xss && decide (q = kd) && decide (xs.length = nn) && decide (xss.length = 0)

set_option maxHeartbeats 1000000 in
theorem proofOf_any (sy st : Int) (C : Option Addr) (l k : Nat) (rs : List R3) (q : Int) (A : Option Addr) (n c : Nat) (xs : List Int) (B : Option Addr) (m d : Nat) (ts : List Sl) (kd : Int) (nn : Nat) (w : World) (hr : S3 w C l rs) (hx : SI w A n xs) (hy : SII w B m ts) (hl : l ≤ 1048576) (hn : n ≤ 1048576) (hm : m ≤ 1048576) (hns : ∀ t ∈ ts, t.xs.length ≤ 1048576) :
    Calls Try.prog 95 #[.agg #[.int .i64 sy, .int .i64 st, .slice C l k], .agg #[.int .i64 q, .slice A n c, .slice B m d], .int .i64 kd, .int .i64 (nn : Int)] w fun e w' => e = .returned (.bool (proofOfB sy st rs q xs (nums ts) kd nn)) ∧ Below w.heap.size w w' := by
  obtain ⟨W, hW_⟩ : ∃ W, W = (w.alloc (.cells #[.int .i64 sy, .int .i64 st, .slice C l k] 30)).alloc (.cells #[.int .i64 q, .slice A n c, .slice B m d] 58) := ⟨_, rfl⟩
  have s_1 : (w.alloc (.cells #[.int .i64 sy, .int .i64 st, .slice C l k] 30)).heap.size = w.heap.size + 1 := by simp
  have b0 : Blk W w.heap.size 30 #[.int .i64 sy, .int .i64 st, .slice C l k] := by rw [hW_]; exact (Blk.new w _ _).alloc _
  have b1 : Blk W (w.heap.size + 1) 58 #[.int .i64 q, .slice A n c, .slice B m d] := by rw [hW_, ← s_1]; exact Blk.new _ _ _
  have y0 : Below w.heap.size w W := by rw [hW_]; exact ((Below.refl _ _).alloc (Nat.le_refl _) _).alloc (by simp) _
  have HW := Lib.hid hW_
  clear hW_ s_1
  have HL := Lib.hid hx.len
  have HM : Hid ((nums ts).length = m) := by show _ = _; have := hy.len; simpa [nums] using this
  have HNS := Lib.hid hns
  clear hns
  have u0 : W.cell? ⟨w.heap.size, 0, none⟩ = some (.int .i64 sy) := b0.cell 0
  have u1 : W.cell? ⟨w.heap.size, 1, none⟩ = some (.int .i64 st) := b0.cell 1
  have u2 : W.cell? ⟨w.heap.size, 2, none⟩ = some (.slice C l k) := b0.cell 2
  go_enter Try.func95, Try.ntmps95
  go_wp2_with fail
  rw [← HW.out]
  refine (validMachine_any _ _ _ _ _ rs _ (hr.below y0) hl).mono ?_
  rintro e W1 ⟨rfl, z1⟩
  have y1 := y0.trans (z1.mono y0.size)
  have c1 := b1.below' z1
  clear u0 u1 u2
  have u0 : W1.cell? ⟨(w.heap.size + 1), 0, none⟩ = some (.int .i64 q) := c1.cell 0
  have u1 : W1.cell? ⟨(w.heap.size + 1), 1, none⟩ = some (.slice A n c) := c1.cell 1
  have u2 : W1.cell? ⟨(w.heap.size + 1), 2, none⟩ = some (.slice B m d) := c1.cell 2
  cases a1 : machB sy st rs
  · have A1 := Lib.hid a1
    clear a1
    go_wp2_with fail
    go_ret
    exact ⟨ret_bool (by unfold proofOfB; rw [A1.out]; rfl), y1⟩
  have A1 := Lib.hid a1
  clear a1
  go_wp2_with fail
  refine (validProof_any _ _ _ _ xs _ _ _ ts _ (hx.below y1) (hy.below y1) hn hm HNS.out).mono ?_
  rintro e W2 ⟨rfl, z2⟩
  have y2 := y1.trans (z2.mono y1.size)
  have c2 := c1.below' z2
  clear u0 u1 u2
  have u0 : W2.cell? ⟨(w.heap.size + 1), 0, none⟩ = some (.int .i64 q) := c2.cell 0
  have u1 : W2.cell? ⟨(w.heap.size + 1), 1, none⟩ = some (.slice A n c) := c2.cell 1
  have u2 : W2.cell? ⟨(w.heap.size + 1), 2, none⟩ = some (.slice B m d) := c2.cell 2
  cases a2 : validProofB q xs (nums ts)
  · have A2 := Lib.hid a2
    clear a2
    go_wp2_with fail
    go_ret
    exact ⟨ret_bool (by unfold proofOfB; rw [A1.out, A2.out]; rfl), y2⟩
  have A2 := Lib.hid a2
  clear a2
  by_cases h1 : q = kd
  · by_cases h2 : n = nn
    · have g1 : (q == kd) = true := by simpa using h1
      have g2 : ((n : Int) == (nn : Int)) = true := by simp; omega
      by_cases h3 : m = 0
      · have g3 : ((m : Int) == 0) = true := by simpa using h3
        have H1 := Lib.hid h1
        have H2 := Lib.hid h2
        have H3 := Lib.hid h3
        clear h1 h2 h3
        go_wp2_with fail
        go_ret
        exact ⟨ret_bool (by unfold proofOfB; rw [A1.out, A2.out, HL.out, HM.out]; simp [H1.out, H2.out, H3.out]), y2⟩
      · have g3 : ((m : Int) == 0) = false := by simpa using h3
        have H3 := Lib.hid h3
        clear h1 h2 h3
        go_wp2_with fail
        go_ret
        exact ⟨ret_bool (by unfold proofOfB; rw [HM.out]; simp [H3.out]), y2⟩
    · have g1 : (q == kd) = true := by simpa using h1
      have g2 : ((n : Int) == (nn : Int)) = false := by simp; omega
      have H2 := Lib.hid h2
      clear h1 h2
      go_wp2_with fail
      go_ret
      exact ⟨ret_bool (by unfold proofOfB; rw [HL.out]; simp [H2.out]), y2⟩
  · have g1 : (q == kd) = false := by simpa using h1
    have H1 := Lib.hid h1
    clear h1
    go_wp2_with fail
    go_ret
    exact ⟨ret_bool (by unfold proofOfB; simp [H1.out]), y2⟩

/-- A runner behind N steps from the blank tape, and whether they can be made. -/
def AfterP (w : World) (sy st : Int) (A : Option Addr) (n k : Nat) (rs : List R3) (N : Nat) (e : Ending) (w' : World) : Prop :=
  ∃ g v, e = .returned (.tuple #[.pointer (some ⟨g, 0, none⟩), .bool v]) ∧ w.heap.size ≤ g ∧ (v = true → Alive sy rs blankC N ∧ RunC (fun _ => False) w' w.heap.size g sy st A n k (itC sy rs blankC N)) ∧ (v = false → ¬ Alive sy rs blankC N) ∧ Below w.heap.size w w'

theorem RunC.lo_mono {X : Nat → Prop} {w : World} {lo lo' g : Nat} {sy st : Int} {A : Option Addr} {n k : Nat} {c : Conf} (h : RunC X w lo g sy st A n k c) (hl : lo' ≤ lo) : RunC X w lo' g sy st A n k c := by
  obtain ⟨L, a, R, d, h1, h2, h3, h4⟩ := h
  exact ⟨L, a, R, d, h1, h2.mono hl, h3.mono hl, h4⟩
theorem Alive.mono {sy : Int} {rs : List R3} {c : Conf} {i j : Nat} (h : Alive sy rs c j) (hij : i ≤ j) : Alive sy rs c i := fun k hk => h k (by omega)
theorem not_alive_ended {sy : Int} {rs : List R3} {c : Conf} {N i : Nat} (h : Ended sy rs c N i) (hne : ¬ i = N) : ¬ Alive sy rs c N := by
  intro ha
  obtain ⟨h1, h2, h3⟩ := h
  rcases h3 with h3 | h3
  · exact hne h3
  · have h4 := (ha i (by omega)).1
    rw [h3] at h4; cases h4
theorem not_alive_full {sy : Int} {rs : List R3} {c : Conf} {N i : Nat} (h : Full sy rs c N i) : ¬ Alive sy rs c N := by
  intro ha
  obtain ⟨h1, h2, h3, h4⟩ := h
  have h5 := (ha i h1).2
  rw [h4] at h5; cases h5

set_option maxHeartbeats 2000000 in
theorem afterSteps_any (sy st : Int) (A : Option Addr) (n k : Nat) (rs : List R3) (N : Nat) (w : World) (hr : S3 w A n rs) (hn : n ≤ 1048576) (hg : goodC sy st rs blankC) (hN : N ≤ 1000000) :
    Calls Try.prog 97 #[.agg #[.int .i64 sy, .int .i64 st, .slice A n k], .int .i64 (N : Int)] w (AfterP w sy st A n k rs N) := by
  obtain ⟨W, hW_⟩ : ∃ W, W = w.alloc (.cells #[.int .i64 sy, .int .i64 st, .slice A n k] 30) := ⟨_, rfl⟩
  have b0 : Blk W w.heap.size 30 #[.int .i64 sy, .int .i64 st, .slice A n k] := by rw [hW_]; exact Blk.new w _ _
  have y0 : Below w.heap.size w W := by rw [hW_]; exact (Below.refl _ _).alloc (Nat.le_refl _) _
  have HW := Lib.hid hW_
  clear hW_
  have u0 : W.cell? ⟨w.heap.size, 0, none⟩ = some (.int .i64 sy) := b0.cell 0
  have u1 : W.cell? ⟨w.heap.size, 1, none⟩ = some (.int .i64 st) := b0.cell 1
  have u2 : W.cell? ⟨w.heap.size, 2, none⟩ = some (.slice A n k) := b0.cell 2
  go_enter Try.func97, Try.ntmps97
  go_wp2_with fail
  rw [← HW.out]
  refine (blankRun_any _ _ _ _ _ _).mono ?_
  rintro e W1 ⟨g, L, cl, R, cr, rfl, hgW, hrun, ol, or_, hap, z1⟩
  have hrc : RunC (fun _ => False) W1 W.heap.size g sy st A n k blankC := NewRunner.runC hrun ol or_ hap
  clear hap hrun ol or_ u0 u1 u2
  have y1 := y0.trans (z1.mono y0.size)
  have hzW : w.heap.size ≤ W.heap.size := y0.size
  go_wp2_with fail
  refine (run_any W W1 g sy st A n k rs blankC N hrc (hr.below y0) z1 hgW hg hn hN).mono ?_
  rintro e W2 ⟨hcase, z2⟩
  have y2 := y0.trans (z2.mono y0.size)
  rcases hcase with ⟨i, hi, rfl, hrc2⟩ | ⟨⟨i, hi⟩, rfl⟩
  · by_cases hiN : i = N
    · subst hiN
      have HA := Lib.hid hi.2.1
      clear hi
      go_wp2_with fail
      exact bodyPost_ret (v := .tuple #[.pointer (some ⟨g, 0, none⟩), .bool true]) (by simp [results, Try.results97, go_sem]) rfl ⟨g, true, rfl, by omega, fun _ => ⟨HA.out, RunC.lo_mono hrc2 hzW⟩, (fun h => by cases h), y2⟩
    · have HA := Lib.hid (not_alive_ended hi hiN)
      have g1 : ((i : Int) == (N : Int)) = false := by simp; omega
      clear hi hiN
      go_wp2_with fail
      exact bodyPost_ret (v := .tuple #[.pointer (some ⟨g, 0, none⟩), .bool false]) (by simp [results, Try.results97, go_sem]) rfl ⟨g, false, rfl, by omega, (fun h => by cases h), fun _ => HA.out, y2⟩
  · have HA := Lib.hid (not_alive_full hi)
    clear hi
    go_wp2_with fail
    exact bodyPost_ret (v := .tuple #[.pointer (some ⟨g, 0, none⟩), .bool false]) (by simp [results, Try.results97, go_sem]) rfl ⟨g, false, rfl, by omega, (fun h => by cases h), fun _ => HA.out, y2⟩

/-- Whether N steps can be made. -/
def aliveB (sy : Int) (rs : List R3) (c : Conf) (N : Nat) : Bool := decide (runN sy rs N c = some N)
theorem aliveB_true {sy : Int} {rs : List R3} {c : Conf} {N : Nat} (h : Alive sy rs c N) : aliveB sy rs c N = true := by
  unfold aliveB; rw [runN_ended ⟨Nat.le_refl _, h, .inl rfl⟩]; simp
theorem aliveB_false {sy : Int} {rs : List R3} {c : Conf} {N : Nat} (h : ¬ Alive sy rs c N) : aliveB sy rs c N = false := by
  unfold aliveB
  rw [decide_eq_false_iff_not]
  exact fun h1 => h (runN_alive h1)
/-- What CheckHalt returns. -/
def checkHaltF (sy st : Int) (rs : List R3) (q : Int) (xs : List Int) (xss : List (List Int)) : Bool :=
  proofOfB sy st rs q xs xss 1 1 && inB (xs.headD 0) 0 20000 && aliveB sy rs blankC (xs.headD 0).toNat && haltC sy rs (itC sy rs blankC (xs.headD 0).toNat)
theorem proofOf_parts {sy st : Int} {rs : List R3} {q : Int} {xs : List Int} {xss : List (List Int)} {kd : Int} {nn : Nat} (h : proofOfB sy st rs q xs xss kd nn = true) : goodC sy st rs blankC ∧ xs.length = nn := by
  unfold proofOfB at h
  simp only [Bool.and_eq_true, decide_eq_true_eq] at h
  exact ⟨by show validConfB sy st rs 0 [] [] = true; rw [blank_good]; exact h.1.1.1.1, h.1.2⟩

set_option maxHeartbeats 2000000 in
theorem checkHaltI_any (sy st : Int) (C : Option Addr) (l k : Nat) (rs : List R3) (q : Int) (A : Option Addr) (n c : Nat) (xs : List Int) (B : Option Addr) (m d : Nat) (ts : List Sl) (w : World) (hr : S3 w C l rs) (hx : SI w A n xs) (hy : SII w B m ts) (hl : l ≤ 1048576) (hn : n ≤ 1048576) (hm : m ≤ 1048576) (hns : ∀ t ∈ ts, t.xs.length ≤ 1048576) :
    Calls Try.prog 38 #[.agg #[.int .i64 sy, .int .i64 st, .slice C l k], .agg #[.int .i64 q, .slice A n c, .slice B m d]] w fun e w' => e = .returned (.bool (checkHaltF sy st rs q xs (nums ts))) ∧ Below w.heap.size w w' := by
  obtain ⟨W, hW_⟩ : ∃ W, W = (w.alloc (.cells #[.int .i64 sy, .int .i64 st, .slice C l k] 30)).alloc (.cells #[.int .i64 q, .slice A n c, .slice B m d] 58) := ⟨_, rfl⟩
  have s_1 : (w.alloc (.cells #[.int .i64 sy, .int .i64 st, .slice C l k] 30)).heap.size = w.heap.size + 1 := by simp
  have b0 : Blk W w.heap.size 30 #[.int .i64 sy, .int .i64 st, .slice C l k] := by rw [hW_]; exact (Blk.new w _ _).alloc _
  have b1 : Blk W (w.heap.size + 1) 58 #[.int .i64 q, .slice A n c, .slice B m d] := by rw [hW_, ← s_1]; exact Blk.new _ _ _
  have y0 : Below w.heap.size w W := by rw [hW_]; exact ((Below.refl _ _).alloc (Nat.le_refl _) _).alloc (by simp) _
  have HW := Lib.hid hW_
  clear hW_ s_1
  have HNS := Lib.hid hns
  clear hns
  have u0 : W.cell? ⟨w.heap.size, 0, none⟩ = some (.int .i64 sy) := b0.cell 0
  have u1 : W.cell? ⟨w.heap.size, 1, none⟩ = some (.int .i64 st) := b0.cell 1
  have u2 : W.cell? ⟨w.heap.size, 2, none⟩ = some (.slice C l k) := b0.cell 2
  have v0 : W.cell? ⟨(w.heap.size + 1), 0, none⟩ = some (.int .i64 q) := b1.cell 0
  have v1 : W.cell? ⟨(w.heap.size + 1), 1, none⟩ = some (.slice A n c) := b1.cell 1
  have v2 : W.cell? ⟨(w.heap.size + 1), 2, none⟩ = some (.slice B m d) := b1.cell 2
  go_enter Try.func38, Try.ntmps38
  go_wp2_with fail
  rw [← HW.out]
  refine (proofOf_any _ _ _ _ _ rs _ _ _ _ xs _ _ _ ts _ 1 _ (hr.below y0) (hx.below y0) (hy.below y0) hl hn hm HNS.out).mono ?_
  rintro e W1 ⟨rfl, z1⟩
  have y1 := y0.trans (z1.mono y0.size)
  have c0 := b0.below' z1
  have c1 := b1.below' z1
  clear u0 u1 u2 v0 v1 v2
  cases a1 : proofOfB sy st rs q xs (nums ts) 1 1
  · have A1 := Lib.hid a1
    clear a1
    go_wp2_with fail
    go_ret
    exact ⟨ret_bool (by unfold checkHaltF; rw [A1.out]; rfl), y1⟩
  obtain ⟨hg, hxl⟩ := proofOf_parts a1
  have A1 := Lib.hid a1
  clear a1
  obtain rfl : n = 1 := by have := hx.len; omega
  obtain ⟨b, off, rfl, hbl, hc⟩ := (hx.below y1).at0 (by omega)
  obtain ⟨x, hxx⟩ : ∃ x, x = xs.headD 0 := ⟨_, rfl⟩
  rw [← hxx] at hc
  have HX := Lib.hid hxx
  clear hxx hxl
  have u0 : W1.cell? ⟨w.heap.size, 0, none⟩ = some (.int .i64 sy) := c0.cell 0
  have u1 : W1.cell? ⟨w.heap.size, 1, none⟩ = some (.int .i64 st) := c0.cell 1
  have u2 : W1.cell? ⟨w.heap.size, 2, none⟩ = some (.slice C l k) := c0.cell 2
  have v0 : W1.cell? ⟨(w.heap.size + 1), 0, none⟩ = some (.int .i64 q) := c1.cell 0
  have v1 : W1.cell? ⟨(w.heap.size + 1), 1, none⟩ = some (.slice (some ⟨b, off, none⟩) 1 c) := c1.cell 1
  have v2 : W1.cell? ⟨(w.heap.size + 1), 2, none⟩ = some (.slice B m d) := c1.cell 2
  cases a2 : inB x 0 20000
  · have A2 := Lib.hid a2
    clear a2
    go_wp2_with (go_at_call 96; refine (within_is A2.out _).mono ?_; rintro e w' ⟨rfl, rfl⟩)
    go_ret
    exact ⟨ret_bool (by unfold checkHaltF; rw [← HX.out, A2.out]; simp), y1⟩
  have A2 := Lib.hid a2
  have hb := (inB_iff _ _ _).1 a2
  obtain ⟨N, rfl⟩ : ∃ N : Nat, x = (N : Int) := ⟨x.toNat, by omega⟩
  clear a2
  go_wp2_with (go_at_call 96; refine (within_is A2.out _).mono ?_; rintro e w' ⟨rfl, rfl⟩)
  go_region_held3 (fun w' => w'.cell? ⟨w.heap.size, 0, none⟩ = some (.int .i64 sy) ∧ w'.cell? ⟨w.heap.size, 1, none⟩ = some (.int .i64 st) ∧ w'.cell? ⟨w.heap.size, 2, none⟩ = some (.slice C l k) ∧ w'.cell? ⟨w.heap.size + 1, 1, none⟩ = some (.slice (some ⟨b, off, none⟩) 1 c) ∧ w'.cell? ⟨b, off, none⟩ = some (.int .i64 (N : Int)))
    (first
      | (go_keep; done)
      | (exact ⟨(c0.below' z2).cell 0, (c0.below' z2).cell 1, (c0.below' z2).cell 2, (c1.below' z2).cell 1, (z2.cell (p := ⟨b, off, none⟩) hbl).trans hc⟩))
    (first
      | (go_at_call 97; refine (afterSteps_any _ _ _ _ _ rs N _ ((hr.below y1).drewN 1) hl hg (by omega)).mono ?_; rintro e W2 ⟨g, v, rfl, hgl, hv1, hv2, z2'⟩; have z2 : Below W1.heap.size W1 W2 := below_undrew z2'))
  have y2 := y1.trans (z2.mono y1.size)
  have HF : Hid (checkHaltF sy st rs q xs (nums ts) = (aliveB sy rs blankC N && haltC sy rs (itC sy rs blankC N))) := Lib.hid (by unfold checkHaltF; rw [← HX.out, A1.out, A2.out, Int.toNat_natCast]; simp)
  cases v with
  | false =>
    have HV := Lib.hid (aliveB_false (hv2 rfl))
    clear hv1 hv2 u0 u1 u2 v0 v1 v2 hc
    go_wp2_with fail
    go_ret
    exact ⟨ret_bool (by rw [HF.out, HV.out]; rfl), y2⟩
  | true =>
    obtain ⟨ha, hrc⟩ := hv1 rfl
    have HV := Lib.hid (aliveB_true ha)
    have hgc := ha.good hg
    clear hv1 hv2 u0 u1 u2 v0 v1 v2 hc ha
    go_wp2_with fail
    refine (halts_c hrc (hr.below y2) hgc hl).mono ?_
    rintro e W3 ⟨rfl, z3⟩
    go_wp2_with fail
    go_ret
    exact ⟨ret_bool (by rw [HF.out, HV.out]; rfl), y2.trans (z3.mono y2.size)⟩
end Go.Proofs.Ytbedghebckflmaa
