/-
  Contracts of the reference's checks of words and proofs: l03Is, l03All, l25Is, l25Form, l25Blank, l25Side, l25After, CheckHalt.
-/
import Derived.Test.YthipbeggaeogcaaProofI
namespace Go.Proofs.Ythipbeggaeogcaa
open Go.RowKit

theorem isWord_out {xs : List Int} {k n : Nat} (hk : k < n) (hl : xs.length = n) (h : (!inB (xs[k]'(by omega)) 0 9) = true) : false = isWordB xs := by
  have := allIn_at hk hl h
  unfold isWordB; rw [← this]; simp
theorem isWord_end {xs : List Int} {k n : Nat} (hk : n ≤ k) (hl : xs.length = n) (he : allIn (xs.take k) 0 9 = true) : decide ((n : Int) ≤ 400) = isWordB xs := by
  have := allIn_end hk hl he
  unfold isWordB; rw [← this, hl]; simp; omega

set_option maxHeartbeats 400000 in
theorem l03Is_any (A : Option Addr) (n c : Nat) (xs : List Int) (w : World) (hx : SI w A n xs) (hn : n ≤ 9223372036854775807) :
    Calls Try.prog 196 #[.slice A n c] w fun e w' => e = .returned (.bool (isWordB xs)) ∧ w = w' := by
  go_enter Try.func196, Try.ntmps196
  go_wp2
  go_loop [3] (fun i => ∃ k : Nat, k ≤ n ∧ i = .int .i64 k ∧ Hid (allIn (xs.take k) 0 9 = true)) (fun i => n - (intOf i).toNat)
  case atStart => exact ⟨0, by omega, rfl, rfl⟩
  case round =>
    obtain ⟨k, hk, rfl, he⟩ := hrel
    by_cases hlt : k < n
    · obtain ⟨b, off, rfl, _, hc⟩ := hx.at_ hlt
      go_wp2_with (go_at_call 82; refine (l00In_any _ _ _ _).mono ?_; rintro e w' ⟨rfl, rfl⟩)
      · go_ret
        exact ⟨ret_bool (isWord_out hlt hx.len (by assumption)), rfl⟩
      · exact ⟨⟨k + 1, by omega, by go_num, allIn_next hlt hx.len (by assumption) he.out⟩, by simp [intOf]; omega⟩
    · go_wp2
      go_ret
      exact ⟨ret_bool (isWord_end (by omega) hx.len he.out), rfl⟩

theorem areWords_not {ts : List Sl} {t : Sl} {k : Nat} (hT : ts[k]? = some t) (h : (!isWordB t.xs) = true) : false = areWordsB (nums ts) := by
  symm
  unfold areWordsB; rw [List.all_eq_false]
  exact ⟨t.xs, by simp only [nums, List.mem_map]; exact ⟨t, List.mem_of_getElem? hT, rfl⟩, by simpa using h⟩
theorem areWords_next {ts : List Sl} {t : Sl} {k : Nat} (hT : ts[k]? = some t) (h : (!isWordB t.xs) = false) (he : areWordsB ((nums ts).take k) = true) : areWordsB ((nums ts).take (k + 1)) = true := by
  obtain ⟨hk, rfl⟩ := List.getElem?_eq_some_iff.1 hT
  unfold areWordsB at he ⊢
  rw [List.take_succ_eq_append_getElem (by simpa [nums] using hk), List.all_append, he]
  simpa [nums] using h
theorem areWords_end {ts : List Sl} {k n : Nat} (hk : n ≤ k) (hl : ts.length = n) (he : areWordsB ((nums ts).take k) = true) : true = areWordsB (nums ts) := by
  rw [List.take_of_length_le (by simp [nums]; omega)] at he; exact he.symm

/-- A proof behind a pointer. -/
def PrfAt (w : World) (g : Nat) (q : Int) (A : Option Addr) (n c : Nat) (B : Option Addr) (m d : Nat) : Prop :=
  w.cell? ⟨g, 0, none⟩ = some (.int .i64 q) ∧ w.cell? ⟨g, 1, none⟩ = some (.slice A n c) ∧ w.cell? ⟨g, 2, none⟩ = some (.slice B m d)
theorem PrfAt.below {w w' : World} {g : Nat} {q : Int} {A : Option Addr} {n c : Nat} {B : Option Addr} {m d : Nat} (h : PrfAt w g q A n c B m d) (hb : Below w.heap.size w w') : PrfAt w' g q A n c B m d := by
  have hlt : g < w.heap.size := World.block_lt_of_cell? w _ h.1
  exact ⟨(hb.cell (p := ⟨g, 0, none⟩) hlt).trans h.1, (hb.cell (p := ⟨g, 1, none⟩) hlt).trans h.2.1, (hb.cell (p := ⟨g, 2, none⟩) hlt).trans h.2.2⟩
theorem Blk.prfAt {w : World} {g : Nat} {t : TypeId} {q : Int} {A : Option Addr} {n c : Nat} {B : Option Addr} {m d : Nat} (h : Blk w g t #[.int .i64 q, .slice A n c, .slice B m d]) : PrfAt w g q A n c B m d := ⟨h.cell 0, h.cell 1, h.cell 2⟩

def formB (q : Int) (xs : List Int) (xss : List (List Int)) (kd : Int) (nn : Nat) : Bool := validProofB q xs xss && decide (q = kd) && decide (xs.length = nn) && decide (xss.length = 0)
theorem formB_eq (sy st : Int) (rs : List R3) (q : Int) (xs : List Int) (xss : List (List Int)) (kd : Int) (nn : Nat) : proofOfB sy st rs q xs xss kd nn = (machB sy st rs && formB q xs xss kd nn) := by
  unfold proofOfB formB; simp only [Bool.and_assoc]

set_option maxHeartbeats 1000000 in
theorem l25Blank_any (w : World) : Calls Try.prog 137 #[] w (NewConf w 0 [] []) := by
  obtain ⟨C, hC⟩ : ∃ C : Obj, C = .cells #[.int .i64 0, .slice (some ⟨w.heap.size + 1, 0, none⟩) 0 0, .slice (some ⟨w.heap.size + 1 + 1, 0, none⟩) 0 0] 172 := ⟨_, rfl⟩
  have s1 : (w.alloc C).heap.size = w.heap.size + 1 := by simp
  have s2 : ((w.alloc C).alloc (.cells #[] 2)).heap.size = w.heap.size + 1 + 1 := by simp
  have o1 := (Own.lit (w.alloc C) #[] 2 0 1 w.heap.size (by simp) (by simp [maxLen]) (by simp)).alloc (.cells #[] 2)
  have o2 := Own.lit ((w.alloc C).alloc (.cells #[] 2)) #[] 2 0 1 w.heap.size (by simp) (by simp [maxLen]) (by simp; omega)
  rw [s1] at o1
  rw [s2] at o2
  have d : Blk (((w.alloc C).alloc (.cells #[] 2)).alloc (.cells #[] 2)) w.heap.size 172 #[.int .i64 0, .slice (some ⟨w.heap.size + 1, 0, none⟩) 0 0, .slice (some ⟨w.heap.size + 1 + 1, 0, none⟩) 0 0] := by rw [hC]; exact ((Blk.new w _ _).alloc _).alloc _
  have y : Below w.heap.size w (((w.alloc C).alloc (.cells #[] 2)).alloc (.cells #[] 2)) := (((Below.refl _ _).alloc (Nat.le_refl _) _).alloc (by simp) _).alloc (by simp; omega) _
  have HC := Lib.hid hC
  clear hC s1 s2
  go_enter Try.func137, Try.ntmps137
  go_wp2_with fail
  rw [← HC.out]
  generalize ((w.alloc C).alloc (.cells #[] 2)).alloc (.cells #[] 2) = wf at *
  have q0 : wf.cell? ⟨w.heap.size, 0, none⟩ = some (.int .i64 0) := d.cell 0
  have q1 : wf.cell? ⟨w.heap.size, 1, none⟩ = some (.slice (some ⟨w.heap.size + 1, 0, none⟩) 0 0) := d.cell 1
  have q2 : wf.cell? ⟨w.heap.size, 2, none⟩ = some (.slice (some ⟨w.heap.size + 1 + 1, 0, none⟩) 0 0) := d.cell 2
  exact bodyPost_ret (v := .agg #[.int .i64 0, .slice (some ⟨w.heap.size + 1, 0, none⟩) 0 0, .slice (some ⟨w.heap.size + 1 + 1, 0, none⟩) 0 0]) (by simp [results, Try.results137, go_sem, q0, q1, q2]) rfl ⟨_, 0, _, 0, rfl, o1, o2, fun b h1 h2 => by simp [blk] at h1 h2; omega, y⟩

set_option maxHeartbeats 2000000 in
theorem l25Side_c {w : World} {g : Nat} {sy st : Int} {A : Option Addr} {n k : Nat} {rs : List R3} {f lo : Nat} {c : Conf} (hm : MachAt w g sy st A n k) (hrs : S3 w A n rs) (hc : ConfC w lo f c) (hg : goodC sy st rs c) (_hn : n ≤ 1048576) :
    Calls Try.prog 139 #[.pointer (some ⟨g, 0, none⟩), .pointer (some ⟨f, 0, none⟩)] w fun e w' => e = .returned (.int .i64 (ruleOf sy rs c.q c.ys).b) ∧ ∃ nq, w' = w.drewN nq := by
  obtain ⟨p1, p2, p3, p4, p5, p6, p7, p8, p9, p10, p11, p12⟩ := conf_parts hg
  have hys : ∀ y ∈ c.ys.reverse, 0 ≤ y ∧ y ≤ sy - 1 := fun y hy' => p11 y (List.mem_reverse.mp hy')
  have hrl : rs.length = n := hrs.len
  obtain ⟨i1, i2, i3, i4, idx, i5, i6⟩ := at_parts (n := n) p1 p2 p3 p4 (by rw [← hrl]; exact p5) p6 p7 hys
  have ir : rs[idx]? = some (ruleOf sy rs c.q c.ys) := ruleOf_get i5 (by rw [hrl]; exact i6)
  obtain ⟨q0, q1, q2⟩ := id hm
  obtain ⟨r', b, off, hr', _, rfl, hbl, c0, c1, c2⟩ := hrs.pick i6
  obtain rfl : ruleOf sy rs c.q c.ys = r' := by have e2 := hr'.out; rw [ir] at e2; simpa using e2
  have j1 : (0 : Int) ≤ (idx : Int) := by omega
  have j2 : (idx : Int) < (n : Int) := by omega
  have I5 := Lib.hid i5
  have HAT : Hid (∀ q, Calls Try.prog 175 #[.pointer (some ⟨g, 0, none⟩), .pointer (some ⟨f, 0, none⟩)] (w.drewN q) fun e w' => e = .returned (.int .i64 (idx : Int)) ∧ ∃ nq, w' = (w.drewN q).drewN nq) := fun q => by
    rw [← i5]; exact l05At_c (hm.drewN q) (hc.drewN q) hg
  clear p5 p10 p11 p12 hys i5 ir hrl
  go_enter Try.func139, Try.ntmps139
  go_wp2_with fail
  go_quiet ((go_at_call 175; exact quiet_1 (HAT.out _)))
  go_wp2_with fail
  go_ret
  exact ⟨rfl, _, rfl⟩
/-- The configuration behind N steps, and whether they can be made. -/
def AfterS (w : World) (sy : Int) (rs : List R3) (c : Conf) (N : Nat) (e : Ending) (w' : World) : Prop :=
  ∃ (v : Bool) (x : Int) (cf : Conf) (L : Option Addr) (a : Nat) (R : Option Addr) (d : Nat), e = .returned (.tuple #[.agg #[.int .i64 cf.q, .slice L cf.xs.length a, .slice R cf.ys.length d], .int .i64 x, .bool v]) ∧ (v = true → Alive sy rs c N ∧ cf = itC sy rs c N) ∧ (v = false → ¬ Alive sy rs c N) ∧
    Own w' w.heap.size 2 1 L cf.xs.length a (ints cf.xs) ∧ Own w' w.heap.size 2 1 R cf.ys.length d (ints cf.ys) ∧ (∀ b, blk L = some b → blk R ≠ some b) ∧ Below w.heap.size w w'
theorem not_alive_halt {sy : Int} {rs : List R3} {c : Conf} {N i : Nat} (h : i < N) (hh : haltC sy rs (itC sy rs c i) = true) : ¬ Alive sy rs c N := fun ha => by
  have := (ha i h).1; rw [hh] at this; cases this
theorem not_alive_room {sy : Int} {rs : List R3} {c : Conf} {N i : Nat} (h : i < N) (hh : roomC (nextC sy rs (itC sy rs c i)) = false) : ¬ Alive sy rs c N := fun ha => by
  have h1 : roomC (nextC sy rs (itC sy rs c i)) = true := (ha i h).2
  rw [hh] at h1; cases h1

/-- What l25After returned, in a box. -/
def AfterBox (W : World) (sy : Int) (rs : List R3) (N : Nat) (s5 s6 s7 : Value) (wx : World) : Prop :=
  ∃ g v x cf, s5 = .pointer (some ⟨g, 0, none⟩) ∧ s6 = .int .i64 x ∧ s7 = .bool v ∧ ConfC wx W.heap.size g cf ∧ (v = true → Alive sy rs blankC N ∧ cf = itC sy rs blankC N) ∧ (v = false → ¬ Alive sy rs blankC N) ∧ Below W.heap.size W wx
theorem MachAt.alloc {w : World} {g : Nat} {sy st : Int} {A : Option Addr} {n k : Nat} (h : MachAt w g sy st A n k) (o : Obj) : MachAt (w.alloc o) g sy st A n k := h.below ((Below.refl _ _).alloc (Nat.le_refl _) o)
theorem ConfC.new {W w : World} {q : Int} {xs ys : List Int} {L R : Option Addr} {a d : Nat} (oL : Own w W.heap.size 2 1 L xs.length a (ints xs)) (oR : Own w W.heap.size 2 1 R ys.length d (ints ys)) (hap : ∀ b, blk L = some b → blk R ≠ some b) :
    ConfC (w.alloc (.cells #[.int .i64 q, .slice L xs.length a, .slice R ys.length d] 172)) W.heap.size w.heap.size ⟨q, xs, ys⟩ := ⟨L, a, R, d, Blk.new w _ _, oL.alloc _, oR.alloc _, hap⟩

end Go.Proofs.Ythipbeggaeogcaa
