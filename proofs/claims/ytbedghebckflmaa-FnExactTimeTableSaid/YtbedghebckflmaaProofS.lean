/-
  Contracts of the reference's checks of words and proofs: l03Is, l03All, l25Is, l25Form, l25Blank, l25Side, l25After, CheckHalt.
-/
import Derived.Test.YtbedghebckflmaaProofI
namespace Go.Proofs.Ytbedghebckflmaa
open Go.RowKit

theorem isWord_out {xs : List Int} {k n : Nat} (hk : k < n) (hl : xs.length = n) (h : (!inB (xs[k]'(by omega)) 0 9) = true) : false = isWordB xs := by
  have := allIn_at hk hl h
  unfold isWordB; rw [← this]; simp
theorem isWord_end {xs : List Int} {k n : Nat} (hk : n ≤ k) (hl : xs.length = n) (he : allIn (xs.take k) 0 9 = true) : decide ((n : Int) ≤ 400) = isWordB xs := by
  have := allIn_end hk hl he
  unfold isWordB; rw [← this, hl]; simp; omega

set_option maxHeartbeats 400000 in
theorem l03Is_any (A : Option Addr) (n c : Nat) (xs : List Int) (w : World) (hx : SI w A n xs) (hn : n ≤ 9223372036854775807) :
    Calls Try.prog 174 #[.slice A n c] w fun e w' => e = .returned (.bool (isWordB xs)) ∧ w = w' := by
  go_enter Try.func174, Try.ntmps174
  go_wp2
  go_loop [3] (fun i => ∃ k : Nat, k ≤ n ∧ i = .int .i64 k ∧ Hid (allIn (xs.take k) 0 9 = true)) (fun i => n - (intOf i).toNat)
  case atStart => exact ⟨0, by omega, rfl, rfl⟩
  case round =>
    obtain ⟨k, hk, rfl, he⟩ := hrel
    by_cases hlt : k < n
    · obtain ⟨b, off, rfl, _, hc⟩ := hx.at_ hlt
      go_wp2_with (go_at_call 92; refine (l00In_any _ _ _ _).mono ?_; rintro e w' ⟨rfl, rfl⟩)
      · go_ret
        exact ⟨ret_bool (isWord_out hlt hx.len (by assumption)), rfl⟩
      · exact ⟨⟨k + 1, by omega, by go_num, allIn_next hlt hx.len (by assumption) he.out⟩, by simp [intOf]; omega⟩
    · go_wp2
      go_ret
      exact ⟨ret_bool (isWord_end (by omega) hx.len he.out), rfl⟩

theorem areWords_not {ts : List Sl} {t : Sl} {k : Nat} (hT : ts[k]? = some t) (h : (!isWordB t.xs) = true) : false = areWordsB (nums ts) := by
  symm
  unfold areWordsB; rw [List.all_eq_false]
  exact ⟨t.xs, by simp only [nums, List.mem_map]; exact ⟨t, List.mem_of_getElem? hT, rfl⟩, by simpa using h⟩
theorem areWords_next {ts : List Sl} {t : Sl} {k : Nat} (hT : ts[k]? = some t) (h : (!isWordB t.xs) = false) (he : areWordsB ((nums ts).take k) = true) : areWordsB ((nums ts).take (k + 1)) = true := by
  obtain ⟨hk, rfl⟩ := List.getElem?_eq_some_iff.1 hT
  unfold areWordsB at he ⊢
  rw [List.take_succ_eq_append_getElem (by simpa [nums] using hk), List.all_append, he]
  simpa [nums] using h
theorem areWords_end {ts : List Sl} {k n : Nat} (hk : n ≤ k) (hl : ts.length = n) (he : areWordsB ((nums ts).take k) = true) : true = areWordsB (nums ts) := by
  rw [List.take_of_length_le (by simp [nums]; omega)] at he; exact he.symm

set_option maxHeartbeats 400000 in
theorem l03All_any (A : Option Addr) (n c : Nat) (ts : List Sl) (w : World) (hx : SII w A n ts) (hn : n ≤ 9223372036854775807) (hns : ∀ t ∈ ts, t.xs.length ≤ 9223372036854775807) :
    Calls Try.prog 172 #[.slice A n c] w fun e w' => e = .returned (.bool (areWordsB (nums ts))) ∧ w = w' := by
  have HNS := Lib.hid hns
  clear hns
  go_enter Try.func172, Try.ntmps172
  go_wp2
  go_loop [3] (fun i => ∃ k : Nat, k ≤ n ∧ i = .int .i64 k ∧ Hid (areWordsB ((nums ts).take k) = true)) (fun i => n - (intOf i).toNat)
  case atStart => exact ⟨0, by omega, rfl, rfl⟩
  case round =>
    obtain ⟨k, hk, rfl, he⟩ := hrel
    by_cases hlt : k < n
    · obtain ⟨t, b, off, hT, htm, rfl, _, hc, hr⟩ := hx.pick hlt
      have hnt := HNS.out t htm
      go_wp2_with (go_at_call 174; refine (l03Is_any _ _ _ _ _ hr hnt).mono ?_; rintro e w' ⟨rfl, rfl⟩)
      · go_ret
        exact ⟨ret_bool (areWords_not hT.out (by assumption)), rfl⟩
      · exact ⟨⟨k + 1, by omega, by go_num, areWords_next hT.out (by assumption) he.out⟩, by simp [intOf]; omega⟩
    · go_wp2
      go_ret
      exact ⟨ret_bool (areWords_end (by omega) hx.len he.out), rfl⟩

/-- A proof behind a pointer. -/
def PrfAt (w : World) (g : Nat) (q : Int) (A : Option Addr) (n c : Nat) (B : Option Addr) (m d : Nat) : Prop :=
  w.cell? ⟨g, 0, none⟩ = some (.int .i64 q) ∧ w.cell? ⟨g, 1, none⟩ = some (.slice A n c) ∧ w.cell? ⟨g, 2, none⟩ = some (.slice B m d)
theorem PrfAt.below {w w' : World} {g : Nat} {q : Int} {A : Option Addr} {n c : Nat} {B : Option Addr} {m d : Nat} (h : PrfAt w g q A n c B m d) (hb : Below w.heap.size w w') : PrfAt w' g q A n c B m d := by
  have hlt : g < w.heap.size := World.block_lt_of_cell? w _ h.1
  exact ⟨(hb.cell (p := ⟨g, 0, none⟩) hlt).trans h.1, (hb.cell (p := ⟨g, 1, none⟩) hlt).trans h.2.1, (hb.cell (p := ⟨g, 2, none⟩) hlt).trans h.2.2⟩
theorem Blk.prfAt {w : World} {g : Nat} {t : TypeId} {q : Int} {A : Option Addr} {n c : Nat} {B : Option Addr} {m d : Nat} (h : Blk w g t #[.int .i64 q, .slice A n c, .slice B m d]) : PrfAt w g q A n c B m d := ⟨h.cell 0, h.cell 1, h.cell 2⟩

set_option maxHeartbeats 1000000 in
theorem l25Is_any (g : Nat) (q : Int) (A : Option Addr) (n c : Nat) (xs : List Int) (B : Option Addr) (m d : Nat) (ts : List Sl) (w : World) (hp : PrfAt w g q A n c B m d) (hx : SI w A n xs) (hy : SII w B m ts) (hn : n ≤ 1048576) (hm : m ≤ 1048576) (hns : ∀ t ∈ ts, t.xs.length ≤ 1048576) :
    Calls Try.prog 144 #[.pointer (some ⟨g, 0, none⟩)] w fun e w' => e = .returned (.bool (validProofB q xs (nums ts))) ∧ w = w' := by
  obtain ⟨u0, u1, u2⟩ := hp
  have HL := Lib.hid hx.len
  have HM : Hid ((nums ts).length = m) := by show _ = _; have := hy.len; simpa [nums] using this
  have HNS := Lib.hid hns
  clear hns
  cases a1 : inB q 1 8
  · have A1 := Lib.hid a1
    clear a1
    go_enter Try.func144, Try.ntmps144
    go_wp2_with (go_at_call 92; refine (l00In_is A1.out _).mono ?_; rintro e w' ⟨rfl, rfl⟩)
    go_ret
    exact ⟨ret_bool (by unfold validProofB; rw [A1.out]; rfl), rfl⟩
  have A1 := Lib.hid a1
  clear a1
  by_cases h1 : n ≤ 300
  · by_cases h2 : m ≤ 300
    · have i1 : decide ((300 : Int) < (n : Int)) = false := by simp; omega
      have i2 : decide ((300 : Int) < (m : Int)) = false := by simp; omega
      go_enter Try.func144, Try.ntmps144
      go_wp2_with (go_at_call 92; refine (l00In_is A1.out _).mono ?_; rintro e w' ⟨rfl, rfl⟩)
      go_loop [3] (fun i => ∃ k : Nat, k ≤ n ∧ i = .int .i64 k ∧ Hid (allIn (xs.take k) (-1000000000000) 1000000000000 = true)) (fun i => n - (intOf i).toNat)
      case atStart => exact ⟨0, by omega, rfl, rfl⟩
      case round =>
        obtain ⟨k, hk, rfl, he⟩ := hrel
        by_cases hlt : k < n
        · obtain ⟨b, off, rfl, _, hc⟩ := hx.at_ hlt
          go_wp2_with (go_at_call 92; refine (l00In_any _ _ _ _).mono ?_; rintro e w' ⟨rfl, rfl⟩)
          · go_ret
            exact ⟨ret_bool (by unfold validProofB; rw [← allIn_at hlt hx.len (by assumption)]; simp), rfl⟩
          · exact ⟨⟨k + 1, by omega, by go_num, allIn_next hlt hx.len (by assumption) he.out⟩, by simp [intOf]; omega⟩
        · go_wp2_with (go_at_call 172; refine (l03All_any _ _ _ ts _ hy (by omega) (fun t ht => by have := HNS.out t ht; omega)).mono ?_; rintro e w' ⟨rfl, rfl⟩)
          go_ret
          exact ⟨ret_bool (by unfold validProofB; rw [A1.out, ← allIn_end (by omega) hx.len he.out, HL.out, HM.out]; simp [h1, h2]), rfl⟩
    · have i1 : decide ((300 : Int) < (n : Int)) = false := by simp; omega
      have i2 : decide ((300 : Int) < (m : Int)) = true := by simp; omega
      go_enter Try.func144, Try.ntmps144
      go_wp2_with (go_at_call 92; refine (l00In_is A1.out _).mono ?_; rintro e w' ⟨rfl, rfl⟩)
      go_ret
      exact ⟨ret_bool (by unfold validProofB; rw [HM.out]; simp [h2]), rfl⟩
  · have i1 : decide ((300 : Int) < (n : Int)) = true := by simp; omega
    go_enter Try.func144, Try.ntmps144
    go_wp2_with (go_at_call 92; refine (l00In_is A1.out _).mono ?_; rintro e w' ⟨rfl, rfl⟩)
    go_ret
    exact ⟨ret_bool (by unfold validProofB; rw [HL.out]; simp [h1]), rfl⟩

def formB (q : Int) (xs : List Int) (xss : List (List Int)) (kd : Int) (nn : Nat) : Bool := validProofB q xs xss && decide (q = kd) && decide (xs.length = nn) && decide (xss.length = 0)
theorem formB_eq (sy st : Int) (rs : List R3) (q : Int) (xs : List Int) (xss : List (List Int)) (kd : Int) (nn : Nat) : proofOfB sy st rs q xs xss kd nn = (machB sy st rs && formB q xs xss kd nn) := by
  unfold proofOfB formB; simp only [Bool.and_assoc]

set_option maxHeartbeats 1000000 in
theorem l25Form_any (g : Nat) (q : Int) (A : Option Addr) (n c : Nat) (xs : List Int) (B : Option Addr) (m d : Nat) (ts : List Sl) (kd : Int) (nn : Nat) (w : World) (hp : PrfAt w g q A n c B m d) (hx : SI w A n xs) (hy : SII w B m ts) (hn : n ≤ 1048576) (hm : m ≤ 1048576) (hns : ∀ t ∈ ts, t.xs.length ≤ 1048576) :
    Calls Try.prog 91 #[.pointer (some ⟨g, 0, none⟩), .int .i64 kd, .int .i64 (nn : Int)] w fun e w' => e = .returned (.bool (formB q xs (nums ts) kd nn)) ∧ w = w' := by
  have HC := Lib.hid (l25Is_any g q A n c xs B m d ts w hp hx hy hn hm hns)
  obtain ⟨u0, u1, u2⟩ := hp
  have HL := Lib.hid hx.len
  have HM : Hid ((nums ts).length = m) := by show _ = _; have := hy.len; simpa [nums] using this
  clear hns
  cases a2 : validProofB q xs (nums ts)
  · have A2 := Lib.hid a2
    clear a2
    go_enter Try.func91, Try.ntmps91
    go_wp2_with fail
    refine HC.out.mono ?_
    rw [A2.out]
    rintro e w' ⟨rfl, rfl⟩
    go_wp2_with fail
    go_ret
    exact ⟨ret_bool (by unfold formB; rw [A2.out]; rfl), rfl⟩
  have A2 := Lib.hid a2
  clear a2
  by_cases h1 : q = kd
  · by_cases h2 : n = nn
    · have g1 : (q == kd) = true := by simpa using h1
      have g2 : ((n : Int) == (nn : Int)) = true := by simp; omega
      by_cases h3 : m = 0
      · have g3 : ((m : Int) == 0) = true := by simpa using h3
        have H1 := Lib.hid h1
        have H2 := Lib.hid h2
        have H3 := Lib.hid h3
        clear h1 h2 h3
        go_enter Try.func91, Try.ntmps91
        go_wp2_with fail
        refine HC.out.mono ?_
        rw [A2.out]
        rintro e w' ⟨rfl, rfl⟩
        go_wp2_with fail
        go_ret
        exact ⟨ret_bool (by unfold formB; rw [A2.out, HL.out, HM.out]; simp [H1.out, H2.out, H3.out]), rfl⟩
      · have g3 : ((m : Int) == 0) = false := by simpa using h3
        have H3 := Lib.hid h3
        clear h1 h2 h3
        go_enter Try.func91, Try.ntmps91
        go_wp2_with fail
        refine HC.out.mono ?_
        rw [A2.out]
        rintro e w' ⟨rfl, rfl⟩
        go_wp2_with fail
        go_ret
        exact ⟨ret_bool (by unfold formB; rw [HM.out]; simp [H3.out]), rfl⟩
    · have g1 : (q == kd) = true := by simpa using h1
      have g2 : ((n : Int) == (nn : Int)) = false := by simp; omega
      have H2 := Lib.hid h2
      clear h1 h2
      go_enter Try.func91, Try.ntmps91
      go_wp2_with fail
      refine HC.out.mono ?_
      rw [A2.out]
      rintro e w' ⟨rfl, rfl⟩
      go_wp2_with fail
      go_ret
      exact ⟨ret_bool (by unfold formB; rw [HL.out]; simp [H2.out]), rfl⟩
  · have g1 : (q == kd) = false := by simpa using h1
    have H1 := Lib.hid h1
    clear h1
    go_enter Try.func91, Try.ntmps91
    go_wp2_with fail
    refine HC.out.mono ?_
    rw [A2.out]
    rintro e w' ⟨rfl, rfl⟩
    go_wp2_with fail
    go_ret
    exact ⟨ret_bool (by unfold formB; simp [H1.out]), rfl⟩

set_option maxHeartbeats 1000000 in
theorem l25Blank_any (w : World) : Calls Try.prog 94 #[] w (NewConf w 0 [] []) := by
  obtain ⟨C, hC⟩ : ∃ C : Obj, C = .cells #[.int .i64 0, .slice (some ⟨w.heap.size + 1, 0, none⟩) 0 0, .slice (some ⟨w.heap.size + 1 + 1, 0, none⟩) 0 0] 38 := ⟨_, rfl⟩
  have s1 : (w.alloc C).heap.size = w.heap.size + 1 := by simp
  have s2 : ((w.alloc C).alloc (.cells #[] 2)).heap.size = w.heap.size + 1 + 1 := by simp
  have o1 := (Own.lit (w.alloc C) #[] 2 0 1 w.heap.size (by simp) (by simp [maxLen]) (by simp)).alloc (.cells #[] 2)
  have o2 := Own.lit ((w.alloc C).alloc (.cells #[] 2)) #[] 2 0 1 w.heap.size (by simp) (by simp [maxLen]) (by simp; omega)
  rw [s1] at o1
  rw [s2] at o2
  have d : Blk (((w.alloc C).alloc (.cells #[] 2)).alloc (.cells #[] 2)) w.heap.size 38 #[.int .i64 0, .slice (some ⟨w.heap.size + 1, 0, none⟩) 0 0, .slice (some ⟨w.heap.size + 1 + 1, 0, none⟩) 0 0] := by rw [hC]; exact ((Blk.new w _ _).alloc _).alloc _
  have y : Below w.heap.size w (((w.alloc C).alloc (.cells #[] 2)).alloc (.cells #[] 2)) := (((Below.refl _ _).alloc (Nat.le_refl _) _).alloc (by simp) _).alloc (by simp; omega) _
  have HC := Lib.hid hC
  clear hC s1 s2
  go_enter Try.func94, Try.ntmps94
  go_wp2_with fail
  rw [← HC.out]
  generalize ((w.alloc C).alloc (.cells #[] 2)).alloc (.cells #[] 2) = wf at *
  have q0 : wf.cell? ⟨w.heap.size, 0, none⟩ = some (.int .i64 0) := d.cell 0
  have q1 : wf.cell? ⟨w.heap.size, 1, none⟩ = some (.slice (some ⟨w.heap.size + 1, 0, none⟩) 0 0) := d.cell 1
  have q2 : wf.cell? ⟨w.heap.size, 2, none⟩ = some (.slice (some ⟨w.heap.size + 1 + 1, 0, none⟩) 0 0) := d.cell 2
  exact bodyPost_ret (v := .agg #[.int .i64 0, .slice (some ⟨w.heap.size + 1, 0, none⟩) 0 0, .slice (some ⟨w.heap.size + 1 + 1, 0, none⟩) 0 0]) (by simp [results, Try.results94, go_sem, q0, q1, q2]) rfl ⟨_, 0, _, 0, rfl, o1, o2, fun b h1 h2 => by simp [blk] at h1 h2; omega, y⟩

set_option maxHeartbeats 2000000 in
theorem l25Side_c {w : World} {g : Nat} {sy st : Int} {A : Option Addr} {n k : Nat} {rs : List R3} {f lo : Nat} {c : Conf} (hm : MachAt w g sy st A n k) (hrs : S3 w A n rs) (hc : ConfC w lo f c) (hg : goodC sy st rs c) (hn : n ≤ 1048576) :
    Calls Try.prog 145 #[.pointer (some ⟨g, 0, none⟩), .pointer (some ⟨f, 0, none⟩)] w fun e w' => e = .returned (.int .i64 (ruleOf sy rs c.q c.ys).b) ∧ ∃ nq, w' = w.drewN nq := by
  obtain ⟨p1, p2, p3, p4, p5, p6, p7, p8, p9, p10, p11, p12⟩ := conf_parts hg
  have hys : ∀ y ∈ c.ys.reverse, 0 ≤ y ∧ y ≤ sy - 1 := fun y hy' => p11 y (List.mem_reverse.mp hy')
  have hrl : rs.length = n := hrs.len
  obtain ⟨i1, i2, i3, i4, idx, i5, i6⟩ := at_parts (n := n) p1 p2 p3 p4 (by rw [← hrl]; exact p5) p6 p7 hys
  have ir : rs[idx]? = some (ruleOf sy rs c.q c.ys) := ruleOf_get i5 (by rw [hrl]; exact i6)
  obtain ⟨q0, q1, q2⟩ := id hm
  obtain ⟨r', b, off, hr', _, rfl, hbl, c0, c1, c2⟩ := hrs.pick i6
  obtain rfl : ruleOf sy rs c.q c.ys = r' := by have e2 := hr'.out; rw [ir] at e2; simpa using e2
  have j1 : (0 : Int) ≤ (idx : Int) := by omega
  have j2 : (idx : Int) < (n : Int) := by omega
  have I5 := Lib.hid i5
  have HAT : Hid (∀ q, Calls Try.prog 86 #[.pointer (some ⟨g, 0, none⟩), .pointer (some ⟨f, 0, none⟩)] (w.drewN q) fun e w' => e = .returned (.int .i64 (idx : Int)) ∧ ∃ nq, w' = (w.drewN q).drewN nq) := fun q => by
    rw [← i5]; exact l05At_c (hm.drewN q) (hc.drewN q) hg
  clear p5 p10 p11 p12 hys i5 ir hrl
  go_enter Try.func145, Try.ntmps145
  go_wp2_with fail
  go_quiet ((go_at_call 86; exact quiet_1 (HAT.out _)))
  go_wp2_with fail
  go_ret
  exact ⟨rfl, _, rfl⟩
/-- The configuration behind N steps, and whether they can be made. -/
def AfterS (w : World) (sy : Int) (rs : List R3) (c : Conf) (N : Nat) (e : Ending) (w' : World) : Prop :=
  ∃ (v : Bool) (x : Int) (cf : Conf) (L : Option Addr) (a : Nat) (R : Option Addr) (d : Nat), e = .returned (.tuple #[.agg #[.int .i64 cf.q, .slice L cf.xs.length a, .slice R cf.ys.length d], .int .i64 x, .bool v]) ∧ (v = true → Alive sy rs c N ∧ cf = itC sy rs c N) ∧ (v = false → ¬ Alive sy rs c N) ∧
    Own w' w.heap.size 2 1 L cf.xs.length a (ints cf.xs) ∧ Own w' w.heap.size 2 1 R cf.ys.length d (ints cf.ys) ∧ (∀ b, blk L = some b → blk R ≠ some b) ∧ Below w.heap.size w w'
theorem not_alive_halt {sy : Int} {rs : List R3} {c : Conf} {N i : Nat} (h : i < N) (hh : haltC sy rs (itC sy rs c i) = true) : ¬ Alive sy rs c N := fun ha => by
  have := (ha i h).1; rw [hh] at this; cases this
theorem not_alive_room {sy : Int} {rs : List R3} {c : Conf} {N i : Nat} (h : i < N) (hh : roomC (nextC sy rs (itC sy rs c i)) = false) : ¬ Alive sy rs c N := fun ha => by
  have h1 : roomC (nextC sy rs (itC sy rs c i)) = true := (ha i h).2
  rw [hh] at h1; cases h1

set_option maxRecDepth 100000 in
set_option maxHeartbeats 4000000 in
theorem l25After_any (g : Nat) (sy st : Int) (A : Option Addr) (n k : Nat) (rs : List R3) (c : Conf) (L : Option Addr) (a : Nat) (R : Option Addr) (d : Nat) (N : Nat) (w : World) (hm : MachAt w g sy st A n k) (hrs : S3 w A n rs) (hx : SI w L c.xs.length c.xs) (hy : SI w R c.ys.length c.ys) (hgc : goodC sy st rs c) (hn : n ≤ 1048576) (hN : N ≤ 1000000) :
    Calls Try.prog 93 #[.pointer (some ⟨g, 0, none⟩), .agg #[.int .i64 c.q, .slice L c.xs.length a, .slice R c.ys.length d], .int .i64 (N : Int)] w (AfterS w sy rs c N) := by
  obtain ⟨W, hW_⟩ : ∃ W, W = (w.alloc (.cells #[.int .i64 c.q, .slice L c.xs.length a, .slice R c.ys.length d] 38)).alloc (.cells #[.int .i64 0, .slice none 0 0, .slice none 0 0] 38) := ⟨_, rfl⟩
  have s_1 : (w.alloc (.cells #[.int .i64 c.q, .slice L c.xs.length a, .slice R c.ys.length d] 38)).heap.size = w.heap.size + 1 := by simp
  have b0 : Blk W w.heap.size 38 #[.int .i64 c.q, .slice L c.xs.length a, .slice R c.ys.length d] := by rw [hW_]; exact (Blk.new w _ _).alloc _
  have b1 : Blk W (w.heap.size + 1) 38 #[.int .i64 0, .slice none 0 0, .slice none 0 0] := by rw [hW_, ← s_1]; exact Blk.new _ _ _
  have y0 : Below w.heap.size w W := by rw [hW_]; exact ((Below.refl _ _).alloc (Nat.le_refl _) _).alloc (by simp) _
  have HW := Lib.hid hW_
  clear hW_ s_1
  have hl := conf_parts hgc
  have hxl : c.xs.length ≤ 1048576 := by have := hl.2.2.2.2.2.2.2.1; omega
  have hyl : c.ys.length ≤ 1048576 := by have := hl.2.2.2.2.2.2.2.2.1; omega
  clear hl
  go_enter Try.func93, Try.ntmps93
  go_wp2_with fail
  rw [← HW.out]
  clear HW
  refine (l05OwnConfig_any _ _ _ _ _ c.xs _ _ _ c.ys _ b0.confAt (hx.below y0) (hy.below y0) hxl hyl).mono ?_
  rintro e W1 ⟨L1, a1, R1, d1, rfl, o1, o1', hap1, z1⟩
  have HAP1 := Lib.hid hap1
  clear hap1
  obtain ⟨W2, hW_⟩ : ∃ W, W = W1.alloc (.cells #[.int .i64 c.q, .slice L1 c.xs.length a1, .slice R1 c.ys.length d1] 38) := ⟨_, rfl⟩
  have b2 : Blk W2 W1.heap.size 38 #[.int .i64 c.q, .slice L1 c.xs.length a1, .slice R1 c.ys.length d1] := by rw [hW_]; exact Blk.new W1 _ _
  have z2 : Below W1.heap.size W1 W2 := by rw [hW_]; exact (Below.refl _ _).alloc (Nat.le_refl _) _
  have HW2 := Lib.hid hW_
  clear hW_
  have y2 : Below w.heap.size w W2 := (y0.trans (z1.mono y0.size)).trans (z2.mono (y0.trans (z1.mono y0.size)).size)
  have hC2 : ConfC W2 w.heap.size W1.heap.size c := ⟨L1, a1, R1, d1, b2, (o1.below z2).mono y0.size, (o1'.below z2).mono y0.size, HAP1.out⟩
  have b12 := (b1.below' z1).below' z2
  have hf : w.heap.size + 1 < W1.heap.size := by have := (b1.below' z1).lt; omega
  clear b0 b1 o1 o1' HAP1 b2
  go_wp2_with fail
  rw [← HW2.out]
  clear HW2
  obtain ⟨f, hf'⟩ : ∃ f, f = W1.heap.size := ⟨_, rfl⟩
  rw [← hf'] at hC2 hf
  rw [← hf']
  clear hf' z1 z2
  go_loopw [2, 10] (fun s x wr => ∃ (i : Nat) (v : Int), s = .int .i64 ((N : Int) - (i : Int)) ∧ x = .int .i64 v ∧ i ≤ N ∧ Alive sy rs c i ∧ ConfC wr w.heap.size f (itC sy rs c i) ∧ Blk wr (w.heap.size + 1) 38 #[.int .i64 0, .slice none 0 0, .slice none 0 0] ∧ Below w.heap.size w wr) (fun s _ _ => (intOf s).toNat)
  case atStart => exact ⟨0, 0, by simp, rfl, Nat.zero_le _, Alive.zero _ _ _, hC2, b12, y2⟩
  case round =>
    obtain ⟨i, v, rfl, rfl, hi, hal, hC, hB, hY⟩ := hrel
    have HGOOD := Lib.hid (hal.good hgc)
    have HAL := Lib.hid hal
    clear hal hC2 b12 y2 y0
    have HHALT := Lib.hid (l05Halts_c (hm.below hY) (hrs.below hY) hC HGOOD.out hn)
    have hBlt : w.heap.size + 1 < wr.heap.size := hB.lt
    by_cases hlt : i < N
    · have j1 : (0 : Int) < (N : Int) - (i : Int) := by omega
      go_wp2_with fail
      refine HHALT.out.mono ?_
      rintro e W3 ⟨rfl, z3⟩
      have hC3 := hC.below z3
      have hB3 := hB.below' z3
      have hY3 : Below w.heap.size w W3 := hY.trans (z3.mono hY.size)
      cases hh : haltC sy rs (itC sy rs c i) with
      | true =>
        have HH := Lib.hid (not_alive_halt hlt hh)
        clear hh
        obtain ⟨L3, a3, R3', d3, bc, ol, or_, hap⟩ := hC3
        have HAP := Lib.hid hap
        clear hap
        generalize itC sy rs c i = ci at *
        have c0 : W3.cell? ⟨f, 0, none⟩ = some (.int .i64 ci.q) := bc.cell 0
        have c1 : W3.cell? ⟨f, 1, none⟩ = some (.slice L3 ci.xs.length a3) := bc.cell 1
        have c2 : W3.cell? ⟨f, 2, none⟩ = some (.slice R3' ci.ys.length d3) := bc.cell 2
        have u0 : W3.cell? ⟨(w.heap.size + 1), 0, none⟩ = some (.int .i64 0) := hB3.cell 0
        have u1 : W3.cell? ⟨(w.heap.size + 1), 1, none⟩ = some (.slice none 0 0) := hB3.cell 1
        have u2 : W3.cell? ⟨(w.heap.size + 1), 2, none⟩ = some (.slice none 0 0) := hB3.cell 2
        have f0 := hB3.frozen 0
        have f1 := hB3.frozen 1
        have f2 := hB3.frozen 2
        go_wp2_with fail
        have hCf := ConfC.set3 (c := ci) rfl hB3 ol or_ HAP.out
        have hYf := conf_below hY3 (show w.heap.size ≤ w.heap.size + 1 by omega) (.int .i64 ci.q) (.slice L3 ci.xs.length a3) (.slice R3' ci.ys.length d3)
        generalize ((W3.setCell ⟨w.heap.size + 1, 0, none⟩ (.int .i64 ci.q)).setCell ⟨w.heap.size + 1, 1, none⟩ (.slice L3 ci.xs.length a3)).setCell ⟨w.heap.size + 1, 2, none⟩ (.slice R3' ci.ys.length d3) = Wf at *
        obtain ⟨Lf, af, Rf, df, bf, olf, orf, hapf⟩ := hCf
        have g0 : Wf.cell? ⟨(w.heap.size + 1), 0, none⟩ = some (.int .i64 ci.q) := bf.cell 0
        have g1 : Wf.cell? ⟨(w.heap.size + 1), 1, none⟩ = some (.slice Lf ci.xs.length af) := bf.cell 1
        have g2 : Wf.cell? ⟨(w.heap.size + 1), 2, none⟩ = some (.slice Rf ci.ys.length df) := bf.cell 2
        exact bodyPost_ret (v := .tuple #[.agg #[.int .i64 ci.q, .slice Lf ci.xs.length af, .slice Rf ci.ys.length df], .int .i64 0, .bool false]) (by simp [results, Try.results93, go_sem, g0, g1, g2]) rfl ⟨false, 0, ci, Lf, af, Rf, df, rfl, (fun h => by cases h), fun _ => HH.out, olf, orf, hapf, hYf⟩
      | false =>
        have HH := Lib.hid hh
        clear hh
        have HSIDE := Lib.hid (l25Side_c (hm.below hY3) (hrs.below hY3) hC3 HGOOD.out hn)
        go_wp2_with fail
        refine HSIDE.out.mono ?_
        rintro e W3' ⟨rfl, nq, rfl⟩
        have hY3' : Below w.heap.size w (W3.drewN nq) := below_drewN hY3 nq
        have hC3' := hC3.drewN nq
        have hB3' : Blk (W3.drewN nq) (w.heap.size + 1) 38 #[.int .i64 0, .slice none 0 0, .slice none 0 0] := hB3.drewN nq
        clear hC3 hB3 hY3 HSIDE z3
        generalize W3.drewN nq = W4 at *
        have HSTEP := Lib.hid (l05Step_c (hm.below hY3') (hrs.below hY3') hC3' HGOOD.out hn)
        go_wp2_with fail
        refine HSTEP.out.mono ?_
        rintro e W5 ⟨L4, a4, R4, d4, rfl, ol4, or4, hap4, z4⟩
        have HAP4 := Lib.hid hap4
        clear hap4 HSTEP HHALT
        have hY4 : Below w.heap.size w W5 := hY3'.trans (z4.mono hY3'.size)
        have HNXT : Hid (roomC (itC sy rs c (i + 1)) = true → Alive sy rs c (i + 1)) := fun h => HAL.out.next HH.out h
        have hHR := Lib.hid (not_alive_room (sy := sy) (rs := rs) (c := c) hlt)
        generalize hnx : nextC sy rs (itC sy rs c i) = nx at *
        have HNX : Hid (itC sy rs c (i + 1) = nx) := Lib.hid hnx
        clear hnx
        obtain ⟨W6, hW_⟩ : ∃ W, W = W5.alloc (.cells #[.int .i64 nx.q, .slice L4 nx.xs.length a4, .slice R4 nx.ys.length d4] 38) := ⟨_, rfl⟩
        have b5 : Blk W6 W5.heap.size 38 #[.int .i64 nx.q, .slice L4 nx.xs.length a4, .slice R4 nx.ys.length d4] := by rw [hW_]; exact Blk.new W5 _ _
        have z5 : Below W5.heap.size W5 W6 := by rw [hW_]; exact (Below.refl _ _).alloc (Nat.le_refl _) _
        have HW6 := Lib.hid hW_
        clear hW_
        have hY5 : Below w.heap.size w W6 := hY4.trans (z5.mono hY4.size)
        have hB5 := (hB3'.below' z4).below' z5
        have hC5 := (hC3'.below z4).below z5
        have hfW : f < W5.heap.size := by obtain ⟨_, _, _, _, b4, _⟩ := hC3'.below z4; exact b4.lt
        have hB5lt : w.heap.size + 1 < W5.heap.size := (hB3'.below' z4).lt
        obtain ⟨L5, a5, R5, d5, bc5, ol5, or5, hap5⟩ := hC5
        have HAP5 := Lib.hid hap5
        clear hap5
        generalize itC sy rs c i = ci at *
        cases hro : roomC nx with
        | true =>
          have HRO : Hid (roomC (itC sy rs c (i + 1)) = true) := Lib.hid (by rw [HNX.out]; exact hro)
          clear hro
          go_upto_region 9 with fail
          rw [← HW6.out]
          clear HW6
          have c0 : W6.cell? ⟨W5.heap.size, 0, none⟩ = some (.int .i64 nx.q) := b5.cell 0
          have c1 : W6.cell? ⟨W5.heap.size, 1, none⟩ = some (.slice L4 nx.xs.length a4) := b5.cell 1
          have c2 : W6.cell? ⟨W5.heap.size, 2, none⟩ = some (.slice R4 nx.ys.length d4) := b5.cell 2
          have u0 : W6.cell? ⟨f, 0, none⟩ = some (.int .i64 ci.q) := bc5.cell 0
          have u1 : W6.cell? ⟨f, 1, none⟩ = some (.slice L5 ci.xs.length a5) := bc5.cell 1
          have u2 : W6.cell? ⟨f, 2, none⟩ = some (.slice R5 ci.ys.length d5) := bc5.cell 2
          have f0 := bc5.frozen 0
          have f1 := bc5.frozen 1
          have f2 := bc5.frozen 2
          go_wp2_with fail
          have hCf := ConfC.set3 (c := nx) rfl bc5 ((ol4.below z5).mono hY3'.size) ((or4.below z5).mono hY3'.size) HAP4.out
          have hYf := conf_below hY5 (show w.heap.size ≤ f by omega) (.int .i64 nx.q) (.slice L4 nx.xs.length a4) (.slice R4 nx.ys.length d4)
          have hBf := ((hB5.far (p := ⟨f, 0, none⟩) (show w.heap.size + 1 ≠ f by omega) (.int .i64 nx.q)).far (p := ⟨f, 1, none⟩) (show w.heap.size + 1 ≠ f by omega) (.slice L4 nx.xs.length a4)).far (p := ⟨f, 2, none⟩) (show w.heap.size + 1 ≠ f by omega) (.slice R4 nx.ys.length d4)
          go_roundw
          case rel => exact ⟨i + 1, _, by go_num, rfl, by omega, HNXT.out HRO.out, by rw [HNX.out]; exact hCf, hBf, hYf⟩
          case measure => simp [intOf]; omega
        | false =>
          have HRO := Lib.hid (hHR.out hro)
          clear hro
          go_upto_region 9 with fail
          rw [← HW6.out]
          clear HW6
          have c0 : W6.cell? ⟨f, 0, none⟩ = some (.int .i64 ci.q) := bc5.cell 0
          have c1 : W6.cell? ⟨f, 1, none⟩ = some (.slice L5 ci.xs.length a5) := bc5.cell 1
          have c2 : W6.cell? ⟨f, 2, none⟩ = some (.slice R5 ci.ys.length d5) := bc5.cell 2
          have u0 : W6.cell? ⟨(w.heap.size + 1), 0, none⟩ = some (.int .i64 0) := hB5.cell 0
          have u1 : W6.cell? ⟨(w.heap.size + 1), 1, none⟩ = some (.slice none 0 0) := hB5.cell 1
          have u2 : W6.cell? ⟨(w.heap.size + 1), 2, none⟩ = some (.slice none 0 0) := hB5.cell 2
          have f0 := hB5.frozen 0
          have f1 := hB5.frozen 1
          have f2 := hB5.frozen 2
          go_wp2_with fail
          have hCf := ConfC.set3 (c := ci) rfl hB5 ol5 or5 HAP5.out
          have hYf := conf_below hY5 (show w.heap.size ≤ w.heap.size + 1 by omega) (.int .i64 ci.q) (.slice L5 ci.xs.length a5) (.slice R5 ci.ys.length d5)
          generalize ((W6.setCell ⟨w.heap.size + 1, 0, none⟩ (.int .i64 ci.q)).setCell ⟨w.heap.size + 1, 1, none⟩ (.slice L5 ci.xs.length a5)).setCell ⟨w.heap.size + 1, 2, none⟩ (.slice R5 ci.ys.length d5) = Wf at *
          obtain ⟨Lf, af, Rf, df, bf, olf, orf, hapf⟩ := hCf
          have g0 : Wf.cell? ⟨(w.heap.size + 1), 0, none⟩ = some (.int .i64 ci.q) := bf.cell 0
          have g1 : Wf.cell? ⟨(w.heap.size + 1), 1, none⟩ = some (.slice Lf ci.xs.length af) := bf.cell 1
          have g2 : Wf.cell? ⟨(w.heap.size + 1), 2, none⟩ = some (.slice Rf ci.ys.length df) := bf.cell 2
          exact bodyPost_ret (v := .tuple #[.agg #[.int .i64 ci.q, .slice Lf ci.xs.length af, .slice Rf ci.ys.length df], .int .i64 0, .bool false]) (by simp [results, Try.results93, go_sem, g0, g1, g2]) rfl ⟨false, 0, ci, Lf, af, Rf, df, rfl, (fun h => by cases h), fun _ => HRO.out, olf, orf, hapf, hYf⟩
    · obtain rfl : N = i := by omega
      have j1 : ¬ ((0 : Int) < (N : Int) - (N : Int)) := by omega
      obtain ⟨L3, a3, R3', d3, bc, ol, or_, hap⟩ := hC
      have HAP := Lib.hid hap
      have HCI : Hid (itC sy rs c N = itC sy rs c N) := rfl
      clear hap HHALT
      generalize hci : itC sy rs c N = ci at *
      have HC1 := Lib.hid hci
      clear hci HCI
      have c0 : wr.cell? ⟨f, 0, none⟩ = some (.int .i64 ci.q) := bc.cell 0
      have c1 : wr.cell? ⟨f, 1, none⟩ = some (.slice L3 ci.xs.length a3) := bc.cell 1
      have c2 : wr.cell? ⟨f, 2, none⟩ = some (.slice R3' ci.ys.length d3) := bc.cell 2
      have u0 : wr.cell? ⟨(w.heap.size + 1), 0, none⟩ = some (.int .i64 0) := hB.cell 0
      have u1 : wr.cell? ⟨(w.heap.size + 1), 1, none⟩ = some (.slice none 0 0) := hB.cell 1
      have u2 : wr.cell? ⟨(w.heap.size + 1), 2, none⟩ = some (.slice none 0 0) := hB.cell 2
      have f0 := hB.frozen 0
      have f1 := hB.frozen 1
      have f2 := hB.frozen 2
      go_wp2_with fail
      have hCf := ConfC.set3 (c := ci) rfl hB ol or_ HAP.out
      have hYf := conf_below hY (show w.heap.size ≤ w.heap.size + 1 by omega) (.int .i64 ci.q) (.slice L3 ci.xs.length a3) (.slice R3' ci.ys.length d3)
      generalize ((wr.setCell ⟨w.heap.size + 1, 0, none⟩ (.int .i64 ci.q)).setCell ⟨w.heap.size + 1, 1, none⟩ (.slice L3 ci.xs.length a3)).setCell ⟨w.heap.size + 1, 2, none⟩ (.slice R3' ci.ys.length d3) = Wf at *
      obtain ⟨Lf, af, Rf, df, bf, olf, orf, hapf⟩ := hCf
      have g0 : Wf.cell? ⟨(w.heap.size + 1), 0, none⟩ = some (.int .i64 ci.q) := bf.cell 0
      have g1 : Wf.cell? ⟨(w.heap.size + 1), 1, none⟩ = some (.slice Lf ci.xs.length af) := bf.cell 1
      have g2 : Wf.cell? ⟨(w.heap.size + 1), 2, none⟩ = some (.slice Rf ci.ys.length df) := bf.cell 2
      exact bodyPost_ret (v := .tuple #[.agg #[.int .i64 ci.q, .slice Lf ci.xs.length af, .slice Rf ci.ys.length df], .int .i64 v, .bool true]) (by simp [results, Try.results93, go_sem, g0, g1, g2]) rfl ⟨true, v, ci, Lf, af, Rf, df, rfl, fun _ => ⟨HAL.out, HC1.out.symm⟩, (fun h => by cases h), olf, orf, hapf, hYf⟩

theorem l25After_blank (g : Nat) (sy st : Int) (A : Option Addr) (n k : Nat) (rs : List R3) (L : Option Addr) (a : Nat) (R : Option Addr) (d : Nat) (N : Nat) (w : World) (hm : MachAt w g sy st A n k) (hrs : S3 w A n rs) (hgc : goodC sy st rs blankC) (hn : n ≤ 1048576) (hN : N ≤ 1000000) :
    Calls Try.prog 93 #[.pointer (some ⟨g, 0, none⟩), .agg #[.int .i64 0, .slice L 0 a, .slice R 0 d], .int .i64 (N : Int)] w (AfterS w sy rs blankC N) :=
  l25After_any g sy st A n k rs blankC L a R d N w hm hrs SI.nil SI.nil hgc hn hN
/-- What l25After returned, in a box. -/
def AfterBox (W : World) (sy : Int) (rs : List R3) (N : Nat) (s5 s6 s7 : Value) (wx : World) : Prop :=
  ∃ g v x cf, s5 = .pointer (some ⟨g, 0, none⟩) ∧ s6 = .int .i64 x ∧ s7 = .bool v ∧ ConfC wx W.heap.size g cf ∧ (v = true → Alive sy rs blankC N ∧ cf = itC sy rs blankC N) ∧ (v = false → ¬ Alive sy rs blankC N) ∧ Below W.heap.size W wx
theorem MachAt.alloc {w : World} {g : Nat} {sy st : Int} {A : Option Addr} {n k : Nat} (h : MachAt w g sy st A n k) (o : Obj) : MachAt (w.alloc o) g sy st A n k := h.below ((Below.refl _ _).alloc (Nat.le_refl _) o)
theorem ConfC.new {W w : World} {q : Int} {xs ys : List Int} {L R : Option Addr} {a d : Nat} (oL : Own w W.heap.size 2 1 L xs.length a (ints xs)) (oR : Own w W.heap.size 2 1 R ys.length d (ints ys)) (hap : ∀ b, blk L = some b → blk R ≠ some b) :
    ConfC (w.alloc (.cells #[.int .i64 q, .slice L xs.length a, .slice R ys.length d] 38)) W.heap.size w.heap.size ⟨q, xs, ys⟩ := ⟨L, a, R, d, Blk.new w _ _, oL.alloc _, oR.alloc _, hap⟩

set_option maxRecDepth 100000 in
set_option maxHeartbeats 4000000 in
theorem specCheckHalt_any (sy st : Int) (C : Option Addr) (l k : Nat) (rs : List R3) (q : Int) (A : Option Addr) (n c : Nat) (xs : List Int) (B : Option Addr) (m d : Nat) (ts : List Sl) (w : World) (hr : S3 w C l rs) (hx : SI w A n xs) (hy : SII w B m ts) (hl : l ≤ 1048576) (hn : n ≤ 1048576) (hm : m ≤ 1048576) (hns : ∀ t ∈ ts, t.xs.length ≤ 1048576) :
    Calls Try.prog 36 #[.agg #[.int .i64 sy, .int .i64 st, .slice C l k], .agg #[.int .i64 q, .slice A n c, .slice B m d]] w fun e w' => e = .returned (.bool (checkHaltF sy st rs q xs (nums ts))) ∧ Below w.heap.size w w' := by
  obtain ⟨W, hW_⟩ : ∃ W, W = (w.alloc (.cells #[.int .i64 sy, .int .i64 st, .slice C l k] 30)).alloc (.cells #[.int .i64 q, .slice A n c, .slice B m d] 58) := ⟨_, rfl⟩
  have s_1 : (w.alloc (.cells #[.int .i64 sy, .int .i64 st, .slice C l k] 30)).heap.size = w.heap.size + 1 := by simp
  have b0 : Blk W w.heap.size 30 #[.int .i64 sy, .int .i64 st, .slice C l k] := by rw [hW_]; exact (Blk.new w _ _).alloc _
  have b1 : Blk W (w.heap.size + 1) 58 #[.int .i64 q, .slice A n c, .slice B m d] := by rw [hW_, ← s_1]; exact Blk.new _ _ _
  have y0 : Below w.heap.size w W := by rw [hW_]; exact ((Below.refl _ _).alloc (Nat.le_refl _) _).alloc (by simp) _
  have HW := Lib.hid hW_
  clear hW_ s_1
  have HNS := Lib.hid hns
  clear hns
  have hM := b0.machAt
  go_enter Try.func36, Try.ntmps36
  go_wp2_with fail
  rw [← HW.out]
  refine (l05Is_any _ _ _ _ _ _ rs _ hM (hr.below y0) hl).mono ?_
  rintro e W1 ⟨rfl, z1⟩
  have y1 := y0.trans (z1.mono y0.size)
  have c1 := b1.below' z1
  have hM1 := hM.below z1
  cases a0 : machB sy st rs
  · have A0 := Lib.hid a0
    clear a0
    go_wp2_with fail
    go_ret
    exact ⟨ret_bool (by unfold checkHaltF; rw [formB_eq, A0.out]; rfl), y1⟩
  have A0 := Lib.hid a0
  clear a0
  go_wp2_with fail
  refine (l25Form_any _ _ _ _ _ xs _ _ _ ts 1 1 _ c1.prfAt (hx.below y1) (hy.below y1) hn hm HNS.out).mono ?_
  rintro e w' ⟨rfl, rfl⟩
  cases a1 : formB q xs (nums ts) 1 1
  · have A1 := Lib.hid a1
    clear a1
    go_wp2_with fail
    go_ret
    exact ⟨ret_bool (by unfold checkHaltF; rw [formB_eq, A0.out, A1.out]; rfl), y1⟩
  have a2 : proofOfB sy st rs q xs (nums ts) 1 1 = true := by rw [formB_eq, A0.out, a1]; rfl
  obtain ⟨hg, hxl⟩ := proofOf_parts a2
  have A1 := Lib.hid a2
  clear a1 a2
  obtain rfl : n = 1 := by have := hx.len; omega
  obtain ⟨b, off, rfl, hbl, hc⟩ := (hx.below y1).at0 (by omega)
  obtain ⟨x, hxx⟩ : ∃ x, x = xs.headD 0 := ⟨_, rfl⟩
  rw [← hxx] at hc
  have HX := Lib.hid hxx
  clear hxx hxl
  have v0 : W1.cell? ⟨(w.heap.size + 1), 0, none⟩ = some (.int .i64 q) := c1.cell 0
  have v1 : W1.cell? ⟨(w.heap.size + 1), 1, none⟩ = some (.slice (some ⟨b, off, none⟩) 1 c) := c1.cell 1
  have v2 : W1.cell? ⟨(w.heap.size + 1), 2, none⟩ = some (.slice B m d) := c1.cell 2
  cases a2 : inB x 0 20000
  · have A2 := Lib.hid a2
    clear a2
    go_wp2_with (go_at_call 92; refine (l00In_is A2.out _).mono ?_; rintro e w' ⟨rfl, rfl⟩)
    go_ret
    exact ⟨ret_bool (by unfold checkHaltF; rw [← HX.out, A2.out]; simp), y1⟩
  have A2 := Lib.hid a2
  have hb := (inB_iff _ _ _).1 a2
  obtain ⟨N, rfl⟩ : ∃ N : Nat, x = (N : Int) := ⟨x.toNat, by omega⟩
  clear a2
  have HF : Hid (checkHaltF sy st rs q xs (nums ts) = (aliveB sy rs blankC N && haltC sy rs (itC sy rs blankC N))) := Lib.hid (by unfold checkHaltF; rw [← HX.out, A1.out, A2.out, Int.toNat_natCast]; simp)
  have KEEP : Hid (∀ cur, Below W1.heap.size W1 cur → cur.cell? ⟨w.heap.size + 1, 1, none⟩ = some (.slice (some ⟨b, off, none⟩) 1 c) ∧ cur.cell? ⟨b, off, none⟩ = some (.int .i64 (N : Int))) := fun cur h => ⟨(c1.below' h).cell 1, (h.cell (p := ⟨b, off, none⟩) hbl).trans hc⟩
  go_wp2_with (go_at_call 92; refine (l00In_is A2.out _).mono ?_; rintro e w' ⟨rfl, rfl⟩)
  go_cut [5, 6, 7] (fun s5 s6 s7 wx => AfterBox W1 sy rs N s5 s6 s7 wx)
  case first =>
    go_region_held3 (fun w' => w'.cell? ⟨w.heap.size + 1, 1, none⟩ = some (.slice (some ⟨b, off, none⟩) 1 c) ∧ w'.cell? ⟨b, off, none⟩ = some (.int .i64 (N : Int)))
      (first
        | (go_keep; done)
        | (exact KEEP.out _ (by first
            | exact zz3
            | exact zz3.alloc zz3.size _
            | exact zz2
            | exact zz2.alloc zz2.size _
            | exact conf_below (zz3.alloc zz3.size _) zz3.size _ _ _
            | exact conf_below zz3 BX.out.1 _ _ _)))
      (first
        | (go_at_call 94; refine (l25Blank_any _).mono ?_; rintro e W2 ⟨L2, a2, R2, d2, rfl, oL2, oR2, hap2, z2⟩; have hq : Below W1.heap.size W1 W2 := below_undrew z2; have zz2 := hq; clear hq)
        | (go_at_call 94; refine (l25Blank_any _).mono ?_; rintro e W2 ⟨L2, a2, R2, d2, rfl, oL2, oR2, hap2, z2⟩; have hq : Below W1.heap.size W1 W2 := below_of_alloc (below_undrew z2); have zz2 := hq; clear hq; have BX := Lib.hid (((Bx.new W1 38 #[.int .i64 0, .slice none 0 0, .slice none 0 0] (Nat.le_refl _)).drewN 1).below' z2))
        | (go_at_call 93; have hq := BX; (with_reducible refine (l25After_blank _ sy st C l k rs _ _ _ _ N _ (hM1.below zz2) ((hr.below y1).below zz2) hg hl (by omega)).mono ?_); rintro e W3 ⟨v, x3, cf, L3, a3, R3', d3, rfl, hv1, hv2, oL3, oR3, hap3, z3⟩; have zz3 : Below W1.heap.size W1 W3 := zz2.trans (z3.mono zz2.size); have BX2 := Lib.hid (BX.out.below' z3); clear hq BX; have BX := BX2; clear BX2; have oL3 := oL3.mono zz2.size; have oR3 := oR3.mono zz2.size; have x0 : _ = some (Value.int .i64 0) := BX.out.2.cell 0; have f0 := BX.out.2.frozen 0; have x1 : _ = some (Value.slice none 0 0) := BX.out.2.cell 1; have f1 := BX.out.2.frozen 1; have x2 : _ = some (Value.slice none 0 0) := BX.out.2.cell 2; have f2 := BX.out.2.frozen 2)
        | (go_at_call 93; (with_reducible refine (l25After_blank _ sy st C l k rs _ _ _ _ N _ (hM1.below zz2) ((hr.below y1).below zz2) hg hl (by omega)).mono ?_); rintro e W3 ⟨v, x3, cf, L3, a3, R3', d3, rfl, hv1, hv2, oL3, oR3, hap3, z3⟩; have zz3 : Below W1.heap.size W1 W3 := zz2.trans (z3.mono zz2.size); have oL3 := oL3.mono zz2.size; have oR3 := oR3.mono zz2.size)
        | (go_at_call 93; (with_reducible refine (l25After_blank _ sy st C l k rs _ _ _ _ N _ ((hM1.below zz2).alloc _) (((hr.below y1).below zz2).alloc _) hg hl (by omega)).mono ?_); rintro e W3 ⟨v, x3, cf, L3, a3, R3', d3, rfl, hv1, hv2, oL3, oR3, hap3, z3⟩; have zz3 : Below W1.heap.size W1 W3 := zz2.trans ((below_of_alloc z3).mono zz2.size); have BX := Lib.hid ((Bx.new W2 38 #[.int .i64 0, .slice none 0 0, .slice none 0 0] zz2.size).below' z3); have oL3 := oL3.mono (show W1.heap.size ≤ _ from Nat.le_trans zz2.size (by simp)); have oR3 := oR3.mono (show W1.heap.size ≤ _ from Nat.le_trans zz2.size (by simp)); have x0 : _ = some (Value.int .i64 0) := BX.out.2.cell 0; have f0 := BX.out.2.frozen 0; have x1 : _ = some (Value.slice none 0 0) := BX.out.2.cell 1; have f1 := BX.out.2.frozen 1; have x2 : _ = some (Value.slice none 0 0) := BX.out.2.cell 2; have f2 := BX.out.2.frozen 2))
    all_goals
      go_wp2_with fail
      go_meet
      first
        | exact ⟨W3.heap.size, v, x3, cf, rfl, rfl, rfl, ConfC.new oL3 oR3 hap3, hv1, hv2, zz3.alloc zz3.size _⟩
        | exact ⟨_, v, x3, cf, rfl, rfl, rfl, ⟨L3, a3, R3', d3, conf_set BX.out.2 _ _ _, conf_far2 BX.out.2 oL3 _ _ _, conf_far2 BX.out.2 oR3 _ _ _, hap3⟩, hv1, hv2, conf_below zz3 BX.out.1 _ _ _⟩
  case rest =>
    obtain ⟨g5, v, x5, cf, rfl, rfl, rfl, hcc, hv1, hv2, z5⟩ := hcut
    have y5 := y1.trans (z5.mono y1.size)
    clear KEEP v0 v1 v2 hc
    cases v with
    | false =>
      have HV := Lib.hid (aliveB_false (hv2 rfl))
      clear hv1 hv2
      go_wp2_with fail
      go_ret
      exact ⟨ret_bool (by rw [HF.out, HV.out]; rfl), y5⟩
    | true =>
      obtain ⟨ha, rfl⟩ := hv1 rfl
      have HV := Lib.hid (aliveB_true ha)
      have hgc := ha.good hg
      clear hv1 hv2 ha
      go_wp2_with fail
      refine (l05Halts_c (hM1.below z5) (hr.below y5) hcc hgc hl).mono ?_
      rintro e W6 ⟨rfl, z6⟩
      go_wp2_with fail
      go_ret
      exact ⟨ret_bool (by rw [HF.out, HV.out]; rfl), y5.trans (z6.mono y5.size)⟩
end Go.Proofs.Ytbedghebckflmaa
