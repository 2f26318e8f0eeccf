/-
  Contracts of the reference's checks of words and proofs: l03Is, l03All, l25Is, l25Form, l25Blank, l25Side, l25After, CheckHalt.
-/
import Derived.Test.YtdlojbabnelbdaaPbStartI6
namespace Go.Proofs.Ytdlojbabnelbdaa
open Go.RowKit

theorem isWord_out {xs : List Int} {k n : Nat} (hk : k < n) (hl : xs.length = n) (h : (!inB (xs[k]'(by omega)) 0 9) = true) : false = isWordB xs := by
  have := allIn_at hk hl h
  unfold isWordB; rw [← this]; simp
theorem isWord_end {xs : List Int} {k n : Nat} (hk : n ≤ k) (hl : xs.length = n) (he : allIn (xs.take k) 0 9 = true) : decide ((n : Int) ≤ 400) = isWordB xs := by
  have := allIn_end hk hl he
  unfold isWordB; rw [← this, hl]; simp; omega

set_option maxHeartbeats 400000 in
theorem l03Is_any (A : Option Addr) (n c : Nat) (xs : List Int) (w : World) (hx : SI w A n xs) (hn : n ≤ 9223372036854775807) :
    Calls Try.prog 282 #[.slice A n c] w fun e w' => e = .returned (.bool (isWordB xs)) ∧ w = w' := by
  go_enter Try.func282, Try.ntmps282
  go_wp2
  go_loop [3] (fun i => ∃ k : Nat, k ≤ n ∧ i = .int .i64 k ∧ Hid (allIn (xs.take k) 0 9 = true)) (fun i => n - (intOf i).toNat)
  case atStart => exact ⟨0, by omega, rfl, rfl⟩
  case round =>
    obtain ⟨k, hk, rfl, he⟩ := hrel
    by_cases hlt : k < n
    · obtain ⟨b, off, rfl, _, hc⟩ := hx.at_ hlt
      go_wp2_with (go_at_call 160; refine (l00In_any _ _ _ _).mono ?_; rintro e w' ⟨rfl, rfl⟩)
      · go_ret
        exact ⟨ret_bool (isWord_out hlt hx.len (by assumption)), rfl⟩
      · exact ⟨⟨k + 1, by omega, by go_num, allIn_next hlt hx.len (by assumption) he.out⟩, by simp [intOf]; omega⟩
    · go_wp2
      go_ret
      exact ⟨ret_bool (isWord_end (by omega) hx.len he.out), rfl⟩

theorem areWords_not {ts : List Sl} {t : Sl} {k : Nat} (hT : ts[k]? = some t) (h : (!isWordB t.xs) = true) : false = areWordsB (nums ts) := by
  symm
  unfold areWordsB; rw [List.all_eq_false]
  exact ⟨t.xs, by simp only [nums, List.mem_map]; exact ⟨t, List.mem_of_getElem? hT, rfl⟩, by simpa using h⟩
theorem areWords_next {ts : List Sl} {t : Sl} {k : Nat} (hT : ts[k]? = some t) (h : (!isWordB t.xs) = false) (he : areWordsB ((nums ts).take k) = true) : areWordsB ((nums ts).take (k + 1)) = true := by
  obtain ⟨hk, rfl⟩ := List.getElem?_eq_some_iff.1 hT
  unfold areWordsB at he ⊢
  rw [List.take_succ_eq_append_getElem (by simpa [nums] using hk), List.all_append, he]
  simpa [nums] using h
theorem areWords_end {ts : List Sl} {k n : Nat} (hk : n ≤ k) (hl : ts.length = n) (he : areWordsB ((nums ts).take k) = true) : true = areWordsB (nums ts) := by
  rw [List.take_of_length_le (by simp [nums]; omega)] at he; exact he.symm

set_option maxHeartbeats 400000 in
theorem l03All_any (A : Option Addr) (n c : Nat) (ts : List Sl) (w : World) (hx : SII w A n ts) (hn : n ≤ 9223372036854775807) (hns : ∀ t ∈ ts, t.xs.length ≤ 9223372036854775807) :
    Calls Try.prog 241 #[.slice A n c] w fun e w' => e = .returned (.bool (areWordsB (nums ts))) ∧ w = w' := by
  have HNS := Lib.hid hns
  clear hns
  go_enter Try.func241, Try.ntmps241
  go_wp2
  go_loop [3] (fun i => ∃ k : Nat, k ≤ n ∧ i = .int .i64 k ∧ Hid (areWordsB ((nums ts).take k) = true)) (fun i => n - (intOf i).toNat)
  case atStart => exact ⟨0, by omega, rfl, rfl⟩
  case round =>
    obtain ⟨k, hk, rfl, he⟩ := hrel
    by_cases hlt : k < n
    · obtain ⟨t, b, off, hT, htm, rfl, _, hc, hr⟩ := hx.pick hlt
      have hnt := HNS.out t htm
      go_wp2_with (go_at_call 282; refine (l03Is_any _ _ _ _ _ hr hnt).mono ?_; rintro e w' ⟨rfl, rfl⟩)
      · go_ret
        exact ⟨ret_bool (areWords_not hT.out (by assumption)), rfl⟩
      · exact ⟨⟨k + 1, by omega, by go_num, areWords_next hT.out (by assumption) he.out⟩, by simp [intOf]; omega⟩
    · go_wp2
      go_ret
      exact ⟨ret_bool (areWords_end (by omega) hx.len he.out), rfl⟩

/-- A proof behind a pointer. -/
def PrfAt (w : World) (g : Nat) (q : Int) (A : Option Addr) (n c : Nat) (B : Option Addr) (m d : Nat) : Prop :=
  w.cell? ⟨g, 0, none⟩ = some (.int .i64 q) ∧ w.cell? ⟨g, 1, none⟩ = some (.slice A n c) ∧ w.cell? ⟨g, 2, none⟩ = some (.slice B m d)
theorem PrfAt.below {w w' : World} {g : Nat} {q : Int} {A : Option Addr} {n c : Nat} {B : Option Addr} {m d : Nat} (h : PrfAt w g q A n c B m d) (hb : Below w.heap.size w w') : PrfAt w' g q A n c B m d := by
  have hlt : g < w.heap.size := World.block_lt_of_cell? w _ h.1
  exact ⟨(hb.cell (p := ⟨g, 0, none⟩) hlt).trans h.1, (hb.cell (p := ⟨g, 1, none⟩) hlt).trans h.2.1, (hb.cell (p := ⟨g, 2, none⟩) hlt).trans h.2.2⟩
theorem Blk.prfAt {w : World} {g : Nat} {t : TypeId} {q : Int} {A : Option Addr} {n c : Nat} {B : Option Addr} {m d : Nat} (h : Blk w g t #[.int .i64 q, .slice A n c, .slice B m d]) : PrfAt w g q A n c B m d := ⟨h.cell 0, h.cell 1, h.cell 2⟩

set_option maxHeartbeats 1000000 in
theorem l25Is_any (g : Nat) (q : Int) (A : Option Addr) (n c : Nat) (xs : List Int) (B : Option Addr) (m d : Nat) (ts : List Sl) (w : World) (hp : PrfAt w g q A n c B m d) (hx : SI w A n xs) (hy : SII w B m ts) (hn : n ≤ 1048576) (hm : m ≤ 1048576) (hns : ∀ t ∈ ts, t.xs.length ≤ 1048576) :
    Calls Try.prog 162 #[.pointer (some ⟨g, 0, none⟩)] w fun e w' => e = .returned (.bool (validProofB q xs (nums ts))) ∧ w = w' := by
  obtain ⟨u0, u1, u2⟩ := hp
  have HL := Lib.hid hx.len
  have HM : Hid ((nums ts).length = m) := by show _ = _; have := hy.len; simpa [nums] using this
  have HNS := Lib.hid hns
  clear hns
  cases a1 : inB q 1 8
  · have A1 := Lib.hid a1
    clear a1
    go_enter Try.func162, Try.ntmps162
    go_wp2_with (go_at_call 160; refine (l00In_is A1.out _).mono ?_; rintro e w' ⟨rfl, rfl⟩)
    go_ret
    exact ⟨ret_bool (by unfold validProofB; rw [A1.out]; rfl), rfl⟩
  have A1 := Lib.hid a1
  clear a1
  by_cases h1 : n ≤ 300
  · by_cases h2 : m ≤ 300
    · have i1 : decide ((300 : Int) < (n : Int)) = false := by simp; omega
      have i2 : decide ((300 : Int) < (m : Int)) = false := by simp; omega
      go_enter Try.func162, Try.ntmps162
      go_wp2_with (go_at_call 160; refine (l00In_is A1.out _).mono ?_; rintro e w' ⟨rfl, rfl⟩)
      go_loop [3] (fun i => ∃ k : Nat, k ≤ n ∧ i = .int .i64 k ∧ Hid (allIn (xs.take k) (-1000000000000) 1000000000000 = true)) (fun i => n - (intOf i).toNat)
      case atStart => exact ⟨0, by omega, rfl, rfl⟩
      case round =>
        obtain ⟨k, hk, rfl, he⟩ := hrel
        by_cases hlt : k < n
        · obtain ⟨b, off, rfl, _, hc⟩ := hx.at_ hlt
          go_wp2_with (go_at_call 160; refine (l00In_any _ _ _ _).mono ?_; rintro e w' ⟨rfl, rfl⟩)
          · go_ret
            exact ⟨ret_bool (by unfold validProofB; rw [← allIn_at hlt hx.len (by assumption)]; simp), rfl⟩
          · exact ⟨⟨k + 1, by omega, by go_num, allIn_next hlt hx.len (by assumption) he.out⟩, by simp [intOf]; omega⟩
        · go_wp2_with (go_at_call 241; refine (l03All_any _ _ _ ts _ hy (by omega) (fun t ht => by have := HNS.out t ht; omega)).mono ?_; rintro e w' ⟨rfl, rfl⟩)
          go_ret
          exact ⟨ret_bool (by unfold validProofB; rw [A1.out, ← allIn_end (by omega) hx.len he.out, HL.out, HM.out]; simp [h1, h2]), rfl⟩
    · have i1 : decide ((300 : Int) < (n : Int)) = false := by simp; omega
      have i2 : decide ((300 : Int) < (m : Int)) = true := by simp; omega
      go_enter Try.func162, Try.ntmps162
      go_wp2_with (go_at_call 160; refine (l00In_is A1.out _).mono ?_; rintro e w' ⟨rfl, rfl⟩)
      go_ret
      exact ⟨ret_bool (by unfold validProofB; rw [HM.out]; simp [h2]), rfl⟩
  · have i1 : decide ((300 : Int) < (n : Int)) = true := by simp; omega
    go_enter Try.func162, Try.ntmps162
    go_wp2_with (go_at_call 160; refine (l00In_is A1.out _).mono ?_; rintro e w' ⟨rfl, rfl⟩)
    go_ret
    exact ⟨ret_bool (by unfold validProofB; rw [HL.out]; simp [h1]), rfl⟩

def formB (q : Int) (xs : List Int) (xss : List (List Int)) (kd : Int) (nn : Nat) : Bool := validProofB q xs xss && decide (q = kd) && decide (xs.length = nn) && decide (xss.length = 0)
theorem formB_eq (sy st : Int) (rs : List R3) (q : Int) (xs : List Int) (xss : List (List Int)) (kd : Int) (nn : Nat) : proofOfB sy st rs q xs xss kd nn = (machB sy st rs && formB q xs xss kd nn) := by
  unfold proofOfB formB; simp only [Bool.and_assoc]

set_option maxHeartbeats 1000000 in
theorem l25Blank_any (w : World) : Calls Try.prog 243 #[] w (NewConf w 0 [] []) := by
  obtain ⟨C, hC⟩ : ∃ C : Obj, C = .cells #[.int .i64 0, .slice (some ⟨w.heap.size + 1, 0, none⟩) 0 0, .slice (some ⟨w.heap.size + 1 + 1, 0, none⟩) 0 0] 49 := ⟨_, rfl⟩
  have s1 : (w.alloc C).heap.size = w.heap.size + 1 := by simp
  have s2 : ((w.alloc C).alloc (.cells #[] 2)).heap.size = w.heap.size + 1 + 1 := by simp
  have o1 := (Own.lit (w.alloc C) #[] 2 0 1 w.heap.size (by simp) (by simp [maxLen]) (by simp)).alloc (.cells #[] 2)
  have o2 := Own.lit ((w.alloc C).alloc (.cells #[] 2)) #[] 2 0 1 w.heap.size (by simp) (by simp [maxLen]) (by simp; omega)
  rw [s1] at o1
  rw [s2] at o2
  have d : Blk (((w.alloc C).alloc (.cells #[] 2)).alloc (.cells #[] 2)) w.heap.size 49 #[.int .i64 0, .slice (some ⟨w.heap.size + 1, 0, none⟩) 0 0, .slice (some ⟨w.heap.size + 1 + 1, 0, none⟩) 0 0] := by rw [hC]; exact ((Blk.new w _ _).alloc _).alloc _
  have y : Below w.heap.size w (((w.alloc C).alloc (.cells #[] 2)).alloc (.cells #[] 2)) := (((Below.refl _ _).alloc (Nat.le_refl _) _).alloc (by simp) _).alloc (by simp; omega) _
  have HC := Lib.hid hC
  clear hC s1 s2
  go_enter Try.func243, Try.ntmps243
  go_wp2_with fail
  rw [← HC.out]
  generalize ((w.alloc C).alloc (.cells #[] 2)).alloc (.cells #[] 2) = wf at *
  have q0 : wf.cell? ⟨w.heap.size, 0, none⟩ = some (.int .i64 0) := d.cell 0
  have q1 : wf.cell? ⟨w.heap.size, 1, none⟩ = some (.slice (some ⟨w.heap.size + 1, 0, none⟩) 0 0) := d.cell 1
  have q2 : wf.cell? ⟨w.heap.size, 2, none⟩ = some (.slice (some ⟨w.heap.size + 1 + 1, 0, none⟩) 0 0) := d.cell 2
  exact bodyPost_ret (v := .agg #[.int .i64 0, .slice (some ⟨w.heap.size + 1, 0, none⟩) 0 0, .slice (some ⟨w.heap.size + 1 + 1, 0, none⟩) 0 0]) (by simp [results, Try.results243, go_sem, q0, q1, q2]) rfl ⟨_, 0, _, 0, rfl, o1, o2, fun b h1 h2 => by simp [blk] at h1 h2; omega, y⟩

set_option maxHeartbeats 2000000 in
theorem l25Side_c {w : World} {g : Nat} {sy st : Int} {A : Option Addr} {n k : Nat} {rs : List R3} {f lo : Nat} {c : Conf} (hm : MachAt w g sy st A n k) (hrs : S3 w A n rs) (hc : ConfC w lo f c) (hg : goodC sy st rs c) (_hn : n ≤ 1048576) :
    Calls Try.prog 285 #[.pointer (some ⟨g, 0, none⟩), .pointer (some ⟨f, 0, none⟩)] w fun e w' => e = .returned (.int .i64 (ruleOf sy rs c.q c.ys).b) ∧ ∃ nq, w' = w.drewN nq := by
  obtain ⟨p1, p2, p3, p4, p5, p6, p7, p8, p9, p10, p11, p12⟩ := conf_parts hg
  have hys : ∀ y ∈ c.ys.reverse, 0 ≤ y ∧ y ≤ sy - 1 := fun y hy' => p11 y (List.mem_reverse.mp hy')
  have hrl : rs.length = n := hrs.len
  obtain ⟨i1, i2, i3, i4, idx, i5, i6⟩ := at_parts (n := n) p1 p2 p3 p4 (by rw [← hrl]; exact p5) p6 p7 hys
  have ir : rs[idx]? = some (ruleOf sy rs c.q c.ys) := ruleOf_get i5 (by rw [hrl]; exact i6)
  obtain ⟨q0, q1, q2⟩ := id hm
  obtain ⟨r', b, off, hr', _, rfl, hbl, c0, c1, c2⟩ := hrs.pick i6
  obtain rfl : ruleOf sy rs c.q c.ys = r' := by have e2 := hr'.out; rw [ir] at e2; simpa using e2
  have j1 : (0 : Int) ≤ (idx : Int) := by omega
  have j2 : (idx : Int) < (n : Int) := by omega
  have I5 := Lib.hid i5
  have HAT : Hid (∀ q, Calls Try.prog 302 #[.pointer (some ⟨g, 0, none⟩), .pointer (some ⟨f, 0, none⟩)] (w.drewN q) fun e w' => e = .returned (.int .i64 (idx : Int)) ∧ ∃ nq, w' = (w.drewN q).drewN nq) := fun q => by
    rw [← i5]; exact l05At_c (hm.drewN q) (hc.drewN q) hg
  clear p5 p10 p11 p12 hys i5 ir hrl
  go_enter Try.func285, Try.ntmps285
  go_wp2_with fail
  go_quiet ((go_at_call 302; exact quiet_1 (HAT.out _)))
  go_wp2_with fail
  go_ret
  exact ⟨rfl, _, rfl⟩
/-- The configuration behind N steps, and whether they can be made. -/
def AfterS (w : World) (sy : Int) (rs : List R3) (c : Conf) (N : Nat) (e : Ending) (w' : World) : Prop :=
  ∃ (v : Bool) (x : Int) (cf : Conf) (L : Option Addr) (a : Nat) (R : Option Addr) (d : Nat), e = .returned (.tuple #[.agg #[.int .i64 cf.q, .slice L cf.xs.length a, .slice R cf.ys.length d], .int .i64 x, .bool v]) ∧ (v = true → Alive sy rs c N ∧ cf = itC sy rs c N) ∧ (v = false → ¬ Alive sy rs c N) ∧
    Own w' w.heap.size 2 1 L cf.xs.length a (ints cf.xs) ∧ Own w' w.heap.size 2 1 R cf.ys.length d (ints cf.ys) ∧ (∀ b, blk L = some b → blk R ≠ some b) ∧ Below w.heap.size w w'
theorem not_alive_halt {sy : Int} {rs : List R3} {c : Conf} {N i : Nat} (h : i < N) (hh : haltC sy rs (itC sy rs c i) = true) : ¬ Alive sy rs c N := fun ha => by
  have := (ha i h).1; rw [hh] at this; cases this
theorem not_alive_room {sy : Int} {rs : List R3} {c : Conf} {N i : Nat} (h : i < N) (hh : roomC (nextC sy rs (itC sy rs c i)) = false) : ¬ Alive sy rs c N := fun ha => by
  have h1 : roomC (nextC sy rs (itC sy rs c i)) = true := (ha i h).2
  rw [hh] at h1; cases h1

set_option maxRecDepth 100000 in
set_option maxHeartbeats 4000000 in
theorem l25After_any (g : Nat) (sy st : Int) (A : Option Addr) (n k : Nat) (rs : List R3) (c : Conf) (L : Option Addr) (a : Nat) (R : Option Addr) (d : Nat) (N : Nat) (w : World) (hm : MachAt w g sy st A n k) (hrs : S3 w A n rs) (hx : SI w L c.xs.length c.xs) (hy : SI w R c.ys.length c.ys) (hgc : goodC sy st rs c) (hn : n ≤ 1048576) (hN : N ≤ 1000000) :
    Calls Try.prog 242 #[.pointer (some ⟨g, 0, none⟩), .agg #[.int .i64 c.q, .slice L c.xs.length a, .slice R c.ys.length d], .int .i64 (N : Int)] w (AfterS w sy rs c N) := by
  obtain ⟨W, hW_⟩ : ∃ W, W = (w.alloc (.cells #[.int .i64 c.q, .slice L c.xs.length a, .slice R c.ys.length d] 49)).alloc (.cells #[.int .i64 0, .slice none 0 0, .slice none 0 0] 49) := ⟨_, rfl⟩
  have s_1 : (w.alloc (.cells #[.int .i64 c.q, .slice L c.xs.length a, .slice R c.ys.length d] 49)).heap.size = w.heap.size + 1 := by simp
  have b0 : Blk W w.heap.size 49 #[.int .i64 c.q, .slice L c.xs.length a, .slice R c.ys.length d] := by rw [hW_]; exact (Blk.new w _ _).alloc _
  have b1 : Blk W (w.heap.size + 1) 49 #[.int .i64 0, .slice none 0 0, .slice none 0 0] := by rw [hW_, ← s_1]; exact Blk.new _ _ _
  have y0 : Below w.heap.size w W := by rw [hW_]; exact ((Below.refl _ _).alloc (Nat.le_refl _) _).alloc (by simp) _
  have HW := Lib.hid hW_
  clear hW_ s_1
  have hl := conf_parts hgc
  have hxl : c.xs.length ≤ 1048576 := by have := hl.2.2.2.2.2.2.2.1; omega
  have hyl : c.ys.length ≤ 1048576 := by have := hl.2.2.2.2.2.2.2.2.1; omega
  clear hl
  go_enter Try.func242, Try.ntmps242
  go_wp2_with fail
  rw [← HW.out]
  clear HW
  refine (l05OwnConfig_any _ _ _ _ _ c.xs _ _ _ c.ys _ b0.confAt (hx.below y0) (hy.below y0) hxl hyl).mono ?_
  rintro e W1 ⟨L1, a1, R1, d1, rfl, o1, o1', hap1, z1⟩
  have HAP1 := Lib.hid hap1
  clear hap1
  obtain ⟨W2, hW_⟩ : ∃ W_, W_ = W1.alloc (.cells #[.int .i64 c.q, .slice L1 c.xs.length a1, .slice R1 c.ys.length d1] 49) := ⟨_, rfl⟩
  have b2 : Blk W2 W1.heap.size 49 #[.int .i64 c.q, .slice L1 c.xs.length a1, .slice R1 c.ys.length d1] := by rw [hW_]; exact Blk.new W1 _ _
  have z2 : Below W1.heap.size W1 W2 := by rw [hW_]; exact (Below.refl _ _).alloc (Nat.le_refl _) _
  have HW2 := Lib.hid hW_
  clear hW_
  have y2 : Below w.heap.size w W2 := (y0.trans (z1.mono y0.size)).trans (z2.mono (y0.trans (z1.mono y0.size)).size)
  have hC2 : ConfC W2 w.heap.size W1.heap.size c := ⟨L1, a1, R1, d1, b2, (o1.below z2).mono y0.size, (o1'.below z2).mono y0.size, HAP1.out⟩
  have b12 := (b1.below' z1).below' z2
  have hf : w.heap.size + 1 < W1.heap.size := by have := (b1.below' z1).lt; omega
  clear b0 b1 o1 o1' HAP1 b2
  go_wp2_with fail
  rw [← HW2.out]
  clear HW2
  obtain ⟨f, hf'⟩ : ∃ f, f = W1.heap.size := ⟨_, rfl⟩
  rw [← hf'] at hC2 hf
  rw [← hf']
  clear hf' z1 z2
  go_loopw [2, 10] (fun s x wr => ∃ (i : Nat) (v : Int), s = .int .i64 ((N : Int) - (i : Int)) ∧ x = .int .i64 v ∧ i ≤ N ∧ Alive sy rs c i ∧ ConfC wr w.heap.size f (itC sy rs c i) ∧ Blk wr (w.heap.size + 1) 49 #[.int .i64 0, .slice none 0 0, .slice none 0 0] ∧ Below w.heap.size w wr) (fun s _ _ => (intOf s).toNat)
  case atStart => exact ⟨0, 0, by simp, rfl, Nat.zero_le _, Alive.zero _ _ _, hC2, b12, y2⟩
  case round =>
    obtain ⟨i, v, rfl, rfl, hi, hal, hC, hB, hY⟩ := hrel
    have HGOOD := Lib.hid (hal.good hgc)
    have HAL := Lib.hid hal
    clear hal hC2 b12 y2 y0
    have HHALT := Lib.hid (l05Halts_c (hm.below hY) (hrs.below hY) hC HGOOD.out hn)
    have hBlt : w.heap.size + 1 < wr.heap.size := hB.lt
    by_cases hlt : i < N
    · have j1 : (0 : Int) < (N : Int) - (i : Int) := by omega
      go_wp2_with fail
      refine HHALT.out.mono ?_
      rintro e W3 ⟨rfl, z3⟩
      have hC3 := hC.below z3
      have hB3 := hB.below' z3
      have hY3 : Below w.heap.size w W3 := hY.trans (z3.mono hY.size)
      cases hh : haltC sy rs (itC sy rs c i) with
      | true =>
        have HH := Lib.hid (not_alive_halt hlt hh)
        clear hh
        obtain ⟨L3, a3, R3', d3, bc, ol, or_, hap⟩ := hC3
        have HAP := Lib.hid hap
        clear hap
        generalize itC sy rs c i = ci at *
        have c0 : W3.cell? ⟨f, 0, none⟩ = some (.int .i64 ci.q) := bc.cell 0
        have c1 : W3.cell? ⟨f, 1, none⟩ = some (.slice L3 ci.xs.length a3) := bc.cell 1
        have c2 : W3.cell? ⟨f, 2, none⟩ = some (.slice R3' ci.ys.length d3) := bc.cell 2
        have u0 : W3.cell? ⟨(w.heap.size + 1), 0, none⟩ = some (.int .i64 0) := hB3.cell 0
        have u1 : W3.cell? ⟨(w.heap.size + 1), 1, none⟩ = some (.slice none 0 0) := hB3.cell 1
        have u2 : W3.cell? ⟨(w.heap.size + 1), 2, none⟩ = some (.slice none 0 0) := hB3.cell 2
        have f0 := hB3.frozen 0
        have f1 := hB3.frozen 1
        have f2 := hB3.frozen 2
        go_wp2_with fail
        have hCf := ConfC.set3 (c := ci) rfl hB3 ol or_ HAP.out
        have hYf := conf_below hY3 (show w.heap.size ≤ w.heap.size + 1 by omega) (.int .i64 ci.q) (.slice L3 ci.xs.length a3) (.slice R3' ci.ys.length d3)
        generalize ((W3.setCell ⟨w.heap.size + 1, 0, none⟩ (.int .i64 ci.q)).setCell ⟨w.heap.size + 1, 1, none⟩ (.slice L3 ci.xs.length a3)).setCell ⟨w.heap.size + 1, 2, none⟩ (.slice R3' ci.ys.length d3) = Wf at *
        obtain ⟨Lf, af, Rf, df, bf, olf, orf, hapf⟩ := hCf
        have g0 : Wf.cell? ⟨(w.heap.size + 1), 0, none⟩ = some (.int .i64 ci.q) := bf.cell 0
        have g1 : Wf.cell? ⟨(w.heap.size + 1), 1, none⟩ = some (.slice Lf ci.xs.length af) := bf.cell 1
        have g2 : Wf.cell? ⟨(w.heap.size + 1), 2, none⟩ = some (.slice Rf ci.ys.length df) := bf.cell 2
        exact bodyPost_ret (v := .tuple #[.agg #[.int .i64 ci.q, .slice Lf ci.xs.length af, .slice Rf ci.ys.length df], .int .i64 0, .bool false]) (by simp [results, Try.results242, go_sem, g0, g1, g2]) rfl ⟨false, 0, ci, Lf, af, Rf, df, rfl, (fun h => by cases h), fun _ => HH.out, olf, orf, hapf, hYf⟩
      | false =>
        have HH := Lib.hid hh
        clear hh
        have HSIDE := Lib.hid (l25Side_c (hm.below hY3) (hrs.below hY3) hC3 HGOOD.out hn)
        go_wp2_with fail
        refine HSIDE.out.mono ?_
        rintro e W3' ⟨rfl, nq, rfl⟩
        have hY3' : Below w.heap.size w (W3.drewN nq) := below_drewN hY3 nq
        have hC3' := hC3.drewN nq
        have hB3' : Blk (W3.drewN nq) (w.heap.size + 1) 49 #[.int .i64 0, .slice none 0 0, .slice none 0 0] := hB3.drewN nq
        clear hC3 hB3 hY3 HSIDE z3
        generalize W3.drewN nq = W4 at *
        have HSTEP := Lib.hid (l05Step_c (hm.below hY3') (hrs.below hY3') hC3' HGOOD.out hn)
        go_wp2_with fail
        refine HSTEP.out.mono ?_
        rintro e W5 ⟨L4, a4, R4, d4, rfl, ol4, or4, hap4, z4⟩
        have HAP4 := Lib.hid hap4
        clear hap4 HSTEP HHALT
        have hY4 : Below w.heap.size w W5 := hY3'.trans (z4.mono hY3'.size)
        have HNXT : Hid (roomC (itC sy rs c (i + 1)) = true → Alive sy rs c (i + 1)) := fun h => HAL.out.next HH.out h
        have hHR := Lib.hid (not_alive_room (sy := sy) (rs := rs) (c := c) hlt)
        generalize hnx : nextC sy rs (itC sy rs c i) = nx at *
        have HNX : Hid (itC sy rs c (i + 1) = nx) := Lib.hid hnx
        clear hnx
        obtain ⟨W6, hW_⟩ : ∃ W_, W_ = W5.alloc (.cells #[.int .i64 nx.q, .slice L4 nx.xs.length a4, .slice R4 nx.ys.length d4] 49) := ⟨_, rfl⟩
        have b5 : Blk W6 W5.heap.size 49 #[.int .i64 nx.q, .slice L4 nx.xs.length a4, .slice R4 nx.ys.length d4] := by rw [hW_]; exact Blk.new W5 _ _
        have z5 : Below W5.heap.size W5 W6 := by rw [hW_]; exact (Below.refl _ _).alloc (Nat.le_refl _) _
        have HW6 := Lib.hid hW_
        clear hW_
        have hY5 : Below w.heap.size w W6 := hY4.trans (z5.mono hY4.size)
        have hB5 := (hB3'.below' z4).below' z5
        have hC5 := (hC3'.below z4).below z5
        have hfW : f < W5.heap.size := by obtain ⟨_, _, _, _, b4, _⟩ := hC3'.below z4; exact b4.lt
        have hB5lt : w.heap.size + 1 < W5.heap.size := (hB3'.below' z4).lt
        obtain ⟨L5, a5, R5, d5, bc5, ol5, or5, hap5⟩ := hC5
        have HAP5 := Lib.hid hap5
        clear hap5
        generalize itC sy rs c i = ci at *
        cases hro : roomC nx with
        | true =>
          have HRO : Hid (roomC (itC sy rs c (i + 1)) = true) := Lib.hid (by rw [HNX.out]; exact hro)
          clear hro
          go_upto_region 9 with fail
          rw [← HW6.out]
          clear HW6
          have c0 : W6.cell? ⟨W5.heap.size, 0, none⟩ = some (.int .i64 nx.q) := b5.cell 0
          have c1 : W6.cell? ⟨W5.heap.size, 1, none⟩ = some (.slice L4 nx.xs.length a4) := b5.cell 1
          have c2 : W6.cell? ⟨W5.heap.size, 2, none⟩ = some (.slice R4 nx.ys.length d4) := b5.cell 2
          have u0 : W6.cell? ⟨f, 0, none⟩ = some (.int .i64 ci.q) := bc5.cell 0
          have u1 : W6.cell? ⟨f, 1, none⟩ = some (.slice L5 ci.xs.length a5) := bc5.cell 1
          have u2 : W6.cell? ⟨f, 2, none⟩ = some (.slice R5 ci.ys.length d5) := bc5.cell 2
          have f0 := bc5.frozen 0
          have f1 := bc5.frozen 1
          have f2 := bc5.frozen 2
          go_wp2_with fail
          have hCf := ConfC.set3 (c := nx) rfl bc5 ((ol4.below z5).mono hY3'.size) ((or4.below z5).mono hY3'.size) HAP4.out
          have hYf := conf_below hY5 (show w.heap.size ≤ f by omega) (.int .i64 nx.q) (.slice L4 nx.xs.length a4) (.slice R4 nx.ys.length d4)
          have hBf := ((hB5.far (p := ⟨f, 0, none⟩) (show w.heap.size + 1 ≠ f by omega) (.int .i64 nx.q)).far (p := ⟨f, 1, none⟩) (show w.heap.size + 1 ≠ f by omega) (.slice L4 nx.xs.length a4)).far (p := ⟨f, 2, none⟩) (show w.heap.size + 1 ≠ f by omega) (.slice R4 nx.ys.length d4)
          go_roundw
          case rel => exact ⟨i + 1, _, by go_num, rfl, by omega, HNXT.out HRO.out, by rw [HNX.out]; exact hCf, hBf, hYf⟩
          case measure => simp [intOf]; omega
        | false =>
          have HRO := Lib.hid (hHR.out hro)
          clear hro
          go_upto_region 9 with fail
          rw [← HW6.out]
          clear HW6
          have c0 : W6.cell? ⟨f, 0, none⟩ = some (.int .i64 ci.q) := bc5.cell 0
          have c1 : W6.cell? ⟨f, 1, none⟩ = some (.slice L5 ci.xs.length a5) := bc5.cell 1
          have c2 : W6.cell? ⟨f, 2, none⟩ = some (.slice R5 ci.ys.length d5) := bc5.cell 2
          have u0 : W6.cell? ⟨(w.heap.size + 1), 0, none⟩ = some (.int .i64 0) := hB5.cell 0
          have u1 : W6.cell? ⟨(w.heap.size + 1), 1, none⟩ = some (.slice none 0 0) := hB5.cell 1
          have u2 : W6.cell? ⟨(w.heap.size + 1), 2, none⟩ = some (.slice none 0 0) := hB5.cell 2
          have f0 := hB5.frozen 0
          have f1 := hB5.frozen 1
          have f2 := hB5.frozen 2
          go_wp2_with fail
          have hCf := ConfC.set3 (c := ci) rfl hB5 ol5 or5 HAP5.out
          have hYf := conf_below hY5 (show w.heap.size ≤ w.heap.size + 1 by omega) (.int .i64 ci.q) (.slice L5 ci.xs.length a5) (.slice R5 ci.ys.length d5)
          generalize ((W6.setCell ⟨w.heap.size + 1, 0, none⟩ (.int .i64 ci.q)).setCell ⟨w.heap.size + 1, 1, none⟩ (.slice L5 ci.xs.length a5)).setCell ⟨w.heap.size + 1, 2, none⟩ (.slice R5 ci.ys.length d5) = Wf at *
          obtain ⟨Lf, af, Rf, df, bf, olf, orf, hapf⟩ := hCf
          have g0 : Wf.cell? ⟨(w.heap.size + 1), 0, none⟩ = some (.int .i64 ci.q) := bf.cell 0
          have g1 : Wf.cell? ⟨(w.heap.size + 1), 1, none⟩ = some (.slice Lf ci.xs.length af) := bf.cell 1
          have g2 : Wf.cell? ⟨(w.heap.size + 1), 2, none⟩ = some (.slice Rf ci.ys.length df) := bf.cell 2
          exact bodyPost_ret (v := .tuple #[.agg #[.int .i64 ci.q, .slice Lf ci.xs.length af, .slice Rf ci.ys.length df], .int .i64 0, .bool false]) (by simp [results, Try.results242, go_sem, g0, g1, g2]) rfl ⟨false, 0, ci, Lf, af, Rf, df, rfl, (fun h => by cases h), fun _ => HRO.out, olf, orf, hapf, hYf⟩
    · obtain rfl : N = i := by omega
      have j1 : ¬ ((0 : Int) < (N : Int) - (N : Int)) := by omega
      obtain ⟨L3, a3, R3', d3, bc, ol, or_, hap⟩ := hC
      have HAP := Lib.hid hap
      have HCI : Hid (itC sy rs c N = itC sy rs c N) := rfl
      clear hap HHALT
      generalize hci : itC sy rs c N = ci at *
      have HC1 := Lib.hid hci
      clear hci HCI
      have c0 : wr.cell? ⟨f, 0, none⟩ = some (.int .i64 ci.q) := bc.cell 0
      have c1 : wr.cell? ⟨f, 1, none⟩ = some (.slice L3 ci.xs.length a3) := bc.cell 1
      have c2 : wr.cell? ⟨f, 2, none⟩ = some (.slice R3' ci.ys.length d3) := bc.cell 2
      have u0 : wr.cell? ⟨(w.heap.size + 1), 0, none⟩ = some (.int .i64 0) := hB.cell 0
      have u1 : wr.cell? ⟨(w.heap.size + 1), 1, none⟩ = some (.slice none 0 0) := hB.cell 1
      have u2 : wr.cell? ⟨(w.heap.size + 1), 2, none⟩ = some (.slice none 0 0) := hB.cell 2
      have f0 := hB.frozen 0
      have f1 := hB.frozen 1
      have f2 := hB.frozen 2
      go_wp2_with fail
      have hCf := ConfC.set3 (c := ci) rfl hB ol or_ HAP.out
      have hYf := conf_below hY (show w.heap.size ≤ w.heap.size + 1 by omega) (.int .i64 ci.q) (.slice L3 ci.xs.length a3) (.slice R3' ci.ys.length d3)
      generalize ((wr.setCell ⟨w.heap.size + 1, 0, none⟩ (.int .i64 ci.q)).setCell ⟨w.heap.size + 1, 1, none⟩ (.slice L3 ci.xs.length a3)).setCell ⟨w.heap.size + 1, 2, none⟩ (.slice R3' ci.ys.length d3) = Wf at *
      obtain ⟨Lf, af, Rf, df, bf, olf, orf, hapf⟩ := hCf
      have g0 : Wf.cell? ⟨(w.heap.size + 1), 0, none⟩ = some (.int .i64 ci.q) := bf.cell 0
      have g1 : Wf.cell? ⟨(w.heap.size + 1), 1, none⟩ = some (.slice Lf ci.xs.length af) := bf.cell 1
      have g2 : Wf.cell? ⟨(w.heap.size + 1), 2, none⟩ = some (.slice Rf ci.ys.length df) := bf.cell 2
      exact bodyPost_ret (v := .tuple #[.agg #[.int .i64 ci.q, .slice Lf ci.xs.length af, .slice Rf ci.ys.length df], .int .i64 v, .bool true]) (by simp [results, Try.results242, go_sem, g0, g1, g2]) rfl ⟨true, v, ci, Lf, af, Rf, df, rfl, fun _ => ⟨HAL.out, HC1.out.symm⟩, (fun h => by cases h), olf, orf, hapf, hYf⟩

theorem l25After_blank (g : Nat) (sy st : Int) (A : Option Addr) (n k : Nat) (rs : List R3) (L : Option Addr) (a : Nat) (R : Option Addr) (d : Nat) (N : Nat) (w : World) (hm : MachAt w g sy st A n k) (hrs : S3 w A n rs) (hgc : goodC sy st rs blankC) (hn : n ≤ 1048576) (hN : N ≤ 1000000) :
    Calls Try.prog 242 #[.pointer (some ⟨g, 0, none⟩), .agg #[.int .i64 0, .slice L 0 a, .slice R 0 d], .int .i64 (N : Int)] w (AfterS w sy rs blankC N) :=
  l25After_any g sy st A n k rs blankC L a R d N w hm hrs SI.nil SI.nil hgc hn hN
/-- What l25After returned, in a box. -/
def AfterBox (W : World) (sy : Int) (rs : List R3) (N : Nat) (s5 s6 s7 : Value) (wx : World) : Prop :=
  ∃ g v x cf, s5 = .pointer (some ⟨g, 0, none⟩) ∧ s6 = .int .i64 x ∧ s7 = .bool v ∧ ConfC wx W.heap.size g cf ∧ (v = true → Alive sy rs blankC N ∧ cf = itC sy rs blankC N) ∧ (v = false → ¬ Alive sy rs blankC N) ∧ Below W.heap.size W wx
theorem MachAt.alloc {w : World} {g : Nat} {sy st : Int} {A : Option Addr} {n k : Nat} (h : MachAt w g sy st A n k) (o : Obj) : MachAt (w.alloc o) g sy st A n k := h.below ((Below.refl _ _).alloc (Nat.le_refl _) o)
theorem ConfC.new {W w : World} {q : Int} {xs ys : List Int} {L R : Option Addr} {a d : Nat} (oL : Own w W.heap.size 2 1 L xs.length a (ints xs)) (oR : Own w W.heap.size 2 1 R ys.length d (ints ys)) (hap : ∀ b, blk L = some b → blk R ≠ some b) :
    ConfC (w.alloc (.cells #[.int .i64 q, .slice L xs.length a, .slice R ys.length d] 49)) W.heap.size w.heap.size ⟨q, xs, ys⟩ := ⟨L, a, R, d, Blk.new w _ _, oL.alloc _, oR.alloc _, hap⟩

end Go.Proofs.Ytdlojbabnelbdaa

/-
  Contracts of impl.StartConfig and spec.StartConfig: both return what startF says.
-/
namespace Go.Proofs.Ytdlojbabnelbdaa
open Go.RowKit

/-- What StartConfig returns. -/
def startF (sy st : Int) (rs : List R3) (xs : List Int) : Conf × Int :=
  if machB sy st rs && isWordB xs then
    if allIn xs 0 (sy - 1) then
      if (trimI xs).length ≤ 200 then (⟨0, [], trimI xs⟩, 0) else (⟨0, [], []⟩, 5)
    else (⟨0, [], []⟩, 2)
  else (⟨0, [], []⟩, 1)
theorem trim_take (xs : List Int) : ∃ k, k ≤ xs.length ∧ trimI xs = xs.take k := by
  unfold trimI
  have h : (xs.reverse.dropWhile (· == 0)) <:+ xs.reverse := List.dropWhile_suffix _
  obtain ⟨t, ht⟩ := h
  refine ⟨(xs.reverse.dropWhile (· == 0)).length, ?_, ?_⟩
  · have := congrArg List.length ht; simp at this; omega
  · have h2 : xs = (xs.reverse.dropWhile (· == 0)).reverse ++ t.reverse := by
      have := congrArg List.reverse ht
      simpa using this.symm
    conv => rhs; arg 2; rw [h2]
    rw [List.take_left' (by simp)]

theorem isWord_is {xs : List Int} {v : Bool} (h : isWordB xs = v) (A : Option Addr) (n c : Nat) (w : World) (hx : SI w A n xs) (hn : n ≤ 9223372036854775807) :
    Calls Try.prog 290 #[.slice A n c] w fun e w' => e = .returned (.bool v) ∧ w = w' := h ▸ isWord_any A n c xs w hx hn
theorem allWithin_is {xs : List Int} {lo hi : Int} {v : Bool} (h : allIn xs lo hi = v) (A : Option Addr) (n c : Nat) (w : World) (hx : SI w A n xs) (hn : n ≤ 9223372036854775807) :
    Calls Try.prog 86 #[.slice A n c, .int .i64 lo, .int .i64 hi] w fun e w' => e = .returned (.bool v) ∧ w = w' := h ▸ allWithin_any A n c xs lo hi w hx hn
theorem own_trim {w : World} {lo n c : Nat} {A : Option Addr} {xs : List Int} (h : Own w lo 2 1 A n c (ints xs)) : Own w lo 2 1 A (trimI xs).length c (ints (trimI xs)) := by
  obtain ⟨k, hk, e⟩ := trim_take xs
  have hl : xs.length = n := h.asI.len
  have h1 := h.upto (j := k) (by omega)
  rw [ints_take] at h1
  have h2 : (trimI xs).length = k := by rw [e, List.length_take]; omega
  rw [h2, e]
  exact h1
theorem startF_bad {sy st : Int} {rs : List R3} {xs : List Int} (h : (machB sy st rs && isWordB xs) = false) : startF sy st rs xs = (⟨0, [], []⟩, 1) := by unfold startF; rw [h]; rfl
theorem startF_out {sy st : Int} {rs : List R3} {xs : List Int} (h : machB sy st rs = true) (h1 : isWordB xs = true) (h2 : allIn xs 0 (sy - 1) = false) : startF sy st rs xs = (⟨0, [], []⟩, 2) := by unfold startF; rw [h, h1, h2]; rfl
theorem startF_full {sy st : Int} {rs : List R3} {xs : List Int} (h : machB sy st rs = true) (h1 : isWordB xs = true) (h2 : allIn xs 0 (sy - 1) = true) (h3 : ¬ (trimI xs).length ≤ 200) : startF sy st rs xs = (⟨0, [], []⟩, 5) := by unfold startF; rw [h, h1, h2]; simp [h3]
theorem startF_ok {sy st : Int} {rs : List R3} {xs : List Int} (h : machB sy st rs = true) (h1 : isWordB xs = true) (h2 : allIn xs 0 (sy - 1) = true) (h3 : (trimI xs).length ≤ 200) : startF sy st rs xs = (⟨0, [], trimI xs⟩, 0) := by unfold startF; rw [h, h1, h2]; simp [h3]
theorem trim_good2 (xs : List Int) : trimI xs = [] ∨ lastI (trimI xs) ≠ 0 := by
  unfold trimI lastI
  cases h : xs.reverse.dropWhile (· == 0) with
  | nil => left; rfl
  | cons a t =>
    right
    have h2 : (a == 0) = false := by
      have := List.head?_dropWhile_not (· == 0) xs.reverse
      rw [h] at this
      simpa using this
    simpa using h2
theorem startF_good {sy st : Int} {rs : List R3} {xs : List Int} (h : (startF sy st rs xs).2 = 0) : goodC sy st rs (startF sy st rs xs).1 := by
  unfold startF at h ⊢
  split at h
  · rename_i h0
    simp only [Bool.and_eq_true] at h0
    split at h
    · rename_i h1
      split at h
      · rename_i h2
        rw [if_pos (by simp [h0.1, h0.2]), if_pos h1, if_pos h2]
        obtain ⟨p1, p2, p3, p4, _, _⟩ := machB_parts h0.1
        have hin : ∀ y ∈ trimI xs, 0 ≤ y ∧ y ≤ sy - 1 := by
          obtain ⟨k, hk, e⟩ := trim_take xs
          rw [e]
          intro y hy
          have := List.mem_of_mem_take hy
          unfold allIn at h1
          rw [List.all_eq_true] at h1
          exact (inB_iff _ _ _).1 (h1 y this)
        have hs := side_of (sy := sy) h2 hin (trim_good2 xs)
        have hs0 := side_of (sy := sy) (xs := []) (by simp) (by simp) (.inl rfl)
        show validConfB sy st rs 0 [] (trimI xs) = true
        unfold validConfB confB
        rw [h0.1, hs, hs0]
        simp [inB]; omega
      · cases h
    · cases h
  · cases h

end Go.Proofs.Ytdlojbabnelbdaa
