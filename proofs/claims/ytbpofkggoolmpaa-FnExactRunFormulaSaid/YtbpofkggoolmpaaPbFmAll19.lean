/-
  Contracts of the reference's checks of words and proofs: l03Is, l03All, l25Is, l25Form, l25Blank, l25Side, l25After, CheckHalt.
-/
import Derived.Test.YtbpofkggoolmpaaPbFmAll3
import Derived.Test.YtbpofkggoolmpaaPbFmAll5
import Derived.Test.YtbpofkggoolmpaaPbFmAll7
import Derived.Test.YtbpofkggoolmpaaPbFmAll16
import Derived.Test.YtbpofkggoolmpaaPbFmAll18
import Derived.Lib.QuietBelow
namespace Go.Proofs.Ytbpofkggoolmpaa
open Go.RowKit

theorem isWord_out {xs : List Int} {k n : Nat} (hk : k < n) (hl : xs.length = n) (h : (!inB (xs[k]'(by omega)) 0 9) = true) : false = isWordB xs := by
  have := allIn_at hk hl h
  unfold isWordB; rw [← this]; simp
theorem isWord_end {xs : List Int} {k n : Nat} (hk : n ≤ k) (hl : xs.length = n) (he : allIn (xs.take k) 0 9 = true) : decide ((n : Int) ≤ 400) = isWordB xs := by
  have := allIn_end hk hl he
  unfold isWordB; rw [← this, hl]; simp; omega

theorem areWords_not {ts : List Sl} {t : Sl} {k : Nat} (hT : ts[k]? = some t) (h : (!isWordB t.xs) = true) : false = areWordsB (nums ts) := by
  symm
  unfold areWordsB; rw [List.all_eq_false]
  exact ⟨t.xs, by simp only [nums, List.mem_map]; exact ⟨t, List.mem_of_getElem? hT, rfl⟩, by simpa using h⟩
theorem areWords_next {ts : List Sl} {t : Sl} {k : Nat} (hT : ts[k]? = some t) (h : (!isWordB t.xs) = false) (he : areWordsB ((nums ts).take k) = true) : areWordsB ((nums ts).take (k + 1)) = true := by
  obtain ⟨hk, rfl⟩ := List.getElem?_eq_some_iff.1 hT
  unfold areWordsB at he ⊢
  rw [List.take_succ_eq_append_getElem (by simpa [nums] using hk), List.all_append, he]
  simpa [nums] using h
theorem areWords_end {ts : List Sl} {k n : Nat} (hk : n ≤ k) (hl : ts.length = n) (he : areWordsB ((nums ts).take k) = true) : true = areWordsB (nums ts) := by
  rw [List.take_of_length_le (by simp [nums]; omega)] at he; exact he.symm

/-- A proof behind a pointer. -/
def PrfAt (w : World) (g : Nat) (q : Int) (A : Option Addr) (n c : Nat) (B : Option Addr) (m d : Nat) : Prop :=
  w.cell? ⟨g, 0, none⟩ = some (.int .i64 q) ∧ w.cell? ⟨g, 1, none⟩ = some (.slice A n c) ∧ w.cell? ⟨g, 2, none⟩ = some (.slice B m d)
theorem PrfAt.below {w w' : World} {g : Nat} {q : Int} {A : Option Addr} {n c : Nat} {B : Option Addr} {m d : Nat} (h : PrfAt w g q A n c B m d) (hb : Below w.heap.size w w') : PrfAt w' g q A n c B m d := by
  have hlt : g < w.heap.size := World.block_lt_of_cell? w _ h.1
  exact ⟨(hb.cell (p := ⟨g, 0, none⟩) hlt).trans h.1, (hb.cell (p := ⟨g, 1, none⟩) hlt).trans h.2.1, (hb.cell (p := ⟨g, 2, none⟩) hlt).trans h.2.2⟩
theorem Blk.prfAt {w : World} {g : Nat} {t : TypeId} {q : Int} {A : Option Addr} {n c : Nat} {B : Option Addr} {m d : Nat} (h : Blk w g t #[.int .i64 q, .slice A n c, .slice B m d]) : PrfAt w g q A n c B m d := ⟨h.cell 0, h.cell 1, h.cell 2⟩

def formB (q : Int) (xs : List Int) (xss : List (List Int)) (kd : Int) (nn : Nat) : Bool := validProofB q xs xss && decide (q = kd) && decide (xs.length = nn) && decide (xss.length = 0)
theorem formB_eq (sy st : Int) (rs : List R3) (q : Int) (xs : List Int) (xss : List (List Int)) (kd : Int) (nn : Nat) : proofOfB sy st rs q xs xss kd nn = (machB sy st rs && formB q xs xss kd nn) := by
  unfold proofOfB formB; simp only [Bool.and_assoc]

/-- The configuration behind N steps, and whether they can be made. -/
def AfterS (w : World) (sy : Int) (rs : List R3) (c : Conf) (N : Nat) (e : Ending) (w' : World) : Prop :=
  ∃ (v : Bool) (x : Int) (cf : Conf) (L : Option Addr) (a : Nat) (R : Option Addr) (d : Nat), e = .returned (.tuple #[.agg #[.int .i64 cf.q, .slice L cf.xs.length a, .slice R cf.ys.length d], .int .i64 x, .bool v]) ∧ (v = true → Alive sy rs c N ∧ cf = itC sy rs c N) ∧ (v = false → ¬ Alive sy rs c N) ∧
    Own w' w.heap.size 2 1 L cf.xs.length a (ints cf.xs) ∧ Own w' w.heap.size 2 1 R cf.ys.length d (ints cf.ys) ∧ (∀ b, blk L = some b → blk R ≠ some b) ∧ Below w.heap.size w w'
theorem not_alive_halt {sy : Int} {rs : List R3} {c : Conf} {N i : Nat} (h : i < N) (hh : haltC sy rs (itC sy rs c i) = true) : ¬ Alive sy rs c N := fun ha => by
  have := (ha i h).1; rw [hh] at this; cases this
theorem not_alive_room {sy : Int} {rs : List R3} {c : Conf} {N i : Nat} (h : i < N) (hh : roomC (nextC sy rs (itC sy rs c i)) = false) : ¬ Alive sy rs c N := fun ha => by
  have h1 : roomC (nextC sy rs (itC sy rs c i)) = true := (ha i h).2
  rw [hh] at h1; cases h1

/-- What l25After returned, in a box. -/
def AfterBox (W : World) (sy : Int) (rs : List R3) (N : Nat) (s5 s6 s7 : Value) (wx : World) : Prop :=
  ∃ g v x cf, s5 = .pointer (some ⟨g, 0, none⟩) ∧ s6 = .int .i64 x ∧ s7 = .bool v ∧ ConfC wx W.heap.size g cf ∧ (v = true → Alive sy rs blankC N ∧ cf = itC sy rs blankC N) ∧ (v = false → ¬ Alive sy rs blankC N) ∧ Below W.heap.size W wx
theorem MachAt.alloc {w : World} {g : Nat} {sy st : Int} {A : Option Addr} {n k : Nat} (h : MachAt w g sy st A n k) (o : Obj) : MachAt (w.alloc o) g sy st A n k := h.below ((Below.refl _ _).alloc (Nat.le_refl _) o)
theorem ConfC.new {W w : World} {q : Int} {xs ys : List Int} {L R : Option Addr} {a d : Nat} (oL : Own w W.heap.size 2 1 L xs.length a (ints xs)) (oR : Own w W.heap.size 2 1 R ys.length d (ints ys)) (hap : ∀ b, blk L = some b → blk R ≠ some b) :
    ConfC (w.alloc (.cells #[.int .i64 q, .slice L xs.length a, .slice R ys.length d] 50)) W.heap.size w.heap.size ⟨q, xs, ys⟩ := ⟨L, a, R, d, Blk.new w _ _, oL.alloc _, oR.alloc _, hap⟩

end Go.Proofs.Ytbpofkggoolmpaa

/-
  The sides of a good configuration are short.
-/
namespace Go.Proofs.Ytbpofkggoolmpaa
open Go.RowKit
theorem conf_len {sy st : Int} {rs : List R3} {c : Conf} (h : goodC sy st rs c) : c.xs.length ≤ 200 ∧ c.ys.length ≤ 200 := by
  have hp := conf_parts h
  exact ⟨hp.2.2.2.2.2.2.2.1, hp.2.2.2.2.2.2.2.2.1⟩
end Go.Proofs.Ytbpofkggoolmpaa

/-
  Contracts of impl's sameConfig, spanOk, CheckCycle.
-/
namespace Go.Proofs.Ytbpofkggoolmpaa
open Go.RowKit Go.Sort

def sameConfB (c d : Conf) : Bool := decide (c.q = d.q) && sameI c.xs d.xs && sameI c.ys d.ys

def spanB (a b : Int) : Bool := inB a 0 20000 && inB b 1 (20000 - a)

theorem spanB_iff (a b : Int) : spanB a b = true ↔ 0 ≤ a ∧ a ≤ 20000 ∧ 1 ≤ b ∧ b ≤ 20000 - a := by
  unfold spanB inB; simp; omega

/-- What CheckCycle returns. -/
def checkCycleF (sy st : Int) (rs : List R3) (q : Int) (xs : List Int) (xss : List (List Int)) : Bool :=
  proofOfB sy st rs q xs xss 2 2 && spanB (xs.getD 0 0) (xs.getD 1 0) && aliveB sy rs blankC (xs.getD 0 0).toNat && aliveB sy rs blankC (xs.getD 0 0 + xs.getD 1 0).toNat &&
    sameConfB (itC sy rs blankC (xs.getD 0 0).toNat) (itC sy rs blankC (xs.getD 0 0 + xs.getD 1 0).toNat)
theorem SI.two {w : World} {A : Option Addr} {xs : List Int} (h : SI w A 2 xs) : ∃ b off, A = some ⟨b, off, none⟩ ∧ b < w.heap.size ∧ w.cell? ⟨b, off, none⟩ = some (.int .i64 (xs.getD 0 0)) ∧ w.cell? ⟨b, off + 1, none⟩ = some (.int .i64 (xs.getD 1 0)) := by
  obtain ⟨b, off, rfl, hb, h0⟩ := h.at_ (k := 0) (by omega)
  obtain ⟨b', off', e, _, h1⟩ := h.at_ (k := 1) (by omega)
  cases e
  have hl := h.len
  refine ⟨b, off, rfl, hb, ?_, ?_⟩
  · rw [show off = off + 0 from rfl, h0]; congr 2; simp [List.getD_eq_getElem?_getD, List.getElem?_eq_getElem (show 0 < xs.length by omega)]
  · rw [h1]; congr 2; simp [List.getD_eq_getElem?_getD, List.getElem?_eq_getElem (show 1 < xs.length by omega)]
end Go.Proofs.Ytbpofkggoolmpaa

/-
  Contracts of the reference's l27Symbols and l27Is.
-/
namespace Go.Proofs.Ytbpofkggoolmpaa
open Go.RowKit Go.Sort

theorem symbols_out {xs : List Int} {sy : Int} {k n : Nat} {most : Int} (hk : k < n) (hl : xs.length = n) (h : (!inB (xs[k]'(by omega)) 0 (sy - 1)) = true) : false = (decide ((xs.length : Int) ≤ most) && allIn xs 0 (sy - 1)) := by
  have := allIn_at hk hl h
  rw [← this]; simp
theorem symbols_end {xs : List Int} {sy : Int} {k n : Nat} {most : Int} (hk : n ≤ k) (hl : xs.length = n) (he : allIn (xs.take k) 0 (sy - 1) = true) : decide ((n : Int) ≤ most) = (decide ((xs.length : Int) ≤ most) && allIn xs 0 (sy - 1)) := by
  have := allIn_end hk hl he
  rw [← this, hl]; simp

set_option maxHeartbeats 1000000 in
theorem l27Symbols_any (g : Nat) (sy st : Int) (A0 : Option Addr) (n0 k0 : Nat) (A : Option Addr) (n c : Nat) (xs : List Int) (most : Int) (w : World) (hm : MachAt w g sy st A0 n0 k0) (hx : SI w A n xs) (hn : n ≤ 9223372036854775807) (s1 : 2 ≤ sy) (s2 : sy ≤ 6) :
    Calls Try.prog 180 #[.pointer (some ⟨g, 0, none⟩), .slice A n c, .int .i64 most] w fun e w' => e = .returned (.bool (decide ((xs.length : Int) ≤ most) && allIn xs 0 (sy - 1))) ∧ ∃ nq, w' = w.drewN nq := by
  have hwr : IntKind.i64.wrap (sy - 1) = sy - 1 := IntWalk.i64_in _ (by omega)
  have HM := Lib.hid hm
  have HX := Lib.hid hx
  clear hm hx
  go_enter Try.func180, Try.ntmps180
  go_wp2
  go_loopw [7] (fun i wr => ∃ k q : Nat, k ≤ n ∧ i = .int .i64 k ∧ Hid (allIn (xs.take k) 0 (sy - 1) = true) ∧ Hid (wr = w.drewN q)) (fun i _ => n - (intOf i).toNat)
  case atStart => exact ⟨0, 0, by omega, rfl, rfl, Lib.hid rfl⟩
  case round =>
    obtain ⟨k, q, hk, rfl, he, HQ⟩ := hrel
    have i1 : (0 : Int) ≤ (k : Int) := by omega
    obtain ⟨u0, u1, u2⟩ : MachAt wr g sy st A0 n0 k0 := by rw [HQ.out]; exact HM.out.drewN q
    have hx : SI wr A n xs := by rw [HQ.out]; exact Rd.drewN HX.out q
    by_cases hlt : k < n
    · obtain ⟨b, off, rfl, _, hc⟩ := hx.at_ hlt
      have i2 : (k : Int) < (n : Int) := by omega
      go_wp2_with fail
      go_quiet ((go_at_call 102; exact quiet_left (l00In_any _ _ _ _)))
      go_wp2_with fail
      · go_ret
        exact ⟨ret_bool (symbols_out hlt hx.len (by assumption)), _, by rw [HQ.out, World.drewN_drewN]⟩
      · exact ⟨⟨k + 1, _, by omega, by go_num, allIn_next hlt hx.len (by assumption) he.out, Lib.hid (by rw [HQ.out, World.drewN_drewN])⟩, by simp [intOf]; omega⟩
    · have i2 : ¬ (k : Int) < (n : Int) := by omega
      go_wp2_with fail
      go_ret
      exact ⟨ret_bool (symbols_end (by omega) hx.len he.out), _, HQ.out⟩
theorem l27Symbols_b {g : Nat} {sy st : Int} {A0 : Option Addr} {n0 k0 : Nat} {A : Option Addr} {n c : Nat} {xs : List Int} {most : Int} {v : Bool} (hv : (decide ((xs.length : Int) ≤ most) && allIn xs 0 (sy - 1)) = v) (w : World) (hm : MachAt w g sy st A0 n0 k0) (hx : SI w A n xs) (hn : n ≤ 9223372036854775807) (s1 : 2 ≤ sy) (s2 : sy ≤ 6) :
    Calls Try.prog 180 #[.pointer (some ⟨g, 0, none⟩), .slice A n c, .int .i64 most] w fun e w' => e = .returned (.bool v) ∧ Below w.heap.size w w' :=
  (l27Symbols_any g sy st A0 n0 k0 A n c xs most w hm hx hn s1 s2).mono fun _ _ ⟨he, q, hq⟩ => ⟨hv ▸ he, hq ▸ below_drewN (Below.refl _ _) q⟩
theorem FmAt.lt {w : World} {g : Nat} {f : Fm} {A B C : Option Addr} {n c m d l k : Nat} (h : FmAt w g f A n c B m d C l k) : g < w.heap.size := World.block_lt_of_cell? w _ h.1
theorem FmAt.below {w w' : World} {g : Nat} {f : Fm} {A B C : Option Addr} {n c m d l k : Nat} (h : FmAt w g f A n c B m d C l k) (hb : Below w.heap.size w w') : FmAt w' g f A n c B m d C l k :=
  ⟨(hb.cell (p := ⟨g, 0, none⟩) h.lt).trans h.1, (hb.cell (p := ⟨g, 1, none⟩) h.lt).trans h.2.1, (hb.cell (p := ⟨g, 2, none⟩) h.lt).trans h.2.2.1, (hb.cell (p := ⟨g, 3, none⟩) h.lt).trans h.2.2.2.1, (hb.cell (p := ⟨g, 4, none⟩) h.lt).trans h.2.2.2.2.1, (hb.cell (p := ⟨g, 5, none⟩) h.lt).trans h.2.2.2.2.2⟩

set_option maxRecDepth 100000 in
set_option maxHeartbeats 4000000 in
theorem l27Is_any (g gf : Nat) (sy st : Int) (A0 : Option Addr) (n0 k0 : Nat) (q h a : Int) (A : Option Addr) (n c : Nat) (ts : List Sl) (B : Option Addr) (m d : Nat) (us : List Sl) (C : Option Addr) (l e : Nat) (os : List Int) (w : World) (hm0 : MachAt w g sy st A0 n0 k0) (hf : FmAt w gf ⟨q, h, a, nums ts, nums us, os⟩ A n c B m d C l e) (hx : SII w A n ts) (hy : SII w B m us) (hz : SI w C l os)
    (hn : n ≤ 1048576) (hm : m ≤ 1048576) (hl : l ≤ 1048576) (hns : ∀ t ∈ ts, t.xs.length ≤ 1048576) (hms : ∀ t ∈ us, t.xs.length ≤ 1048576) (s1 : 2 ≤ sy) (s2 : sy ≤ 6) (s3 : 1 ≤ st) (s4 : st ≤ 1000) :
    Calls Try.prog 86 #[.pointer (some ⟨g, 0, none⟩), .pointer (some ⟨gf, 0, none⟩)] w fun en w' => en = .returned (.bool (fmB sy st ⟨q, h, a, nums ts, nums us, os⟩)) ∧ Below w.heap.size w w' := by
  obtain ⟨u0, u1, u2⟩ := id hm0
  obtain ⟨v0, v1, v2, v3, v4, v5⟩ := id hf
  dsimp only at v0 v1 v2
  have HM := Lib.hid hm0
  have HF := Lib.hid hf
  have HLN : Hid ((nums ts).length = n) := Lib.hid (by rw [nums_len]; exact hx.len)
  have HLM : Hid ((nums us).length = m) := Lib.hid (by rw [nums_len]; exact hy.len)
  have HLO : Hid (os.length = l) := Lib.hid hz.len
  have HTL := Lib.hid hx.len
  have HUL := Lib.hid hy.len
  have HNS := Lib.hid hns
  have HMS := Lib.hid hms
  have HX := Lib.hid hx
  have HY := Lib.hid hy
  have HZ := Lib.hid hz
  clear hns hms hx hy hz hm0 hf
  have wr0 : IntKind.i64.wrap (st - 1) = st - 1 := IntWalk.i64_in _ (by omega)
  cases a1 : inB q 0 (st - 1)
  · have A1 := Lib.hid a1
    clear a1
    go_enter Try.func86, Try.ntmps86
    go_wp2_with fail
    go_quiet ((go_at_call 102; exact quiet_left (l00In_is A1.out _)))
    go_wp2_with fail
    go_ret
    exact ⟨ret_bool (by unfold fmB shapeB; simp [A1.out]), below_drewN (Below.refl _ _) _⟩
  have A1 := Lib.hid a1
  clear a1
  by_cases a2 : m < 1
  · have i2 : decide ((m : Int) < 1) = true := by simp; omega
    have A2 : Hid (inB (m : Int) 1 3 = false) := Lib.hid (by unfold inB; rw [decide_eq_false (by omega)]; rfl)
    clear a2
    go_enter Try.func86, Try.ntmps86
    go_wp2_with fail
    go_quiet ((go_at_call 102; exact quiet_left (l00In_is A1.out _)))
    go_wp2_with fail
    go_ret
    exact ⟨ret_bool (by unfold fmB shapeB; simp [HLM.out, A2.out]), below_drewN (Below.refl _ _) _⟩
  have i2 : decide ((m : Int) < 1) = false := by simp; omega
  have hm1 : 1 ≤ m := by omega
  by_cases a3 : 3 < m
  · have i3 : decide ((3 : Int) < (m : Int)) = true := by simp; omega
    have A2 : Hid (inB (m : Int) 1 3 = false) := Lib.hid (by unfold inB; rw [decide_eq_false (show ¬ (m : Int) ≤ 3 by omega)]; simp)
    clear a2 a3
    go_enter Try.func86, Try.ntmps86
    go_wp2_with fail
    go_quiet ((go_at_call 102; exact quiet_left (l00In_is A1.out _)))
    go_wp2_with fail
    go_ret
    exact ⟨ret_bool (by unfold fmB shapeB; simp [HLM.out, A2.out]), below_drewN (Below.refl _ _) _⟩
  have i3 : decide ((3 : Int) < (m : Int)) = false := by simp; omega
  by_cases a4 : n = m + 1
  rotate_left
  · have A4 := Lib.hid a4
    have i4 : ((n : Int) != (m : Int) + 1) = true := by simp; omega
    clear a2 a3 a4
    go_enter Try.func86, Try.ntmps86
    go_wp2_with fail
    go_quiet ((go_at_call 102; exact quiet_left (l00In_is A1.out _)))
    go_wp2_with fail
    go_ret
    exact ⟨ret_bool (by unfold fmB shapeB; simp [HLM.out, HLN.out, A4.out]), below_drewN (Below.refl _ _) _⟩
  subst a4
  by_cases a5 : l = m
  rotate_left
  · have A5 := Lib.hid a5
    have i5 : ((l : Int) != (m : Int)) = true := by simp; omega
    clear a2 a3 a5
    go_enter Try.func86, Try.ntmps86
    go_wp2_with fail
    go_quiet ((go_at_call 102; exact quiet_left (l00In_is A1.out _)))
    go_wp2_with fail
    go_ret
    exact ⟨ret_bool (by unfold fmB shapeB; simp [HLM.out, HLN.out, HLO.out, A5.out]), below_drewN (Below.refl _ _) _⟩
  subst a5
  have HSH : Hid (shapeB st ⟨q, h, a, nums ts, nums us, os⟩ = true) := Lib.hid (shapeB_iff.2 ⟨A1.out, by show _ ≤ (nums us).length; rw [HLM.out]; omega, by show (nums us).length ≤ _; rw [HLM.out]; omega, by show (nums ts).length = (nums us).length + 1; rw [HLM.out, HLN.out], by show os.length = (nums us).length; rw [HLM.out, HLO.out]⟩)
  cases a6 : inB h 0 (l : Int)
  · have A6 := Lib.hid a6
    clear a6 a2 a3
    go_enter Try.func86, Try.ntmps86
    go_wp2_with fail
    go_quiet ((first
      | (go_at_call 102; with_reducible exact quiet_left (l00In_is A1.out _))
      | (go_at_call 102; with_reducible exact quiet_left (l00In_is A6.out _))))
    go_wp2_with fail
    go_ret
    exact ⟨ret_bool (by unfold fmB; simp [HLM.out, A6.out]), below_drewN (Below.refl _ _) _⟩
  have A6 := Lib.hid a6
  have hh := (inB_iff _ _ _).1 a6
  clear a6 a2 a3
  obtain ⟨hN, rfl⟩ : ∃ hN : Nat, h = (hN : Int) := ⟨h.toNat, by omega⟩
  go_enter Try.func86, Try.ntmps86
  go_wp2_with fail
  go_quiet ((first
    | (go_at_call 102; with_reducible exact quiet_left (l00In_is A1.out _))
    | (go_at_call 102; with_reducible exact quiet_left (l00In_is A6.out _))))
  go_wp2_with fail
  clear u0 u1 u2 v0 v1 v2 v3 v4 v5
  go_loopw [6] (fun i wr => ∃ k : Nat, k ≤ l + 1 ∧ i = .int .i64 k ∧ Hid (((nums ts).take k).all (wallB sy) = true) ∧ Hid (Below w.heap.size w wr)) (fun i _ => l + 1 - (intOf i).toNat)
  case atStart => exact ⟨0, by omega, rfl, Lib.hid (by simp), Lib.hid (below_drewN (Below.refl _ _) _)⟩
  case round =>
    obtain ⟨k, hk, rfl, he, HB⟩ := hrel
    have i1 : (0 : Int) ≤ (k : Int) := by omega
    obtain ⟨v0, v1, v2, v3, v4, v5⟩ := HF.out.below HB.out
    dsimp only at v0 v1 v2
    by_cases hlt : k < l + 1
    · obtain ⟨t, bb, off, hT, htm, rfl, _, hc, hr⟩ := (HX.out.below HB.out).pick hlt
      have hnt := HNS.out t htm
      have j2 : (k : Int) ≤ (l : Int) := by omega
      have j3 : (k : Int) < ((l + 1 : Nat) : Int) := by omega
      cases g1 : wallB sy t.xs
      · have G1 := Lib.hid g1
        clear g1
        go_wp2_with fail
        refine (l27Symbols_b (most := 100) G1.out _ (HM.out.below HB.out) hr (by omega) s1 s2).mono ?_
        rintro en w2 ⟨rfl, z2⟩
        go_wp2_with fail
        go_ret
        exact ⟨ret_bool (by unfold fmB; rw [show (nums ts).all (wallB sy) = false from rows_not hT.out G1.out]; simp), HB.out.trans (z2.mono HB.out.size)⟩
      · have G1 := Lib.hid g1
        clear g1
        go_wp2_with fail
        refine (l27Symbols_b (most := 100) G1.out _ (HM.out.below HB.out) hr (by omega) s1 s2).mono ?_
        rintro en w2 ⟨rfl, z2⟩
        have HB2 := Lib.hid (HB.out.trans (z2.mono HB.out.size))
        go_wp2_with fail
        exact ⟨⟨k + 1, by omega, by go_num, Lib.hid (rows_next hT.out G1.out he.out), HB2⟩, by simp [intOf]; omega⟩
    · have j2 : ¬ (k : Int) ≤ (l : Int) := by omega
      have HWA : Hid ((nums ts).all (wallB sy) = true) := Lib.hid (rows_end (by omega) HTL.out he.out)
      clear he
      go_wp2_with fail
      clear v0 v1 v2 v3 v4 v5 i1 j2 hlt hk
      go_loopw [7] (fun i wr2 => ∃ k : Nat, k ≤ l ∧ i = .int .i64 k ∧ Hid (((nums us).take k).all (repB sy) = true) ∧ Hid (allIn (os.take k) (-1000) 1000 = true) ∧ Hid (Below w.heap.size w wr2)) (fun i _ => l - (intOf i).toNat)
      case atStart => exact ⟨0, by omega, rfl, Lib.hid (by simp), Lib.hid rfl, HB⟩
      case round =>
        clear HB
        obtain ⟨j, hj, rfl, he, ho, HB⟩ := hrel
        have i1 : (0 : Int) ≤ (j : Int) := by omega
        obtain ⟨v0, v1, v2, v3, v4, v5⟩ := HF.out.below HB.out
        dsimp only at v0 v1 v2
        by_cases hlt : j < l
        · obtain ⟨t, bb, off, hT, htm, rfl, _, hc, hr⟩ := (HY.out.below HB.out).pick hlt
          obtain ⟨ob, oo, rfl, _, hco⟩ := (HZ.out.below HB.out).at_ hlt
          have hnt := HMS.out t htm
          have j2 : (j : Int) < (l : Int) := by omega
          by_cases g0 : t.xs.length = 0
          · have g0' : (t.xs.length : Int) = 0 := by omega
            have G0 := Lib.hid g0
            clear g0
            go_wp2_with fail
            go_ret
            exact ⟨ret_bool (by unfold fmB; rw [show (nums us).all (repB sy) = false from rows_not hT.out (by unfold repB inB; rw [G0.out]; rfl)]; simp), HB.out⟩
          · have g0' : ¬ (t.xs.length : Int) = 0 := by omega
            have HRB : Hid (repB sy t.xs = (decide ((t.xs.length : Int) ≤ 20) && allIn t.xs 0 (sy - 1))) := Lib.hid (by unfold repB inB; rw [decide_eq_true (show (1 : Int) ≤ (t.xs.length : Int) by omega)]; rfl)
            clear g0
            cases g1 : (decide ((t.xs.length : Int) ≤ 20) && allIn t.xs 0 (sy - 1))
            · have G1 := Lib.hid g1
              clear g1
              go_wp2_with fail
              refine (l27Symbols_b (most := 20) G1.out _ (HM.out.below HB.out) hr (by omega) s1 s2).mono ?_
              rintro en w2 ⟨rfl, z2⟩
              go_wp2_with fail
              go_ret
              exact ⟨ret_bool (by unfold fmB; rw [show (nums us).all (repB sy) = false from rows_not hT.out (by rw [HRB.out, G1.out])]; simp), HB.out.trans (z2.mono HB.out.size)⟩
            · have G1 := Lib.hid g1
              clear g1
              have HCO := Lib.hid hco
              have HOB := Lib.hid (World.block_lt_of_cell? _ _ hco)
              go_wp2_with fail
              refine (l27Symbols_b (most := 20) G1.out _ (HM.out.below HB.out) hr (by omega) s1 s2).mono ?_
              rintro en w2 ⟨rfl, z2⟩
              have HB2 := Lib.hid (HB.out.trans (z2.mono HB.out.size))
              have hco2 := (z2.cell (p := ⟨ob, oo + j, none⟩) HOB.out).trans HCO.out
              clear v0 v1 v2 v3 v4 v5 hco hc
              obtain ⟨v0, v1, v2, v3, v4, v5⟩ := HF.out.below HB2.out
              dsimp only at v0 v1 v2
              go_wp2_with (go_at_call 102; refine (l00In_any _ _ _ _).mono ?_; rintro e w' ⟨rfl, rfl⟩)
              · go_ret
                exact ⟨ret_bool (by unfold fmB; rw [show allIn os (-1000) 1000 = false from (allIn_at hlt HLO.out (by assumption)).symm]; simp), HB2.out⟩
              · exact ⟨⟨j + 1, by omega, by go_num, Lib.hid (rows_next hT.out (by rw [HRB.out, G1.out]) he.out), Lib.hid (allIn_next hlt HLO.out (by assumption) ho.out), HB2⟩, by simp [intOf]; omega⟩
        · have j2 : ¬ (j : Int) < (l : Int) := by omega
          have HRA : Hid ((nums us).all (repB sy) = true) := Lib.hid (rows_end (by omega) HUL.out he.out)
          have HOA : Hid (allIn os (-1000) 1000 = true) := Lib.hid (allIn_end (by omega) HLO.out ho.out).symm
          clear he ho
          obtain ⟨t, bb, off, hT, htm, rfl, _, hc, hr⟩ := (HX.out.below HB.out).pick (k := hN) (by omega)
          have hnt := HNS.out t htm
          have k3 : (0 : Int) ≤ (hN : Int) := by omega
          have k4 : (hN : Int) < ((l + 1 : Nat) : Int) := by omega
          have HE : Hid (∀ lo hi, lowF ⟨q, (hN : Int), a, nums ts, nums us, os⟩ = lo → highF ⟨q, (hN : Int), a, nums ts, nums us, os⟩ = hi → fmB sy st ⟨q, (hN : Int), a, nums ts, nums us, os⟩ = inB a lo hi) := Lib.hid (by
            intro lo hi h1 h2
            unfold fmB
            rw [HSH.out, HWA.out, HRA.out, HOA.out]
            show (_ && inB (hN : Int) 0 ((nums us).length : Int) && atB _) = _
            rw [HLM.out, A6.out, atB_eq (by show inB (hN : Int) 0 ((nums us).length : Int) = true; rw [HLM.out]; exact A6.out), h1, h2]
            simp)
          have HT := Lib.hid hT.out
          have wr2_ : IntKind.i64.wrap ((t.xs.length : Int) - 1) = (t.xs.length : Int) - 1 := IntWalk.i64_in _ (by omega)
          clear hT hh
          by_cases g1 : 0 < hN
          · have g1' : (0 : Int) < (hN : Int) := by omega
            have HL1 : Hid (lowF ⟨q, (hN : Int), a, nums ts, nums us, os⟩ = -1) := Lib.hid (by unfold lowF; exact if_pos g1')
            by_cases g2 : hN = l
            · have HH : Hid (highF ⟨q, (hN : Int), a, nums ts, nums us, os⟩ = (t.xs.length : Int) - 1) := Lib.hid (by
                unfold highF
                show (if (hN : Int) = ((nums us).length : Int) then ((rowAt (nums ts) (hN : Int)).length : Int) - 1 else _) = _
                rw [HLM.out, if_pos (by omega), rowAt_eq HT.out])
              subst g2
              go_wp2_with fail
              go_quiet (fail)
              go_wp2_with (go_at_call 102; refine (l00In_any _ _ _ _).mono ?_; rintro e w' ⟨rfl, rfl⟩)
              go_ret
              exact ⟨ret_bool (HE.out _ _ HL1.out HH.out).symm, below_drewN HB.out _⟩
            · have g2' : ¬ (hN : Int) = (l : Int) := by omega
              have HH : Hid (highF ⟨q, (hN : Int), a, nums ts, nums us, os⟩ = (t.xs.length : Int)) := Lib.hid (by
                unfold highF
                show (if (hN : Int) = ((nums us).length : Int) then _ else ((rowAt (nums ts) (hN : Int)).length : Int)) = _
                rw [HLM.out, if_neg g2', rowAt_eq HT.out])
              go_wp2_with fail
              go_quiet (fail)
              go_wp2_with (go_at_call 102; refine (l00In_any _ _ _ _).mono ?_; rintro e w' ⟨rfl, rfl⟩)
              go_ret
              exact ⟨ret_bool (HE.out _ _ HL1.out HH.out).symm, below_drewN HB.out _⟩
          · have g1' : ¬ (0 : Int) < (hN : Int) := by omega
            have HL1 : Hid (lowF ⟨q, (hN : Int), a, nums ts, nums us, os⟩ = 0) := Lib.hid (by unfold lowF; exact if_neg g1')
            have g2' : ¬ (hN : Int) = (l : Int) := by omega
            have HH : Hid (highF ⟨q, (hN : Int), a, nums ts, nums us, os⟩ = (t.xs.length : Int)) := Lib.hid (by
              unfold highF
              show (if (hN : Int) = ((nums us).length : Int) then _ else ((rowAt (nums ts) (hN : Int)).length : Int)) = _
              rw [HLM.out, if_neg g2', rowAt_eq HT.out])
            clear g1
            go_wp2_with fail
            go_quiet (fail)
            go_wp2_with (go_at_call 102; refine (l00In_any _ _ _ _).mono ?_; rintro e w' ⟨rfl, rfl⟩)
            go_ret
            exact ⟨ret_bool (HE.out _ _ HL1.out HH.out).symm, below_drewN HB.out _⟩
end Go.Proofs.Ytbpofkggoolmpaa

/-
  Contract of the reference's next formula tape.
-/
namespace Go.Proofs.Ytbpofkggoolmpaa
open Go.RowKit

theorem hereR_move {sy st : Int} {rs : List R3} {f : Fm} (hm : machB sy st rs = true) (hf : fmB sy st f = true) (ho : onB f = true) (hi : isRuleB (hereR sy rs f) = true) : -1 ≤ f.a + (hereR sy rs f).b ∧ f.a + (hereR sy rs f).b ≤ 1000 := by
  obtain ⟨hsz, _, hws, _⟩ := fmB_sz hf
  obtain ⟨pq0, pq1⟩ := (fmB_parts hf).2.2.2.2.2.2.2.2
  have hlen := ho
  unfold onB at hlen
  rw [inB_iff] at hlen
  have hx : ∀ x ∈ rowAt f.W f.h, 0 ≤ x ∧ x ≤ sy - 1 := by
    unfold rowAt
    rw [List.getD_eq_getElem?_getD]
    cases e : f.W[f.h.toNat]? with
    | none => simp
    | some y => exact hws y (List.mem_of_getElem? e)
  have hxm : (rowAt f.W f.h).getD f.a.toNat 0 ∈ rowAt f.W f.h := by
    rw [List.getD_eq_getElem?_getD, List.getElem?_eq_getElem (by omega)]
    exact List.getElem_mem _
  obtain ⟨_, _, _, _, _, _, hv⟩ := rule_parts hm pq0 pq1 (hx _ hxm).1 (hx _ hxm).2
  have hv : validRuleB sy st (hereR sy rs f) = true := hv
  unfold validRuleB at hv
  rw [hi] at hv
  simp only [Bool.not_true, Bool.false_or, Bool.and_eq_true, Bool.or_eq_true, beq_iff_eq, inB_iff] at hv
  have hl := rowAt_le hsz.2.2.2.2.2.2.1 f.h
  omega
theorem moved_ok {sy st : Int} {rs : List R3} {f : Fm} (hm : machB sy st rs = true) (hf : fmB sy st f = true) : (∃ g kd, moveF sy rs f = some (g, kd) ∧ FmOk g) ∨ moveF sy rs f = none := by
  obtain ⟨hsz, _, _, hrs⟩ := fmB_sz hf
  cases ho : onB f
  · obtain ⟨i, hi, hcase⟩ := onF_rep hf ho
    obtain ⟨sd, hsd, _, hmp, hmu⟩ := moveF_rep (sy := sy) (rs := rs) ho hcase
    cases hs : shiftF sy rs f.q (rowAt f.R (i : Int)) sd with
    | none => exact .inl ⟨_, _, hmu hs, FmSz.unroll_ok hsz _ _⟩
    | some out => exact .inl ⟨_, _, hmp out hs, FmSz.pass_ok hsz i sd out hi (by have h1 := shiftGo_len _ _ _ _ _ hs; have h2 := rowAt_le hsz.2.2.2.2.2.2.2.1 (i : Int); omega) hsd⟩
  · cases hi : isRuleB (hereR sy rs f)
    · exact .inr (by unfold moveF; rw [if_pos ho]; show (if isRuleB (hereR sy rs f) = true then some (wallF f (hereR sy rs f), (0 : Int)) else none) = none; rw [hi]; rfl)
    · exact .inl ⟨wallF f (hereR sy rs f), 0, by unfold moveF; rw [if_pos ho]; show (if isRuleB (hereR sy rs f) = true then some (wallF f (hereR sy rs f), (0 : Int)) else none) = _; rw [hi]; rfl, FmSz.wall_ok hsz _ (hereR_move hm hf ho hi)⟩

set_option maxRecDepth 100000 in
set_option maxHeartbeats 2000000 in
theorem l27Next_any (gm g0 : Nat) (sy st : Int) (A0 : Option Addr) (n0 k0 : Nat) (rs : List R3) (q0 h0 a0 : Int) (A9 : Option Addr) (n9 c9 : Nat) (ts0 : List Sl) (B9 : Option Addr) (m9 d9 : Nat) (us0 : List Sl) (C9 : Option Addr) (l9 e9 : Nat) (os0 : List Int) (w : World) (hmm : MachAt w gm sy st A0 n0 k0) (hr : S3 w A0 n0 rs) (hm : machB sy st rs = true)
    (hg : FmAt w g0 ⟨q0, h0, a0, nums ts0, nums us0, os0⟩ A9 n9 c9 B9 m9 d9 C9 l9 e9) (hx : SII w A9 n9 ts0) (hy : SII w B9 m9 us0) (hz : SI w C9 l9 os0) (hf : fmB sy st ⟨q0, h0, a0, nums ts0, nums us0, os0⟩ = true) :
    Calls Try.prog 87 #[.pointer (some ⟨gm, 0, none⟩), .pointer (some ⟨g0, 0, none⟩)] w (NewFmI3 w (nextFm sy st rs ⟨q0, h0, a0, nums ts0, nums us0, os0⟩)) := by
  have hgl := World.block_lt_of_cell? w _ hg.1
  obtain ⟨s1', s2', s3', s4'⟩ := machB_bounds hm
  have HSTP : Hid (∀ W', Below w.heap.size w W' → Calls Try.prog 181 #[.pointer (some ⟨gm, 0, none⟩), .pointer (some ⟨g0, 0, none⟩)] W' (NewFmI3 W' (movedF sy rs ⟨q0, h0, a0, nums ts0, nums us0, os0⟩))) := Lib.hid (fun W' z => l27Step_any gm g0 sy st A0 n0 k0 rs q0 h0 a0 A9 n9 c9 ts0 B9 m9 d9 us0 C9 l9 e9 os0 W' (hmm.below z) (hr.below z) hm ⟨(z.cell (p := ⟨g0, 0, none⟩) hgl).trans hg.1, (z.cell (p := ⟨g0, 1, none⟩) hgl).trans hg.2.1, (z.cell (p := ⟨g0, 2, none⟩) hgl).trans hg.2.2.1, (z.cell (p := ⟨g0, 3, none⟩) hgl).trans hg.2.2.2.1, (z.cell (p := ⟨g0, 4, none⟩) hgl).trans hg.2.2.2.2.1, (z.cell (p := ⟨g0, 5, none⟩) hgl).trans hg.2.2.2.2.2⟩ (hx.below z) (hy.below z) (hz.below z) hf)
  have hok := moved_ok (rs := rs) hm hf
  obtain ⟨res, hres⟩ : ∃ res, res = nextFm sy st rs ⟨q0, h0, a0, nums ts0, nums us0, os0⟩ := ⟨_, rfl⟩
  rw [← hres]
  have HM := Lib.hid hmm
  unfold nextFm at hres
  clear hx hy hz hg hgl hf hr hm
  generalize (⟨q0, h0, a0, nums ts0, nums us0, os0⟩ : Fm) = f at *
  obtain ⟨W, hW_⟩ : ∃ W, W = w.alloc (.cells #[.int .i64 0, .int .i64 0, .int .i64 0, .slice none 0 0, .slice none 0 0, .slice none 0 0] 31) := ⟨_, rfl⟩
  have bR : Blk W w.heap.size 31 #[.int .i64 0, .int .i64 0, .int .i64 0, .slice none 0 0, .slice none 0 0, .slice none 0 0] := by rw [hW_]; exact Blk.new w _ _
  have y0 : Below w.heap.size w W := by rw [hW_]; exact (Below.refl _ _).alloc (Nat.le_refl _) _
  have HW := Lib.hid hW_
  clear hW_
  have hWs : w.heap.size < W.heap.size := bR.lt
  rcases hok with ⟨gf, kd, hmv, ok⟩ | hmv
  rotate_left
  · rw [hmv] at hres
    rw [movedF_none hmv] at HSTP
    replace hres : res = (Fm.zero, 0, 6) := hres
    subst hres
    clear hmv hmm
    go_enter Try.func87, Try.ntmps87
    go_upto_region 1 with fail
    rw [← HW.out]
    go_wp2_with fail
    refine (HSTP.out W y0).mono ?_
    rintro e W1 ⟨A, c, ts, B, d, us, C, k, rfl, hR1, z1⟩
    obtain ⟨W2, hW_⟩ : ∃ W_, W_ = W1.alloc (.cells #[.int .i64 Fm.zero.q, .int .i64 Fm.zero.h, .int .i64 Fm.zero.a, .slice A ts.length c, .slice B us.length d, .slice C Fm.zero.O.length k] 31) := ⟨_, rfl⟩
    have b2 : Blk W2 W1.heap.size 31 #[.int .i64 Fm.zero.q, .int .i64 Fm.zero.h, .int .i64 Fm.zero.a, .slice A ts.length c, .slice B us.length d, .slice C Fm.zero.O.length k] := by rw [hW_]; exact Blk.new W1 _ _
    have z2 : Below W1.heap.size W1 W2 := by rw [hW_]; exact (Below.refl _ _).alloc (Nat.le_refl _) _
    have HW2 := Lib.hid hW_
    clear hW_
    go_upto_region 2 with fail
    rw [← HW2.out]
    have z02 : Below W.heap.size W W2 := z1.trans (z2.mono z1.size)
    have bRn := bR.below' z02
    have y2 : Below w.heap.size w W2 := y0.trans (z02.mono y0.size)
    have f0 := bRn.frozen 0
    have f1 := bRn.frozen 1
    have f2 := bRn.frozen 2
    have f3 := bRn.frozen 3
    have f4 := bRn.frozen 4
    have f5 := bRn.frozen 5
    have x0 : W2.cell? ⟨w.heap.size, 0, none⟩ = some (.int .i64 0) := bRn.cell 0
    have x1 : W2.cell? ⟨w.heap.size, 1, none⟩ = some (.int .i64 0) := bRn.cell 1
    have x2 : W2.cell? ⟨w.heap.size, 2, none⟩ = some (.int .i64 0) := bRn.cell 2
    have x3 : W2.cell? ⟨w.heap.size, 3, none⟩ = some (.slice none 0 0) := bRn.cell 3
    have x4 : W2.cell? ⟨w.heap.size, 4, none⟩ = some (.slice none 0 0) := bRn.cell 4
    have x5 : W2.cell? ⟨w.heap.size, 5, none⟩ = some (.slice none 0 0) := bRn.cell 5
    go_wp2_with fail
    clear x0 x1 x2 x3 x4 x5
    have dC : Blk ((((((W2.setCell ⟨w.heap.size, 0, none⟩ (.int .i64 0)).setCell ⟨w.heap.size, 1, none⟩ (.int .i64 0)).setCell ⟨w.heap.size, 2, none⟩ (.int .i64 0)).setCell ⟨w.heap.size, 3, none⟩ (.slice none 0 0)).setCell ⟨w.heap.size, 4, none⟩ (.slice none 0 0)).setCell ⟨w.heap.size, 5, none⟩ (.slice none 0 0)) w.heap.size 31 #[.int .i64 0, .int .i64 0, .int .i64 0, .slice none 0 0, .slice none 0 0, .slice none 0 0] := fm_set bRn (.int .i64 0) (.int .i64 0) (.int .i64 0) (.slice none 0 0) (.slice none 0 0) (.slice none 0 0)
    have yT : ∀ (lo : Nat) (w0 : World), Below lo w0 W2 → lo ≤ w.heap.size → Below lo w0 ((((((W2.setCell ⟨w.heap.size, 0, none⟩ (.int .i64 0)).setCell ⟨w.heap.size, 1, none⟩ (.int .i64 0)).setCell ⟨w.heap.size, 2, none⟩ (.int .i64 0)).setCell ⟨w.heap.size, 3, none⟩ (.slice none 0 0)).setCell ⟨w.heap.size, 4, none⟩ (.slice none 0 0)).setCell ⟨w.heap.size, 5, none⟩ (.slice none 0 0)) := fun lo w0 h hl => fm_below h hl (.int .i64 0) (.int .i64 0) (.int .i64 0) (.slice none 0 0) (.slice none 0 0) (.slice none 0 0)
    have kT : ∀ k, k ≠ w.heap.size → ((((((W2.setCell ⟨w.heap.size, 0, none⟩ (.int .i64 0)).setCell ⟨w.heap.size, 1, none⟩ (.int .i64 0)).setCell ⟨w.heap.size, 2, none⟩ (.int .i64 0)).setCell ⟨w.heap.size, 3, none⟩ (.slice none 0 0)).setCell ⟨w.heap.size, 4, none⟩ (.slice none 0 0)).setCell ⟨w.heap.size, 5, none⟩ (.slice none 0 0)).heap[k]? = W2.heap[k]? := fun k hk => fm_kept (.int .i64 0) (.int .i64 0) (.int .i64 0) (.slice none 0 0) (.slice none 0 0) (.slice none 0 0) k hk
    generalize (((((W2.setCell ⟨w.heap.size, 0, none⟩ (.int .i64 0)).setCell ⟨w.heap.size, 1, none⟩ (.int .i64 0)).setCell ⟨w.heap.size, 2, none⟩ (.int .i64 0)).setCell ⟨w.heap.size, 3, none⟩ (.slice none 0 0)).setCell ⟨w.heap.size, 4, none⟩ (.slice none 0 0)).setCell ⟨w.heap.size, 5, none⟩ (.slice none 0 0) = wg at *
    have x0 : wg.cell? ⟨w.heap.size, 0, none⟩ = some (.int .i64 0) := dC.cell 0
    have x1 : wg.cell? ⟨w.heap.size, 1, none⟩ = some (.int .i64 0) := dC.cell 1
    have x2 : wg.cell? ⟨w.heap.size, 2, none⟩ = some (.int .i64 0) := dC.cell 2
    have x3 : wg.cell? ⟨w.heap.size, 3, none⟩ = some (.slice none 0 0) := dC.cell 3
    have x4 : wg.cell? ⟨w.heap.size, 4, none⟩ = some (.slice none 0 0) := dC.cell 4
    have x5 : wg.cell? ⟨w.heap.size, 5, none⟩ = some (.slice none 0 0) := dC.cell 5
    have hres : NewFmI3 w (Fm.zero, 0, 6) (.returned (.tuple #[.agg #[.int .i64 0, .int .i64 0, .int .i64 0, .slice none 0 0, .slice none 0 0, .slice none 0 0], .int .i64 0, .int .i64 6])) wg := ⟨none, 0, [], none, 0, [], none, 0, rfl, FmR.zero _ _, yT _ _ y2 (Nat.le_refl _)⟩
    exact bodyPost_ret (v := .tuple #[.agg #[.int .i64 0, .int .i64 0, .int .i64 0, .slice none 0 0, .slice none 0 0, .slice none 0 0], .int .i64 0, .int .i64 6]) (by simp [results, Try.results87, go_sem, x0, x1, x2, x3, x4, x5]) rfl hres
  · rw [hmv] at hres
    rw [movedF_some hmv] at HSTP
    replace hres : res = if fmB sy st gf then (gf, kd, 0) else (Fm.zero, 0, 5) := hres
    have HRES := Lib.hid hres
    obtain ⟨q', h', a', FW, FR, os'⟩ := gf
    clear hmv hres
    go_enter Try.func87, Try.ntmps87
    go_upto_region 1 with fail
    rw [← HW.out]
    go_wp2_with fail
    refine (HSTP.out W y0).mono ?_
    rintro e W1 ⟨A', c', ts', B', d', us', C', k', rfl, hR1, z1⟩
    obtain ⟨hO1, eW, eR⟩ := hR1
    dsimp only at eW eR hO1
    subst eW eR
    obtain ⟨W2, hW_⟩ : ∃ W_, W_ = W1.alloc (.cells #[.int .i64 q', .int .i64 h', .int .i64 a', .slice A' ts'.length c', .slice B' us'.length d', .slice C' os'.length k'] 31) := ⟨_, rfl⟩
    have b2 : Blk W2 W1.heap.size 31 #[.int .i64 q', .int .i64 h', .int .i64 a', .slice A' ts'.length c', .slice B' us'.length d', .slice C' os'.length k'] := by rw [hW_]; exact Blk.new W1 _ _
    have z2 : Below W1.heap.size W1 W2 := by rw [hW_]; exact (Below.refl _ _).alloc (Nat.le_refl _) _
    have HW2 := Lib.hid hW_
    clear hW_
    go_upto_region 2 with fail
    rw [← HW2.out]
    have hO := hO1.below z2
    have z02 : Below W.heap.size W W2 := z1.trans (z2.mono z1.size)
    have y2 : Below w.heap.size w W2 := y0.trans (z02.mono y0.size)
    have bR2 := bR.below' z02
    obtain ⟨ok1, ok2, ok3, ok4, ok5⟩ := ok
    dsimp only at ok1 ok2 ok3 ok4 ok5
    rw [nums_len] at ok1 ok2
    have HIS := Lib.hid (l27Is_any gm W1.heap.size sy st A0 n0 k0 q' h' a' A' ts'.length c' ts' B' us'.length d' us' C' os'.length k' os' W2 (hmm.below y2) (b2.fmAt _ _ _) hO.1.sii hO.2.1.sii hO.2.2.1.asI ok1 ok2 ok3 (fun t ht => ok4 _ (List.mem_map.2 ⟨t, ht, rfl⟩)) (fun t ht => ok5 _ (List.mem_map.2 ⟨t, ht, rfl⟩)) s1' s2' s3' s4')
    clear HSTP hO1 ok4 ok5 hmm
    cases hv : fmB sy st ⟨q', h', a', nums ts', nums us', os'⟩
    · have hrr : res = (Fm.zero, 0, 5) := by rw [HRES.out, hv]; rfl
      subst hrr
      rw [hv] at HIS
      clear hv HRES
      go_upto_region 4 with fail
      go_wp2_with fail
      refine HIS.out.mono ?_
      rintro e W3 ⟨rfl, z3⟩
      have bRn := bR2.below' z3
      have y3 : Below w.heap.size w W3 := y2.trans (z3.mono y2.size)
      have f0 := bRn.frozen 0
      have f1 := bRn.frozen 1
      have f2 := bRn.frozen 2
      have f3 := bRn.frozen 3
      have f4 := bRn.frozen 4
      have f5 := bRn.frozen 5
      have x0 : W3.cell? ⟨w.heap.size, 0, none⟩ = some (.int .i64 0) := bRn.cell 0
      have x1 : W3.cell? ⟨w.heap.size, 1, none⟩ = some (.int .i64 0) := bRn.cell 1
      have x2 : W3.cell? ⟨w.heap.size, 2, none⟩ = some (.int .i64 0) := bRn.cell 2
      have x3 : W3.cell? ⟨w.heap.size, 3, none⟩ = some (.slice none 0 0) := bRn.cell 3
      have x4 : W3.cell? ⟨w.heap.size, 4, none⟩ = some (.slice none 0 0) := bRn.cell 4
      have x5 : W3.cell? ⟨w.heap.size, 5, none⟩ = some (.slice none 0 0) := bRn.cell 5
      go_wp2_with fail
      clear x0 x1 x2 x3 x4 x5
      have dC : Blk ((((((W3.setCell ⟨w.heap.size, 0, none⟩ (.int .i64 0)).setCell ⟨w.heap.size, 1, none⟩ (.int .i64 0)).setCell ⟨w.heap.size, 2, none⟩ (.int .i64 0)).setCell ⟨w.heap.size, 3, none⟩ (.slice none 0 0)).setCell ⟨w.heap.size, 4, none⟩ (.slice none 0 0)).setCell ⟨w.heap.size, 5, none⟩ (.slice none 0 0)) w.heap.size 31 #[.int .i64 0, .int .i64 0, .int .i64 0, .slice none 0 0, .slice none 0 0, .slice none 0 0] := fm_set bRn (.int .i64 0) (.int .i64 0) (.int .i64 0) (.slice none 0 0) (.slice none 0 0) (.slice none 0 0)
      have yT : ∀ (lo : Nat) (w0 : World), Below lo w0 W3 → lo ≤ w.heap.size → Below lo w0 ((((((W3.setCell ⟨w.heap.size, 0, none⟩ (.int .i64 0)).setCell ⟨w.heap.size, 1, none⟩ (.int .i64 0)).setCell ⟨w.heap.size, 2, none⟩ (.int .i64 0)).setCell ⟨w.heap.size, 3, none⟩ (.slice none 0 0)).setCell ⟨w.heap.size, 4, none⟩ (.slice none 0 0)).setCell ⟨w.heap.size, 5, none⟩ (.slice none 0 0)) := fun lo w0 h hl => fm_below h hl (.int .i64 0) (.int .i64 0) (.int .i64 0) (.slice none 0 0) (.slice none 0 0) (.slice none 0 0)
      have kT : ∀ k, k ≠ w.heap.size → ((((((W3.setCell ⟨w.heap.size, 0, none⟩ (.int .i64 0)).setCell ⟨w.heap.size, 1, none⟩ (.int .i64 0)).setCell ⟨w.heap.size, 2, none⟩ (.int .i64 0)).setCell ⟨w.heap.size, 3, none⟩ (.slice none 0 0)).setCell ⟨w.heap.size, 4, none⟩ (.slice none 0 0)).setCell ⟨w.heap.size, 5, none⟩ (.slice none 0 0)).heap[k]? = W3.heap[k]? := fun k hk => fm_kept (.int .i64 0) (.int .i64 0) (.int .i64 0) (.slice none 0 0) (.slice none 0 0) (.slice none 0 0) k hk
      generalize (((((W3.setCell ⟨w.heap.size, 0, none⟩ (.int .i64 0)).setCell ⟨w.heap.size, 1, none⟩ (.int .i64 0)).setCell ⟨w.heap.size, 2, none⟩ (.int .i64 0)).setCell ⟨w.heap.size, 3, none⟩ (.slice none 0 0)).setCell ⟨w.heap.size, 4, none⟩ (.slice none 0 0)).setCell ⟨w.heap.size, 5, none⟩ (.slice none 0 0) = wg at *
      have x0 : wg.cell? ⟨w.heap.size, 0, none⟩ = some (.int .i64 0) := dC.cell 0
      have x1 : wg.cell? ⟨w.heap.size, 1, none⟩ = some (.int .i64 0) := dC.cell 1
      have x2 : wg.cell? ⟨w.heap.size, 2, none⟩ = some (.int .i64 0) := dC.cell 2
      have x3 : wg.cell? ⟨w.heap.size, 3, none⟩ = some (.slice none 0 0) := dC.cell 3
      have x4 : wg.cell? ⟨w.heap.size, 4, none⟩ = some (.slice none 0 0) := dC.cell 4
      have x5 : wg.cell? ⟨w.heap.size, 5, none⟩ = some (.slice none 0 0) := dC.cell 5
      have hres : NewFmI3 w (Fm.zero, 0, 5) (.returned (.tuple #[.agg #[.int .i64 0, .int .i64 0, .int .i64 0, .slice none 0 0, .slice none 0 0, .slice none 0 0], .int .i64 0, .int .i64 5])) wg := ⟨none, 0, [], none, 0, [], none, 0, rfl, FmR.zero _ _, yT _ _ y3 (Nat.le_refl _)⟩
      exact bodyPost_ret (v := .tuple #[.agg #[.int .i64 0, .int .i64 0, .int .i64 0, .slice none 0 0, .slice none 0 0, .slice none 0 0], .int .i64 0, .int .i64 5]) (by simp [results, Try.results87, go_sem, x0, x1, x2, x3, x4, x5]) rfl hres
    · have hrr := Lib.hid (show res = (⟨q', h', a', nums ts', nums us', os'⟩, kd, 0) by rw [HRES.out, hv]; rfl)
      rw [hv] at HIS
      clear hv HRES
      go_upto_region 4 with fail
      go_wp2_with fail
      refine HIS.out.mono ?_
      rintro e W3 ⟨rfl, z3⟩
      have bRn := bR2.below' z3
      have b3 := b2.below' z3
      have hO3 := hO.below z3
      have y3 : Below w.heap.size w W3 := y2.trans (z3.mono y2.size)
      have v0 : W3.cell? ⟨W1.heap.size, 0, none⟩ = some (.int .i64 q') := b3.cell 0
      have v1 : W3.cell? ⟨W1.heap.size, 1, none⟩ = some (.int .i64 h') := b3.cell 1
      have v2 : W3.cell? ⟨W1.heap.size, 2, none⟩ = some (.int .i64 a') := b3.cell 2
      have v3 : W3.cell? ⟨W1.heap.size, 3, none⟩ = some (.slice A' ts'.length c') := b3.cell 3
      have v4 : W3.cell? ⟨W1.heap.size, 4, none⟩ = some (.slice B' us'.length d') := b3.cell 4
      have v5 : W3.cell? ⟨W1.heap.size, 5, none⟩ = some (.slice C' os'.length k') := b3.cell 5
      have hgn : W1.heap.size ≠ w.heap.size := by have := z1.size; omega
      have f0 := bRn.frozen 0
      have f1 := bRn.frozen 1
      have f2 := bRn.frozen 2
      have f3 := bRn.frozen 3
      have f4 := bRn.frozen 4
      have f5 := bRn.frozen 5
      have x0 : W3.cell? ⟨w.heap.size, 0, none⟩ = some (.int .i64 0) := bRn.cell 0
      have x1 : W3.cell? ⟨w.heap.size, 1, none⟩ = some (.int .i64 0) := bRn.cell 1
      have x2 : W3.cell? ⟨w.heap.size, 2, none⟩ = some (.int .i64 0) := bRn.cell 2
      have x3 : W3.cell? ⟨w.heap.size, 3, none⟩ = some (.slice none 0 0) := bRn.cell 3
      have x4 : W3.cell? ⟨w.heap.size, 4, none⟩ = some (.slice none 0 0) := bRn.cell 4
      have x5 : W3.cell? ⟨w.heap.size, 5, none⟩ = some (.slice none 0 0) := bRn.cell 5
      go_wp2_with fail
      clear x0 x1 x2 x3 x4 x5
      have dC : Blk ((((((W3.setCell ⟨w.heap.size, 0, none⟩ (.int .i64 q')).setCell ⟨w.heap.size, 1, none⟩ (.int .i64 h')).setCell ⟨w.heap.size, 2, none⟩ (.int .i64 a')).setCell ⟨w.heap.size, 3, none⟩ (.slice A' ts'.length c')).setCell ⟨w.heap.size, 4, none⟩ (.slice B' us'.length d')).setCell ⟨w.heap.size, 5, none⟩ (.slice C' os'.length k')) w.heap.size 31 #[.int .i64 q', .int .i64 h', .int .i64 a', .slice A' ts'.length c', .slice B' us'.length d', .slice C' os'.length k'] := fm_set bRn (.int .i64 q') (.int .i64 h') (.int .i64 a') (.slice A' ts'.length c') (.slice B' us'.length d') (.slice C' os'.length k')
      have yT : ∀ (lo : Nat) (w0 : World), Below lo w0 W3 → lo ≤ w.heap.size → Below lo w0 ((((((W3.setCell ⟨w.heap.size, 0, none⟩ (.int .i64 q')).setCell ⟨w.heap.size, 1, none⟩ (.int .i64 h')).setCell ⟨w.heap.size, 2, none⟩ (.int .i64 a')).setCell ⟨w.heap.size, 3, none⟩ (.slice A' ts'.length c')).setCell ⟨w.heap.size, 4, none⟩ (.slice B' us'.length d')).setCell ⟨w.heap.size, 5, none⟩ (.slice C' os'.length k')) := fun lo w0 h hl => fm_below h hl (.int .i64 q') (.int .i64 h') (.int .i64 a') (.slice A' ts'.length c') (.slice B' us'.length d') (.slice C' os'.length k')
      have kT : ∀ k, k ≠ w.heap.size → ((((((W3.setCell ⟨w.heap.size, 0, none⟩ (.int .i64 q')).setCell ⟨w.heap.size, 1, none⟩ (.int .i64 h')).setCell ⟨w.heap.size, 2, none⟩ (.int .i64 a')).setCell ⟨w.heap.size, 3, none⟩ (.slice A' ts'.length c')).setCell ⟨w.heap.size, 4, none⟩ (.slice B' us'.length d')).setCell ⟨w.heap.size, 5, none⟩ (.slice C' os'.length k')).heap[k]? = W3.heap[k]? := fun k hk => fm_kept (.int .i64 q') (.int .i64 h') (.int .i64 a') (.slice A' ts'.length c') (.slice B' us'.length d') (.slice C' os'.length k') k hk
      generalize (((((W3.setCell ⟨w.heap.size, 0, none⟩ (.int .i64 q')).setCell ⟨w.heap.size, 1, none⟩ (.int .i64 h')).setCell ⟨w.heap.size, 2, none⟩ (.int .i64 a')).setCell ⟨w.heap.size, 3, none⟩ (.slice A' ts'.length c')).setCell ⟨w.heap.size, 4, none⟩ (.slice B' us'.length d')).setCell ⟨w.heap.size, 5, none⟩ (.slice C' os'.length k') = wg at *
      have x0 : wg.cell? ⟨w.heap.size, 0, none⟩ = some (.int .i64 q') := dC.cell 0
      have x1 : wg.cell? ⟨w.heap.size, 1, none⟩ = some (.int .i64 h') := dC.cell 1
      have x2 : wg.cell? ⟨w.heap.size, 2, none⟩ = some (.int .i64 a') := dC.cell 2
      have x3 : wg.cell? ⟨w.heap.size, 3, none⟩ = some (.slice A' ts'.length c') := dC.cell 3
      have x4 : wg.cell? ⟨w.heap.size, 4, none⟩ = some (.slice B' us'.length d') := dC.cell 4
      have x5 : wg.cell? ⟨w.heap.size, 5, none⟩ = some (.slice C' os'.length k') := dC.cell 5
      have hres : NewFmI3 w res (.returned (.tuple #[.agg #[.int .i64 q', .int .i64 h', .int .i64 a', .slice A' ts'.length c', .slice B' us'.length d', .slice C' os'.length k'], .int .i64 kd, .int .i64 0])) wg := by rw [hrr.out]; exact ⟨A', c', ts', B', d', us', C', k', rfl, ⟨(hO3.far bRn (by decide) (by decide) kT).mono y0.size, rfl, rfl⟩, yT _ _ y3 (Nat.le_refl _)⟩
      exact bodyPost_ret (v := .tuple #[.agg #[.int .i64 q', .int .i64 h', .int .i64 a', .slice A' ts'.length c', .slice B' us'.length d', .slice C' os'.length k'], .int .i64 kd, .int .i64 0]) (by simp [results, Try.results87, go_sem, x0, x1, x2, x3, x4, x5]) rfl hres
end Go.Proofs.Ytbpofkggoolmpaa
