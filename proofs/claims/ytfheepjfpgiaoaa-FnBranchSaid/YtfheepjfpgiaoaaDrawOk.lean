/-
  The reference's draw of a program: l22Standard, l22DrawOk, B10While.
-/
import Derived.Test.YtfheepjfpgiaoaaDrawRp
namespace Go.Proofs.Ytfheepjfpgiaoaa
open Go.RowKit Go.PlainAid

/-- The standard texts. -/
def stdS : Nat → ByteArray
  | 0 => ⟨#[49, 61, 110, 59, 119, 48, 123, 49, 61, 40, 104, 48, 46, 49, 41, 59, 48, 61, 116, 48, 125, 59, 48, 61, 49]⟩
  | 1 => ⟨#[49, 61, 104, 48, 59, 50, 61, 110, 59, 119, 49, 123, 50, 61, 40, 104, 49, 46, 50, 41, 59, 49, 61, 116, 49, 125, 59, 49, 61, 116, 48, 59, 119, 50, 123, 49, 61, 40, 104, 50, 46, 49, 41, 59, 50, 61, 116, 50, 125, 59, 48, 61, 49]⟩
  | 2 => ⟨#[48, 61, 40, 104, 48, 63, 116, 48, 41]⟩
  | 3 => ⟨#[48, 61, 40, 116, 48, 46, 104, 48, 41]⟩
  | _ => ⟨#[49, 61, 40, 110, 46, 110, 41, 59, 119, 49, 123, 50, 61, 110, 125]⟩
def stdP : Nat → Pg
  | 0 => .set 1 .nil (.wh (.var 0) (.set 1 (.cons (.hd (.var 0)) (.var 1)) (.set 0 (.tl (.var 0)) .done)) (.set 0 (.var 1) .done))
  | 1 => .set 1 (.hd (.var 0)) (.set 2 .nil (.wh (.var 1) (.set 2 (.cons (.hd (.var 1)) (.var 2)) (.set 1 (.tl (.var 1)) .done)) (.set 1 (.tl (.var 0)) (.wh (.var 2) (.set 1 (.cons (.hd (.var 2)) (.var 1)) (.set 2 (.tl (.var 2)) .done)) (.set 0 (.var 1) .done)))))
  | 2 => .set 0 (.same (.hd (.var 0)) (.tl (.var 0))) .done
  | 3 => .set 0 (.cons (.tl (.var 0)) (.hd (.var 0))) .done
  | _ => .set 1 (.cons .nil .nil) (.wh (.var 1) (.set 2 .nil .done) .done)
def atB (s : ByteArray) (l : List Int) : Bool := decide (l.length = s.size) && (List.range l.length).all fun j => bt s (0 + j) == l.getD j 0
theorem atB_at {s : ByteArray} {l : List Int} (h : atB s l = true) : At s 0 l ∧ l.length = s.size := by
  unfold atB at h
  rw [Bool.and_eq_true, decide_eq_true_iff, List.all_eq_true] at h
  refine ⟨⟨by omega, fun j hj => ?_⟩, h.1⟩
  have h1 := h.2 j (List.mem_range.2 hj)
  rw [beq_iff_eq, List.getD_eq_getElem?_getD, List.getElem?_eq_getElem hj] at h1
  exact h1
theorem Pg.small_low : ∀ {p : Pg}, p.small → p.low ∧ p.ok
  | .done, _ => ⟨trivial, trivial⟩
  | .set v e r, h => by
    obtain ⟨h1, h2, h3, _, h5⟩ := h
    obtain ⟨k1, k2⟩ := small_low h5
    exact ⟨⟨h1, h2, k1⟩, ⟨by omega, ⟨low_ok h2, h3⟩, k2⟩⟩
  | .wh e b r, h => by
    obtain ⟨h2, h3, _, h4, h5⟩ := h
    obtain ⟨k1, k2⟩ := small_low h4
    obtain ⟨k3, k4⟩ := small_low h5
    exact ⟨⟨h2, k1, k3⟩, ⟨⟨low_ok h2, h3⟩, k2, k4⟩⟩
def Ex.lowB : Ex → Bool
  | .nil => true
  | .var v => decide (v < 4)
  | .cons a b => a.lowB && b.lowB
  | .hd a => a.lowB
  | .tl a => a.lowB
  | .same a b => a.lowB && b.lowB
theorem Ex.lowB_low : ∀ {e : Ex}, e.lowB = true → e.low
  | .nil, _ => trivial
  | .var v, h => by have h1 : decide (v < 4) = true := h; have h2 : v < 4 := of_decide_eq_true h1; exact h2
  | .cons a b, h => by have h1 := (Bool.and_eq_true _ _).mp h; exact ⟨lowB_low h1.1, lowB_low h1.2⟩
  | .hd a, h => lowB_low (e := a) h
  | .tl a, h => lowB_low (e := a) h
  | .same a b, h => by have h1 := (Bool.and_eq_true _ _).mp h; exact ⟨lowB_low h1.1, lowB_low h1.2⟩
def Pg.smallB : Pg → Bool
  | .done => true
  | .set v e r => decide (v < 4) && (e.lowB && (decide (e.len ≤ 40) && (decide (e.dep ≤ 40) && r.smallB)))
  | .wh e b r => e.lowB && (decide (e.len ≤ 40) && (decide (e.dep ≤ 40) && (b.smallB && r.smallB)))
theorem Pg.smallB_small : ∀ {p : Pg}, p.smallB = true → p.small
  | .done, _ => trivial
  | .set v e r, h => by
    simp only [smallB, Bool.and_eq_true, decide_eq_true_iff] at h
    exact ⟨h.1, Ex.lowB_low h.2.1, h.2.2.1, h.2.2.2.1, smallB_small h.2.2.2.2⟩
  | .wh e b r, h => by
    simp only [smallB, Bool.and_eq_true, decide_eq_true_iff] at h
    exact ⟨Ex.lowB_low h.1, h.2.1, h.2.2.1, smallB_small h.2.2.2.1, smallB_small h.2.2.2.2⟩
structure StdOk (s : ByteArray) (p : Pg) : Prop where
  at_ : At s 0 (p.txt false)
  len : (p.txt false).length = s.size
  small : p.small
  enc : p.enc.length ≤ 40
  nest : p.nest < 80
  size : s.size ≤ 1000
theorem std_ok : ∀ x : Nat, x < 5 → StdOk (stdS x) (stdP x) := by
  have hb : ∀ x : Nat, x < 5 → (atB (stdS x) ((stdP x).txt false) && (stdP x).smallB && decide ((stdP x).enc.length ≤ 40) && decide ((stdP x).nest < 80) && decide ((stdS x).size ≤ 1000)) = true := by
    have h5 : ((List.range 5).all fun x => atB (stdS x) ((stdP x).txt false) && (stdP x).smallB && decide ((stdP x).enc.length ≤ 40) && decide ((stdP x).nest < 80) && decide ((stdS x).size ≤ 1000)) = true := by kernel_rfl
    intro x hx
    exact List.all_eq_true.1 h5 x (List.mem_range.2 hx)
  intro x hx
  have h := hb x hx
  simp only [Bool.and_eq_true, decide_eq_true_iff] at h
  obtain ⟨⟨⟨⟨h1, h2⟩, h3⟩, h4⟩, h5⟩ := h
  exact ⟨(atB_at h1).1, (atB_at h1).2, Pg.smallB_small h2, h3, h4, h5⟩
def stdCells : Array Value := #[.string ⟨#[114, 101, 118, 101, 114, 115, 101]⟩, .string ⟨#[49, 61, 110, 59, 119, 48, 123, 49, 61, 40, 104, 48, 46, 49, 41, 59, 48, 61, 116, 48, 125, 59, 48, 61, 49]⟩, .string ⟨#[97, 112, 112, 101, 110, 100]⟩, .string ⟨#[49, 61, 104, 48, 59, 50, 61, 110, 59, 119, 49, 123, 50, 61, 40, 104, 49, 46, 50, 41, 59, 49, 61, 116, 49, 125, 59, 49, 61, 116, 48, 59, 119, 50, 123, 49, 61, 40, 104, 50, 46, 49, 41, 59, 50, 61, 116, 50, 125, 59, 48, 61, 49]⟩, .string ⟨#[101, 113, 117, 97, 108]⟩, .string ⟨#[48, 61, 40, 104, 48, 63, 116, 48, 41]⟩, .string ⟨#[115, 119, 97, 112]⟩, .string ⟨#[48, 61, 40, 116, 48, 46, 104, 48, 41]⟩, .string ⟨#[108, 111, 111, 112]⟩, .string ⟨#[49, 61, 40, 110, 46, 110, 41, 59, 119, 49, 123, 50, 61, 110, 125]⟩]
theorem std_cell : ∀ x : Nat, x < 5 → stdCells[1 + 2 * x]? = some (.string (stdS x)) := by
  intro x hx
  have : x = 0 ∨ x = 1 ∨ x = 2 ∨ x = 3 ∨ x = 4 := by omega
  rcases this with rfl | rfl | rfl | rfl | rfl <;> rfl
set_option maxRecDepth 100000 in
set_option maxHeartbeats 4000000 in
theorem standard_any (w : World) : Calls Try.prog 162 #[] w fun e w' => e = .returned (.slice (some ⟨w.heap.size, 0, none⟩) 10 10) ∧ Blk w' w.heap.size 9 stdCells ∧ Below w.heap.size w w' := by
  have HB : Hid (Blk (w.alloc (.cells stdCells 9)) w.heap.size 9 stdCells) := Lib.hid (Blk.new w _ _)
  go_enter Try.func162, Try.ntmps162
  go_wp2_with fail
  go_ret
  exact ⟨rfl, HB.out, (Below.refl _ _).alloc (Nat.le_refl _) _⟩
set_option maxRecDepth 100000 in
set_option maxHeartbeats 8000000 in
theorem drawOk22_any (b : Nat) (A : Option Addr) (n c T : Nat) (xs : List Int) (w : World) (hx : SBy w A n xs) (hA : ∀ k, blk A = some k → k ≠ b) (hs : Src b A n c T w) (_hb : b < w.heap.size) (hT : T ≤ 100000) (hn : n ≤ 9223372036854775807) :
    Calls Try.prog 81 #[.pointer (some ⟨b, 0, none⟩)] w (DrewP b A n c (T + 1000) 40 w) := by
  have HA := Lib.hid hA
  have HD : Hid (DS w b A n c xs T w) := Lib.hid ⟨hx, hs, Kb.refl b w⟩
  clear hx hA hs
  go_enter Try.func81, Try.ntmps81
  go_wp2_with fail
  refine (one_any b A n c T xs 4 _ HD.out.bytes HA.out HD.out.src (by omega) hn (by omega) (by omega)).mono ?_
  rintro e1 w1 ⟨y, rfl, hs1, hk1⟩
  have HD1 := Lib.hid (HD.out.step hk1 hs1 HA.out)
  have hb1 := HD1.out.lt
  clear hs1 hk1 HD
  cases y with
  | false =>
    go_wp2_with fail
    refine (pick_any b A n c (T + 2) xs 4 _ HD1.out.bytes HA.out HD1.out.src (by omega) hn (by omega) (by omega)).mono ?_
    rintro e2 w2 ⟨y, rfl, hy0, hy1, hs2, hk2⟩
    obtain ⟨m, hm⟩ : ∃ m : Nat, (m : Int) = 1 + y := ⟨(1 + y).toNat, by omega⟩
    have i4 : IntKind.i64.wrap (1 + y) = (m : Int) := by rw [IntWalk.i64_in _ (by omega)]; omega
    have hm4 : m ≤ 4 := by omega
    have HD2 := Lib.hid (HD1.out.step hk2 hs2 HA.out)
    have hb2 := HD2.out.lt
    have hmc : m * chP 2 ≤ 4 * 238 := Nat.mul_le_mul hm4 (chP_up 2 (by omega))
    have hmu : m * unP 2 ≤ 4 * 10 := Nat.mul_le_mul hm4 (unP_up 2 (by omega))
    clear hs2 hk2 hy0 hy1 hm HD1
    go_wp2_with (go_at_call 164; refine (drawDeep22_any b A n c xs hn HA.out 2 m (T + 2 + 2) w2 (by omega) hm4 HD2.out.bytes HD2.out.src hb2 (by omega)).mono ?_; rintro e3 w3 ⟨D, dd, ts, p, rfl, hc, oc, hl, hr, hlo, hok, hs3, hk3⟩)
    go_ret
    exact ⟨D, dd, ts, p, rfl, hc, oc.mono HD2.out.kb.size, by omega, hr, hlo, hok, hs3.le (by omega), HD2.out.kb.trans hk3⟩
  | true =>
    go_wp2_with fail
    refine (standard_any _).mono ?_
    rintro e2 w2 ⟨rfl, hB, z2⟩
    have HD2 := Lib.hid (HD1.out.below z2)
    have HB := Lib.hid hB
    clear hB z2 HD1
    go_wp2_with fail
    refine (pick_any b A n c (T + 2) xs 5 _ HD2.out.bytes HA.out HD2.out.src (by omega) hn (by omega) (by omega)).mono ?_
    rintro e3 w3 ⟨y, rfl, hy0, hy1, hs3, hk3⟩
    obtain ⟨x, rfl⟩ : ∃ x : Nat, y = (x : Int) := ⟨y.toNat, by omega⟩
    have hx5 : x < 5 := by omega
    have hB3 : Blk w3 w1.heap.size 9 stdCells := hk3.blk_ HB.out (by omega)
    have HCL : w3.cell? ⟨w1.heap.size, 1 + 2 * x, none⟩ = some (.string (stdS x)) := by rw [hB3.cell]; exact std_cell x hx5
    obtain ⟨i, hi⟩ : ∃ i, 1 + 2 * x = i := ⟨_, rfl⟩
    rw [hi] at HCL
    have HST := Lib.hid (std_ok x hx5)
    have i1 : IntKind.i64.wrap (2 * (x : Int)) = 2 * (x : Int) := IntWalk.i64_in _ (by omega)
    have i2 : IntKind.i64.wrap (1 + 2 * (x : Int)) = (i : Int) := by rw [IntWalk.i64_in _ (by omega)]; omega
    have i3 : (0 : Int) ≤ (i : Int) := by omega
    have i4 : (i : Int) < 10 := by omega
    obtain ⟨S, hS⟩ : ∃ S, stdS x = S := ⟨_, rfl⟩
    obtain ⟨P, hP⟩ : ∃ P, stdP x = P := ⟨_, rfl⟩
    rw [hS] at HCL
    rw [hS, hP] at HST
    have HD3 := Lib.hid (HD2.out.step hk3 hs3 HA.out)
    have hw3 := HD3.out.kb.size
    have HRA := Lib.hid (readAll_any S HST.out.size 80 P 0 w3 HST.out.small (by have := HST.out.enc; omega) HST.out.nest (by omega) HST.out.at_ (.inl (by rw [Nat.zero_add]; exact HST.out.len)))
    clear hs3 hk3 hy0 hy1 hB3 hi hS hP HD2 HB
    go_wp2_with (go_at_call 163; refine HRA.out.mono ?_; rintro e4 w4 ⟨D, dd, ts, rfl, hc, oc, hr, z4⟩)
    go_ret
    obtain ⟨hlo, hok⟩ := Pg.small_low HST.out.small
    have hl : ts.length ≤ 40 := by have h := congrArg List.length hc.out; rw [cmds_len] at h; have := HST.out.enc; omega
    exact ⟨D, dd, ts, P, rfl, hc, oc.mono hw3, hl, hr, Lib.hid hlo, Lib.hid hok, (HD3.out.src.below z4).le (by omega), HD3.out.kb.trans (Kb.of_below z4)⟩
/-- A program that was drawn from the bytes. -/
def DrewW (w : World) (e : Ending) (w' : World) : Prop :=
  ∃ D d ts p, e = .returned (.slice D (List.length ts) d) ∧ Hid (cmds ts = Pg.enc p) ∧ OC w' w.heap.size D ts.length d ts ∧ ts.length ≤ 40 ∧ Hid (∀ t ∈ ts, t.e.length ≤ 40) ∧ Hid p.low ∧ Hid p.ok ∧ Below w.heap.size w w'
set_option maxHeartbeats 1000000 in
theorem b10While_any (A : Option Addr) (n c : Nat) (xs : List Int) (w : World) (hx : SBy w A n xs) (hA : ∀ k, blk A = some k → k < w.heap.size) (hn : n ≤ 9223372036854775807) : Calls Try.prog 22 #[.slice A n c] w (DrewW w) := by
  have HX := Lib.hid hx
  obtain ⟨g, hg⟩ : ∃ g, w.heap.size = g := ⟨_, rfl⟩
  have HA : Hid (∀ k, blk A = some k → k ≠ g) := Lib.hid (fun k hk => by have := hA k hk; omega)
  have HF := Lib.hid (from_any A n c w)
  have HG := Lib.hid hg
  rw [hg] at HF
  clear hx hA hg
  go_enter Try.func22, Try.ntmps22
  go_wp2_with fail
  refine HF.out.mono ?_
  rintro e w0 ⟨rfl, hs0, z0⟩
  have hgl : g < w0.heap.size := by obtain ⟨_, _, _, _, _, h⟩ := hs0; exact h.lt
  have HZ0 : Hid (Below g w w0) := Lib.hid z0
  have HX0 := Lib.hid (HX.out.below (by rw [HG.out]; exact z0))
  have HS0 := Lib.hid hs0
  clear hs0 z0 HF
  go_wp2_with (go_at_call 81; refine (drawOk22_any g A n c 0 xs _ HX0.out HA.out HS0.out hgl (by omega) hn).mono ?_; rintro e3 w3 ⟨D, d, ts, p, rfl, hc, oc, hl, hr, hlo, hok, hs3, hk3⟩)
  go_ret
  have hz := HZ0.out.size
  exact ⟨D, d, ts, p, rfl, hc, oc.mono hz, hl, hr, hlo, hok, by have h := hk3.below (w := w) (by rw [HG.out]; exact HZ0.out) (by rw [HG.out]; exact Nat.le_refl _); exact h⟩
end Go.Proofs.Ytfheepjfpgiaoaa
