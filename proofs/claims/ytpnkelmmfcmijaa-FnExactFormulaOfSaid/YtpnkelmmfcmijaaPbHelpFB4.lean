/-
  Contract of the reference's l05Step.
-/
import Derived.Test.YtpnkelmmfcmijaaPbHelpFB2
import Derived.Test.YtpnkelmmfcmijaaPbHelpFB3
import Derived.RangeFuncNested
import Derived.RangeFuncBound
import Derived.RangeFuncCalls
import Derived.RangeFuncLeaves
namespace Go.Proofs.Ytpnkelmmfcmijaa
open Go.RowKit

def SpecConf (w : World) (r : Conf) (v : Bool) (e : Ending) (w' : World) : Prop :=
  ∃ L c R d, e = .returned (.tuple #[.agg #[.int .i64 r.q, .slice L r.xs.length c, .slice R r.ys.length d], .bool v]) ∧ Own w' w.heap.size 2 1 L r.xs.length c (ints r.xs) ∧ Own w' w.heap.size 2 1 R r.ys.length d (ints r.ys) ∧ (∀ b, blk L = some b → blk R ≠ some b) ∧ Below w.heap.size w w'

def stepS (r : R3) (xs ys : List Int) : Conf :=
  ⟨r.c, if 0 < r.b then trimI (r.a :: xs) else xs.tail, if 0 < r.b then ys.tail else trimI (xs.headD 0 :: trimI (r.a :: ys.tail))⟩

theorem room_eq {xs ys : List Int} {a b : Nat} (h : xs.length = a) (h' : ys.length = b) : roomB xs ys = (decide ((a : Int) ≤ 200) && decide ((b : Int) ≤ 200)) := by
  unfold roomB; subst h; subst h'
  congr 1 <;> (rw [decide_eq_decide]; omega)
theorem trim_len (xs : List Int) : (trimI xs).length ≤ xs.length := by
  unfold trimI; rw [List.length_reverse]
  have := (List.dropWhile_sublist (fun x : Int => x == 0) (l := xs.reverse)).length_le
  simpa using this
theorem trim_good {xs : List Int} (h : xs = [] ∨ lastI xs ≠ 0) : trimI xs = xs := by
  rcases List.eq_nil_or_concat xs with rfl | ⟨l, a, rfl⟩
  · rfl
  · rcases h with h | h
    · simp at h
    · have h' : a ≠ 0 := by simpa [lastI] using h
      have := trim_snoc l (x := a) (by simpa using h')
      simpa using this
theorem trim_push {xs : List Int} (h : xs = [] ∨ lastI xs ≠ 0) (x : Int) : trimI (x :: xs) = (pushI xs.reverse x).reverse := by
  unfold pushI
  by_cases hx : xs = []
  · subst hx
    by_cases h0 : x = 0
    · subst h0; rfl
    · simp [h0]
      exact trim_good (xs := [x]) (.inr (by simpa [lastI] using h0))
  · have h1 : lastI xs ≠ 0 := by rcases h with h | h; exact absurd h hx; exact h
    have h2 : lastI (x :: xs) = lastI xs := by unfold lastI; cases xs with | nil => exact absurd rfl hx | cons y ys => simp
    rw [trim_good (.inr (by rw [h2]; exact h1)), if_neg (by simp [hx])]
    simp
theorem good_tail {xs : List Int} (h : xs = [] ∨ lastI xs ≠ 0) : xs.tail = [] ∨ lastI xs.tail ≠ 0 := by
  cases xs with
  | nil => exact .inl rfl
  | cons x l =>
    cases l with
    | nil => exact .inl rfl
    | cons y l =>
      right
      rcases h with h | h
      · simp at h
      · unfold lastI at h ⊢; simpa using h
theorem good_push {xs : List Int} (h : xs = [] ∨ lastI xs ≠ 0) (x : Int) : (pushI xs.reverse x).reverse = [] ∨ lastI (pushI xs.reverse x).reverse ≠ 0 := by
  unfold pushI
  by_cases hx : xs = []
  · subst hx
    by_cases h0 : x = 0
    · subst h0; exact .inl rfl
    · right; simp [h0, lastI]
  · right
    have h1 : lastI xs ≠ 0 := by rcases h with h | h; exact absurd h hx; exact h
    have h2 : lastI (x :: xs) = lastI xs := by unfold lastI; cases xs with | nil => exact absurd rfl hx | cons y ys => simp
    rw [if_neg (by simp [hx])]
    simp
    rw [h2]; exact h1
theorem rev_dropLast (ys : List Int) : ys.reverse.dropLast.reverse = ys.tail := by cases ys <;> simp
theorem stepS_eq {r : R3} {xs ys : List Int} (hx : xs = [] ∨ lastI xs ≠ 0) (hy : ys = [] ∨ lastI ys ≠ 0) : stepS r xs ys = stepC r xs ys := by
  unfold stepS stepC stepL stepR
  by_cases h : 0 < r.b
  · rw [if_pos h, if_pos h, if_pos h, if_pos h, trim_push hx, rev_dropLast]
  · rw [if_neg h, if_neg h, if_neg h, if_neg h, rev_dropLast, trim_push (good_tail hy), trim_push (good_push (good_tail hy) _), List.reverse_reverse, ← lastI_reverse]
    have : ys.tail.reverse = ys.reverse.dropLast := by rw [← rev_dropLast ys, List.reverse_reverse]
    rw [this]

set_option maxHeartbeats 2000000 in
theorem l05Step_any (g : Nat) (sy st : Int) (A : Option Addr) (n k : Nat) (rs : List R3) (f : Nat) (q : Int) (B : Option Addr) (m c : Nat) (xs : List Int) (C : Option Addr) (l d : Nat) (ys : List Int) (idx : Nat) (r : R3) (w : World) (hm : MachAt w g sy st A n k) (hrs : S3 w A n rs) (hc : ConfAt w f q B m c C l d) (hx : SI w B m xs) (hy : SI w C l ys) (hml : m ≤ 1000000) (hl : l ≤ 1000000) (hmc : m ≤ c) (hld : l ≤ d)
    (h1 : 0 ≤ q * sy) (h2 : q * sy ≤ 1000000) (h3 : 0 ≤ lastI ys.reverse) (h4 : lastI ys.reverse ≤ 1000000) (hidx : Hid (atI sy q ys.reverse = (idx : Int))) (hlt : idx < n) (hri : Hid (rs[idx]? = some r)) (_hn : n ≤ 1048576) :
    Calls Try.prog 238 #[.pointer (some ⟨g, 0, none⟩), .pointer (some ⟨f, 0, none⟩)] w (SpecConf w (stepS r xs ys) (roomC (stepS r xs ys))) := by
  obtain ⟨W, hW⟩ : ∃ W, W = w.alloc (.cells #[.int .i64 0, .slice none 0 0, .slice none 0 0] 59) := ⟨_, rfl⟩
  have b0 : Blk W w.heap.size 59 #[.int .i64 0, .slice none 0 0, .slice none 0 0] := by rw [hW]; exact Blk.new w _ _
  have y0 : Below w.heap.size w W := by rw [hW]; exact (Below.refl _ _).alloc (Nat.le_refl _) _
  have hs0 : W.heap.size = w.heap.size + 1 := by rw [hW]; simp
  have HW := Lib.hid hW
  have HS0 := Lib.hid hs0
  clear hW
  have hM := hm.below y0
  have hM' := hM
  obtain ⟨q0, q1, q2⟩ := hM'
  obtain ⟨r', b, off, hr', _, rfl, hbl, p0, p1, p2⟩ := (hrs.below y0).pick hlt
  obtain rfl : r = r' := by have e1 := hri.out; have e2 := hr'.out; rw [e1] at e2; simpa using e2
  have i1 : (0 : Int) ≤ (idx : Int) := by omega
  have i2 : (idx : Int) < (n : Int) := by omega
  have hgw := hM.lt
  have n1 : ¬ g = w.heap.size + 1 := by omega
  have n2 : ¬ b = w.heap.size + 1 := by omega
  have yA : Below W.heap.size W (W.alloc (.cells #[.int .i64 0, .int .i64 0, .int .i64 0] 227)) := (Below.refl _ _).alloc (Nat.le_refl _) _
  have MA := hM.below yA
  have a0 := (yA.cell (p := ⟨b, off + idx * 3, none⟩) hbl).trans p0
  have a1 := (yA.cell (p := ⟨b, off + idx * 3 + 1, none⟩) hbl).trans p1
  have a2 := (yA.cell (p := ⟨b, off + idx * 3 + 2, none⟩) hbl).trans p2
  have CA := (hc.below y0).below yA
  have YA := (hy.below y0).below yA
  go_enter Try.func238, Try.ntmps238
  go_upto_region 1 with fail
  rw [← HW.out]
  go_cut [6] (fun s6 wx => s6 = .pointer (some ⟨w.heap.size + 1, 0, none⟩) ∧ Blk wx (w.heap.size + 1) 227 #[.int .i64 r.a, .int .i64 r.b, .int .i64 r.c] ∧ Below W.heap.size W wx)
  case first =>
    go_region_held3 (fun w' => w'.cell? ⟨g, 2, none⟩ = some (.slice (some ⟨b, off, none⟩) n k) ∧ w'.cell? ⟨b, off + idx * 3, none⟩ = some (.int .i64 r.a) ∧ w'.cell? ⟨b, off + idx * 3 + 1, none⟩ = some (.int .i64 r.b) ∧ w'.cell? ⟨b, off + idx * 3 + 2, none⟩ = some (.int .i64 r.c))
      (first
        | (go_keep; done)
        | (exact ⟨far_set n1 (far_set n1 (far_set n1 MA.2.2)), far_set n2 (far_set n2 (far_set n2 a0)), far_set n2 (far_set n2 (far_set n2 a1)), far_set n2 (far_set n2 (far_set n2 a2))⟩)
        | (exact ⟨MA.2.2, a0, a1, a2⟩)
        | (exact ⟨far_set n1 (far_set n1 (far_set n1 q2)), far_set n2 (far_set n2 (far_set n2 p0)), far_set n2 (far_set n2 (far_set n2 p1)), far_set n2 (far_set n2 (far_set n2 p2))⟩))
      (first
        | (go_at_call 273; refine (l05At_any _ _ _ _ _ _ _ _ _ _ _ _ _ _ ys _ (by first | exact hM.drewN _ | exact MA.drewN _) (by first | exact (hc.below y0).drewN _ | exact CA.drewN _) (by first | exact (hy.below y0).drewN _ | exact YA.drewN _) (by omega) h1 h2 h3 h4).mono ?_; rintro e w' ⟨rfl, nq, rfl⟩; rw [hidx.out]))
    all_goals
      go_wp2_with fail
      go_meet
      first
        | exact ⟨rfl, (by rw [← HS0.out]; exact Blk.new (W.drewN _) _ _), (below_drewN (Below.refl _ _) _).alloc (Nat.le_refl _) _⟩
        | exact ⟨rfl, conf_set (by rw [← HS0.out]; exact (Blk.new W _ _).drewN _) _ _ _, conf_below (below_drewN ((Below.refl _ _).alloc (Nat.le_refl _) _) _) (by rw [HS0.out]; exact Nat.le_refl _) _ _ _⟩
  case rest =>
    obtain ⟨rfl, bx, y1⟩ := hcut
    obtain ⟨wb, hwb⟩ : ∃ wb, wb = wc := ⟨_, rfl⟩
    subst hwb
    have hWc : w.heap.size + 1 < wb.heap.size := bx.lt
    have yc : Below w.heap.size w wb := y0.trans (y1.mono y0.size)
    have e0 : wb.cell? ⟨w.heap.size + 1, 0, none⟩ = some (.int .i64 r.a) := bx.cell 0
    have e1 : wb.cell? ⟨w.heap.size + 1, 1, none⟩ = some (.int .i64 r.b) := bx.cell 1
    have e2 : wb.cell? ⟨w.heap.size + 1, 2, none⟩ = some (.int .i64 r.c) := bx.cell 2
    clear q0 q1 q2 p0 p1 p2 a0 a1 a2 MA CA YA yA hs0
    have hCc := hc.below yc
    have hCc' := hCc
    obtain ⟨o0, o1, o2⟩ := hCc'
    obtain ⟨wd, hwd⟩ : ∃ wd, wd = wb.alloc (.cells #[.int .i64 r.c, .slice none 0 0, .slice none 0 0] 59) := ⟨_, rfl⟩
    have bn : Blk wd wb.heap.size 59 #[.int .i64 r.c, .slice none 0 0, .slice none 0 0] := by rw [hwd]; exact Blk.new wb _ _
    have yd1 : Below wb.heap.size wb wd := by rw [hwd]; exact (Below.refl _ _).alloc (Nat.le_refl _) _
    have HWD := Lib.hid hwd
    clear hwd
    have yd : Below w.heap.size w wd := yc.trans (yd1.mono yc.size)
    have bxd := bx.below' yd1
    have hCd := hc.below yd
    have o0' := hCd.1
    have o1' := hCd.2.1
    have o2' := hCd.2.2
    have hwcd : wb.heap.size < wd.heap.size := bn.lt
    go_upto_region 3 with fail
    rw [← HWD.out]
    clear o0 o1 o2 e0 e1 e2
    have b0d : Blk wd w.heap.size 59 #[.int .i64 0, .slice none 0 0, .slice none 0 0] := (b0.below' y1).below' yd1
    go_wp2_with fail
    refine (l05Rest_any _ _ _ ys _ (hy.below yd) (by omega) hld).mono ?_
    rintro e we ⟨R1, d1, rfl, oR, ye1⟩
    have ye : Below w.heap.size w we := yd.trans (ye1.mono yd.size)
    have bne := bn.below' ye1
    have bxe := bxd.below' ye1
    have b0e := b0d.below' ye1
    have hCe := hc.below ye
    have o0 := hCe.1
    have o1 := hCe.2.1
    have o2 := hCe.2.2
    have e0 : we.cell? ⟨w.heap.size + 1, 0, none⟩ = some (.int .i64 r.a) := bxe.cell 0
    have e1 : we.cell? ⟨w.heap.size + 1, 1, none⟩ = some (.int .i64 r.b) := bxe.cell 1
    have e2 : we.cell? ⟨w.heap.size + 1, 2, none⟩ = some (.int .i64 r.c) := bxe.cell 2
    have m0 : we.cell? ⟨wb.heap.size, 0, none⟩ = some (.int .i64 r.c) := bne.cell 0
    have m1 : we.cell? ⟨wb.heap.size, 1, none⟩ = some (.slice none 0 0) := bne.cell 1
    have m2 : we.cell? ⟨wb.heap.size, 2, none⟩ = some (.slice none 0 0) := bne.cell 2
    have fz1 := bne.frozen 1
    have fz2 := bne.frozen 2
    clear o0' o1' o2'
    have hwde : wd.heap.size ≤ we.heap.size := ye1.size
    have hfw := hc.lt
    have hRl : ys.tail.length ≤ 1000000 := by rw [List.length_tail]; have := hy.len; omega
    have HRL := Lib.hid hRl
    clear hRl
    by_cases hb : 0 < r.b
    · have hb1 : (0 : Int) < r.b := hb
      have SS : Hid (stepS r xs ys = ⟨r.c, trimI (r.a :: xs), ys.tail⟩) := by show _ = _; unfold stepS; rw [if_pos hb, if_pos hb]
      have HTL : Hid (ys.tail.length = ys.length - 1) := by show _ = _; simp
      go_upto_region 5 with fail
      go_cut [] (fun wx => ∃ L2 c2, Blk wx wb.heap.size 59 #[.int .i64 r.c, .slice L2 (trimI (r.a :: xs)).length c2, .slice none 0 0] ∧ Own wx we.heap.size 2 1 L2 (trimI (r.a :: xs)).length c2 (ints (trimI (r.a :: xs))) ∧ Own wx wd.heap.size 2 1 R1 ys.tail.length d1 (ints ys.tail) ∧ Blk wx w.heap.size 59 #[.int .i64 0, .slice none 0 0, .slice none 0 0] ∧ Below w.heap.size w wx)
      case first =>
        go_region_law
          ((go_simp; first
            | (go_at_call 275; refine (l05Push_any _ _ _ _ xs _ ((hx.below ye).drewN _) (by omega)).mono ?_; rintro e w4 ⟨L2, c2, rfl, oL, y4'⟩; have y4 : Below we.heap.size we w4 := below_undrew y4'
               have f0 : w4.cell? ⟨wb.heap.size, 1, none⟩ = some (.slice none 0 0) := (bne.below' y4).cell 1
               have f1 := (bne.below' y4).frozen 1)))
        all_goals
          go_wp2_with fail
          go_meet
          have oL' : Own w4 we.heap.size 2 1 L2 (trimI (r.a :: xs)).length c2 (ints (trimI (r.a :: xs))) := oL
          refine ⟨L2, c2, Blk.set_ (bne.below' y4) 1 _, oL'.far (p := ⟨wb.heap.size, 1, none⟩) (fun e => by have h : we.heap.size ≤ wb.heap.size := oL'.blk_ge _ e; omega) _, (oR.below y4).far (p := ⟨wb.heap.size, 1, none⟩) (fun e => by have h : wd.heap.size ≤ wb.heap.size := oR.blk_ge _ e; omega) _, (b0e.below' y4).far (p := ⟨wb.heap.size, 1, none⟩) (by show ¬ w.heap.size = wb.heap.size; omega) _, (ye.trans (y4.mono ye.size)).setCell (p := ⟨wb.heap.size, 1, none⟩) (by show w.heap.size ≤ wb.heap.size; omega) _⟩
      case rest =>
        obtain ⟨L2, c2, bm, oL, oR2, b0f, yf⟩ := hcut
        have g2' : wc.cell? ⟨wb.heap.size, 2, none⟩ = some (.slice none 0 0) := bm.cell 2
        have gf2 := bm.frozen 2
        clear o0 o1 o2 e0 e1 e2 m0 m1 m2 fz1 fz2
        go_upto_region 12 with fail
        have bz : Blk (wc.setCell ⟨wb.heap.size, 2, none⟩ (.slice R1 (ys.length - 1) d1)) wb.heap.size 59 #[.int .i64 r.c, .slice L2 (trimI (r.a :: xs)).length c2, .slice R1 (ys.length - 1) d1] := Blk.set_ bm 2 _
        have b0z : Blk (wc.setCell ⟨wb.heap.size, 2, none⟩ (.slice R1 (ys.length - 1) d1)) w.heap.size 59 #[.int .i64 0, .slice none 0 0, .slice none 0 0] := b0f.far (p := ⟨wb.heap.size, 2, none⟩) (by show ¬ w.heap.size = wb.heap.size; omega) _
        have oLz : Own (wc.setCell ⟨wb.heap.size, 2, none⟩ (.slice R1 (ys.length - 1) d1)) we.heap.size 2 1 L2 (trimI (r.a :: xs)).length c2 (ints (trimI (r.a :: xs))) := oL.far (p := ⟨wb.heap.size, 2, none⟩) (fun e => by have h : we.heap.size ≤ wb.heap.size := oL.blk_ge _ e; omega) _
        have oRz : Own (wc.setCell ⟨wb.heap.size, 2, none⟩ (.slice R1 (ys.length - 1) d1)) wd.heap.size 2 1 R1 ys.tail.length d1 (ints ys.tail) := oR2.far (p := ⟨wb.heap.size, 2, none⟩) (fun e => by have h : wd.heap.size ≤ wb.heap.size := oR2.blk_ge _ e; omega) _
        have yz : Below w.heap.size w (wc.setCell ⟨wb.heap.size, 2, none⟩ (.slice R1 (ys.length - 1) d1)) := yf.setCell (p := ⟨wb.heap.size, 2, none⟩) (by show w.heap.size ≤ wb.heap.size; omega) _
        have HAPZ : Hid (∀ b, blk L2 = some b → blk R1 ≠ some b) := fun b h5 h6 => by
          have h7 := oL.blk_ge b h5
          have h8 := oR.blk_lt b h6
          omega
        clear g2' gf2
        generalize wc.setCell ⟨wb.heap.size, 2, none⟩ (.slice R1 (ys.length - 1) d1) = wz at *
        have z0 : wz.cell? ⟨wb.heap.size, 0, none⟩ = some (.int .i64 r.c) := bz.cell 0
        have z1 : wz.cell? ⟨wb.heap.size, 1, none⟩ = some (.slice L2 (trimI (r.a :: xs)).length c2) := bz.cell 1
        have z2 : wz.cell? ⟨wb.heap.size, 2, none⟩ = some (.slice R1 (ys.length - 1) d1) := bz.cell 2
        have x0 : wz.cell? ⟨w.heap.size, 0, none⟩ = some (.int .i64 0) := b0z.cell 0
        have x1 : wz.cell? ⟨w.heap.size, 1, none⟩ = some (.slice none 0 0) := b0z.cell 1
        have x2 : wz.cell? ⟨w.heap.size, 2, none⟩ = some (.slice none 0 0) := b0z.cell 2
        have zf0 := b0z.frozen 0
        have zf1 := b0z.frozen 1
        have zf2 := b0z.frozen 2
        have nw : ¬ wb.heap.size = w.heap.size := by omega
        have HP := Lib.hid (show roomC (stepS r xs ys) = (decide ((((trimI (r.a :: xs)).length : Nat) : Int) ≤ 200) && decide ((((ys.length - 1) : Nat) : Int) ≤ 200)) by rw [SS.out]; exact room_eq (by simp) (by simp))
        cases v1 : decide ((((trimI (r.a :: xs)).length : Nat) : Int) ≤ 200)
        all_goals cases v2 : decide ((((ys.length - 1) : Nat) : Int) ≤ 200)
        all_goals
          have V1 := Lib.hid v1
          have V2 := Lib.hid v2
          go_region
          go_wp2_with fail
          have dd := conf_set b0z (.int .i64 r.c) (.slice L2 (trimI (r.a :: xs)).length c2) (.slice R1 (ys.length - 1) d1)
          refine bodyPost_ret (v := .tuple #[.agg #[.int .i64 r.c, .slice L2 (trimI (r.a :: xs)).length c2, .slice R1 (ys.length - 1) d1], .bool (roomC (stepS r xs ys))]) (by rw [HP.out, V1.out, V2.out]; simp [results, Try.results238, go_sem, dd.cell 0, dd.cell 1, dd.cell 2]) rfl ?_
          rw [SS.out]
          refine ⟨L2, c2, R1, d1, by simp, (conf_far oLz (by omega) _ _ _).mono (by omega), (conf_far oRz (by omega) _ _ _).mono (by omega), HAPZ.out, below_drewN (conf_below yz (Nat.le_refl _) _ _ _) 1⟩
    · have hb1 : ¬ (0 : Int) < r.b := hb
      have HTL : Hid (ys.tail.length = ys.length - 1) := by show _ = _; simp
      have siR : SI we R1 (ys.length - 1) ys.tail := by have h := oR.rd; rw [HTL.out] at h; exact h
      have HXL := Lib.hid hx.len
      by_cases hm0 : m = 0
      · have hx0 : xs.headD 0 = 0 := by
          have : xs = [] := List.eq_nil_of_length_eq_zero (by rw [HXL.out]; exact hm0)
          rw [this]; rfl
        have SS : Hid (stepS r xs ys = ⟨r.c, xs.tail, trimI (0 :: trimI (r.a :: ys.tail))⟩) := by show _ = _; unfold stepS; rw [if_neg hb, if_neg hb, hx0]
        clear hx0
        subst hm0
        go_wp2_with fail
        refine (l05Push_any _ _ _ _ ys.tail _ siR (by have := HRL.out; rw [HTL.out] at this; omega)).mono ?_
        rintro e w4 ⟨R2, d2, rfl, oR2, y4⟩
        go_wp2_with fail
        refine (l05Push_any _ _ _ _ (trimI (r.a :: ys.tail)) _ oR2.rd (by have h := trim_len (r.a :: ys.tail); rw [List.length_cons] at h; have := HRL.out; omega)).mono ?_
        rintro e w5 ⟨R3, d3, rfl, oR3, y5⟩
        have y45 : Below we.heap.size we w5 := y4.trans (y5.mono y4.size)
        have yw5 : Below w.heap.size w w5 := ye.trans (y45.mono ye.size)
        have s4 : we.heap.size ≤ w4.heap.size := y4.size
        have s5 : w4.heap.size ≤ w5.heap.size := y5.size
        have bn5 := bne.below' y45
        have k2 : w5.cell? ⟨wb.heap.size, 2, none⟩ = some (.slice none 0 0) := bn5.cell 2
        have kf2 := bn5.frozen 2
        have ko1 : w5.cell? ⟨f, 1, none⟩ = some (.slice B 0 c) := (hc.below yw5).2.1
        have nf : ¬ f = wb.heap.size := by omega
        clear o0 o1 o2 e0 e1 e2 m0 m1 m2 fz1 fz2
        go_wp2_with fail
        have yv : Below w.heap.size w (w5.setCell ⟨wb.heap.size, 2, none⟩ (.slice R3 (trimI (0 :: trimI (r.a :: ys.tail))).length d3)) := yw5.setCell (p := ⟨wb.heap.size, 2, none⟩) (by show w.heap.size ≤ wb.heap.size; omega) _
        have bv : Blk (w5.setCell ⟨wb.heap.size, 2, none⟩ (.slice R3 (trimI (0 :: trimI (r.a :: ys.tail))).length d3)) wb.heap.size 59 #[.int .i64 r.c, .slice none 0 0, .slice R3 (trimI (0 :: trimI (r.a :: ys.tail))).length d3] := Blk.set_ bn5 2 _
        have b0v : Blk (w5.setCell ⟨wb.heap.size, 2, none⟩ (.slice R3 (trimI (0 :: trimI (r.a :: ys.tail))).length d3)) w.heap.size 59 #[.int .i64 0, .slice none 0 0, .slice none 0 0] := (b0e.below' y45).far (p := ⟨wb.heap.size, 2, none⟩) (by show ¬ w.heap.size = wb.heap.size; omega) _
        have oRv : Own (w5.setCell ⟨wb.heap.size, 2, none⟩ (.slice R3 (trimI (0 :: trimI (r.a :: ys.tail))).length d3)) w4.heap.size 2 1 R3 (trimI (0 :: trimI (r.a :: ys.tail))).length d3 (ints (trimI (0 :: trimI (r.a :: ys.tail)))) := oR3.far (p := ⟨wb.heap.size, 2, none⟩) (fun e => by have h : w4.heap.size ≤ wb.heap.size := oR3.blk_ge _ e; omega) _
        have xv : SI (w5.setCell ⟨wb.heap.size, 2, none⟩ (.slice R3 (trimI (0 :: trimI (r.a :: ys.tail))).length d3)) B 0 xs := hx.below yv
        generalize w5.setCell ⟨wb.heap.size, 2, none⟩ (.slice R3 (trimI (0 :: trimI (r.a :: ys.tail))).length d3) = wv at *
        refine (l05Rest_any _ _ _ xs _ xv (by omega) hmc).mono ?_
        rintro e w6 ⟨L6, c6, rfl, oL6, y6⟩
        have hwv := oRv.blk_lt
        have bm := bv.below' y6
        have b0f := b0v.below' y6
        have oR6 := oRv.below y6
        have k1 : w6.cell? ⟨wb.heap.size, 1, none⟩ = some (.slice none 0 0) := bm.cell 1
        have kf1 := bm.frozen 1
        have yf : Below w.heap.size w w6 := yv.trans (y6.mono yv.size)
        have sv := bv.lt
        go_upto_region 12 with fail
        have bz : Blk (w6.setCell ⟨wb.heap.size, 1, none⟩ (.slice L6 (xs.length - 1) c6)) wb.heap.size 59 #[.int .i64 r.c, .slice L6 (xs.length - 1) c6, .slice R3 (trimI (0 :: trimI (r.a :: ys.tail))).length d3] := Blk.set_ bm 1 _
        have b0z : Blk (w6.setCell ⟨wb.heap.size, 1, none⟩ (.slice L6 (xs.length - 1) c6)) w.heap.size 59 #[.int .i64 0, .slice none 0 0, .slice none 0 0] := b0f.far (p := ⟨wb.heap.size, 1, none⟩) (by show ¬ w.heap.size = wb.heap.size; omega) _
        have oLz : Own (w6.setCell ⟨wb.heap.size, 1, none⟩ (.slice L6 (xs.length - 1) c6)) wv.heap.size 2 1 L6 xs.tail.length c6 (ints xs.tail) := oL6.far (p := ⟨wb.heap.size, 1, none⟩) (fun e => by have h : wv.heap.size ≤ wb.heap.size := oL6.blk_ge _ e; omega) _
        have oRz : Own (w6.setCell ⟨wb.heap.size, 1, none⟩ (.slice L6 (xs.length - 1) c6)) w4.heap.size 2 1 R3 (trimI (0 :: trimI (r.a :: ys.tail))).length d3 (ints (trimI (0 :: trimI (r.a :: ys.tail)))) := oR6.far (p := ⟨wb.heap.size, 1, none⟩) (fun e => by have h : w4.heap.size ≤ wb.heap.size := oR6.blk_ge _ e; omega) _
        have yz : Below w.heap.size w (w6.setCell ⟨wb.heap.size, 1, none⟩ (.slice L6 (xs.length - 1) c6)) := yf.setCell (p := ⟨wb.heap.size, 1, none⟩) (by show w.heap.size ≤ wb.heap.size; omega) _
        have HAPZ : Hid (∀ b, blk L6 = some b → blk R3 ≠ some b) := fun b h5 h6 => by
          have h7 := oL6.blk_ge b h5
          have h8 := hwv b h6
          omega
        clear k1 kf1 k2 kf2 ko1 hwv
        generalize w6.setCell ⟨wb.heap.size, 1, none⟩ (.slice L6 (xs.length - 1) c6) = wz at *
        have z0 : wz.cell? ⟨wb.heap.size, 0, none⟩ = some (.int .i64 r.c) := bz.cell 0
        have z1 : wz.cell? ⟨wb.heap.size, 1, none⟩ = some (.slice L6 (xs.length - 1) c6) := bz.cell 1
        have z2 : wz.cell? ⟨wb.heap.size, 2, none⟩ = some (.slice R3 (trimI (0 :: trimI (r.a :: ys.tail))).length d3) := bz.cell 2
        have x0 : wz.cell? ⟨w.heap.size, 0, none⟩ = some (.int .i64 0) := b0z.cell 0
        have x1 : wz.cell? ⟨w.heap.size, 1, none⟩ = some (.slice none 0 0) := b0z.cell 1
        have x2 : wz.cell? ⟨w.heap.size, 2, none⟩ = some (.slice none 0 0) := b0z.cell 2
        have zf0 := b0z.frozen 0
        have zf1 := b0z.frozen 1
        have zf2 := b0z.frozen 2
        have nw : ¬ wb.heap.size = w.heap.size := by omega
        have HP := Lib.hid (show roomC (stepS r xs ys) = (decide ((((xs.length - 1) : Nat) : Int) ≤ 200) && decide ((((trimI (0 :: trimI (r.a :: ys.tail))).length : Nat) : Int) ≤ 200)) by rw [SS.out]; exact room_eq (by simp) (by simp))
        cases v1 : decide ((((xs.length - 1) : Nat) : Int) ≤ 200)
        all_goals cases v2 : decide ((((trimI (0 :: trimI (r.a :: ys.tail))).length : Nat) : Int) ≤ 200)
        all_goals
          have V1 := Lib.hid v1
          have V2 := Lib.hid v2
          go_region
          go_wp2_with fail
          have dd := conf_set b0z (.int .i64 r.c) (.slice L6 (xs.length - 1) c6) (.slice R3 (trimI (0 :: trimI (r.a :: ys.tail))).length d3)
          refine bodyPost_ret (v := .tuple #[.agg #[.int .i64 r.c, .slice L6 (xs.length - 1) c6, .slice R3 (trimI (0 :: trimI (r.a :: ys.tail))).length d3], .bool (roomC (stepS r xs ys))]) (by rw [HP.out, V1.out, V2.out]; simp [results, Try.results238, go_sem, dd.cell 0, dd.cell 1, dd.cell 2]) rfl ?_
          rw [SS.out]
          refine ⟨L6, c6, R3, d3, by simp, (conf_far oLz (by omega) _ _ _).mono (by omega), (conf_far oRz (by omega) _ _ _).mono (by omega), HAPZ.out, below_drewN (conf_below yz (Nat.le_refl _) _ _ _) 1⟩
      · obtain ⟨b', off', rfl, _, hc0⟩ := (hx.below ye).at0 (by omega)
        obtain ⟨h0, hh0⟩ : ∃ h0, h0 = xs.headD 0 := ⟨_, rfl⟩
        rw [← hh0] at hc0
        have SS : Hid (stepS r xs ys = ⟨r.c, xs.tail, trimI (h0 :: trimI (r.a :: ys.tail))⟩) := by show _ = _; unfold stepS; rw [if_neg hb, if_neg hb, hh0]
        clear hh0
        have i3 : (0 : Int) < (m : Int) := by omega
        go_wp2_with fail
        refine (l05Push_any _ _ _ _ ys.tail _ siR (by have := HRL.out; rw [HTL.out] at this; omega)).mono ?_
        rintro e w4 ⟨R2, d2, rfl, oR2, y4⟩
        go_wp2_with fail
        refine (l05Push_any _ _ _ _ (trimI (r.a :: ys.tail)) _ oR2.rd (by have h := trim_len (r.a :: ys.tail); rw [List.length_cons] at h; have := HRL.out; omega)).mono ?_
        rintro e w5 ⟨R3, d3, rfl, oR3, y5⟩
        have y45 : Below we.heap.size we w5 := y4.trans (y5.mono y4.size)
        have yw5 : Below w.heap.size w w5 := ye.trans (y45.mono ye.size)
        have s4 : we.heap.size ≤ w4.heap.size := y4.size
        have s5 : w4.heap.size ≤ w5.heap.size := y5.size
        have bn5 := bne.below' y45
        have k2 : w5.cell? ⟨wb.heap.size, 2, none⟩ = some (.slice none 0 0) := bn5.cell 2
        have kf2 := bn5.frozen 2
        have ko1 : w5.cell? ⟨f, 1, none⟩ = some (.slice (some ⟨b', off', none⟩) m c) := (hc.below yw5).2.1
        have nf : ¬ f = wb.heap.size := by omega
        clear o0 o1 o2 e0 e1 e2 m0 m1 m2 fz1 fz2
        go_wp2_with fail
        have yv : Below w.heap.size w (w5.setCell ⟨wb.heap.size, 2, none⟩ (.slice R3 (trimI (h0 :: trimI (r.a :: ys.tail))).length d3)) := yw5.setCell (p := ⟨wb.heap.size, 2, none⟩) (by show w.heap.size ≤ wb.heap.size; omega) _
        have bv : Blk (w5.setCell ⟨wb.heap.size, 2, none⟩ (.slice R3 (trimI (h0 :: trimI (r.a :: ys.tail))).length d3)) wb.heap.size 59 #[.int .i64 r.c, .slice none 0 0, .slice R3 (trimI (h0 :: trimI (r.a :: ys.tail))).length d3] := Blk.set_ bn5 2 _
        have b0v : Blk (w5.setCell ⟨wb.heap.size, 2, none⟩ (.slice R3 (trimI (h0 :: trimI (r.a :: ys.tail))).length d3)) w.heap.size 59 #[.int .i64 0, .slice none 0 0, .slice none 0 0] := (b0e.below' y45).far (p := ⟨wb.heap.size, 2, none⟩) (by show ¬ w.heap.size = wb.heap.size; omega) _
        have oRv : Own (w5.setCell ⟨wb.heap.size, 2, none⟩ (.slice R3 (trimI (h0 :: trimI (r.a :: ys.tail))).length d3)) w4.heap.size 2 1 R3 (trimI (h0 :: trimI (r.a :: ys.tail))).length d3 (ints (trimI (h0 :: trimI (r.a :: ys.tail)))) := oR3.far (p := ⟨wb.heap.size, 2, none⟩) (fun e => by have h : w4.heap.size ≤ wb.heap.size := oR3.blk_ge _ e; omega) _
        have xv : SI (w5.setCell ⟨wb.heap.size, 2, none⟩ (.slice R3 (trimI (h0 :: trimI (r.a :: ys.tail))).length d3)) (some ⟨b', off', none⟩) m xs := hx.below yv
        generalize w5.setCell ⟨wb.heap.size, 2, none⟩ (.slice R3 (trimI (h0 :: trimI (r.a :: ys.tail))).length d3) = wv at *
        refine (l05Rest_any _ _ _ xs _ xv (by omega) hmc).mono ?_
        rintro e w6 ⟨L6, c6, rfl, oL6, y6⟩
        have hwv := oRv.blk_lt
        have bm := bv.below' y6
        have b0f := b0v.below' y6
        have oR6 := oRv.below y6
        have k1 : w6.cell? ⟨wb.heap.size, 1, none⟩ = some (.slice none 0 0) := bm.cell 1
        have kf1 := bm.frozen 1
        have yf : Below w.heap.size w w6 := yv.trans (y6.mono yv.size)
        have sv := bv.lt
        go_upto_region 12 with fail
        have bz : Blk (w6.setCell ⟨wb.heap.size, 1, none⟩ (.slice L6 (xs.length - 1) c6)) wb.heap.size 59 #[.int .i64 r.c, .slice L6 (xs.length - 1) c6, .slice R3 (trimI (h0 :: trimI (r.a :: ys.tail))).length d3] := Blk.set_ bm 1 _
        have b0z : Blk (w6.setCell ⟨wb.heap.size, 1, none⟩ (.slice L6 (xs.length - 1) c6)) w.heap.size 59 #[.int .i64 0, .slice none 0 0, .slice none 0 0] := b0f.far (p := ⟨wb.heap.size, 1, none⟩) (by show ¬ w.heap.size = wb.heap.size; omega) _
        have oLz : Own (w6.setCell ⟨wb.heap.size, 1, none⟩ (.slice L6 (xs.length - 1) c6)) wv.heap.size 2 1 L6 xs.tail.length c6 (ints xs.tail) := oL6.far (p := ⟨wb.heap.size, 1, none⟩) (fun e => by have h : wv.heap.size ≤ wb.heap.size := oL6.blk_ge _ e; omega) _
        have oRz : Own (w6.setCell ⟨wb.heap.size, 1, none⟩ (.slice L6 (xs.length - 1) c6)) w4.heap.size 2 1 R3 (trimI (h0 :: trimI (r.a :: ys.tail))).length d3 (ints (trimI (h0 :: trimI (r.a :: ys.tail)))) := oR6.far (p := ⟨wb.heap.size, 1, none⟩) (fun e => by have h : w4.heap.size ≤ wb.heap.size := oR6.blk_ge _ e; omega) _
        have yz : Below w.heap.size w (w6.setCell ⟨wb.heap.size, 1, none⟩ (.slice L6 (xs.length - 1) c6)) := yf.setCell (p := ⟨wb.heap.size, 1, none⟩) (by show w.heap.size ≤ wb.heap.size; omega) _
        have HAPZ : Hid (∀ b, blk L6 = some b → blk R3 ≠ some b) := fun b h5 h6 => by
          have h7 := oL6.blk_ge b h5
          have h8 := hwv b h6
          omega
        clear k1 kf1 k2 kf2 ko1 hwv
        generalize w6.setCell ⟨wb.heap.size, 1, none⟩ (.slice L6 (xs.length - 1) c6) = wz at *
        have z0 : wz.cell? ⟨wb.heap.size, 0, none⟩ = some (.int .i64 r.c) := bz.cell 0
        have z1 : wz.cell? ⟨wb.heap.size, 1, none⟩ = some (.slice L6 (xs.length - 1) c6) := bz.cell 1
        have z2 : wz.cell? ⟨wb.heap.size, 2, none⟩ = some (.slice R3 (trimI (h0 :: trimI (r.a :: ys.tail))).length d3) := bz.cell 2
        have x0 : wz.cell? ⟨w.heap.size, 0, none⟩ = some (.int .i64 0) := b0z.cell 0
        have x1 : wz.cell? ⟨w.heap.size, 1, none⟩ = some (.slice none 0 0) := b0z.cell 1
        have x2 : wz.cell? ⟨w.heap.size, 2, none⟩ = some (.slice none 0 0) := b0z.cell 2
        have zf0 := b0z.frozen 0
        have zf1 := b0z.frozen 1
        have zf2 := b0z.frozen 2
        have nw : ¬ wb.heap.size = w.heap.size := by omega
        have HP := Lib.hid (show roomC (stepS r xs ys) = (decide ((((xs.length - 1) : Nat) : Int) ≤ 200) && decide ((((trimI (h0 :: trimI (r.a :: ys.tail))).length : Nat) : Int) ≤ 200)) by rw [SS.out]; exact room_eq (by simp) (by simp))
        cases v1 : decide ((((xs.length - 1) : Nat) : Int) ≤ 200)
        all_goals cases v2 : decide ((((trimI (h0 :: trimI (r.a :: ys.tail))).length : Nat) : Int) ≤ 200)
        all_goals
          have V1 := Lib.hid v1
          have V2 := Lib.hid v2
          go_region
          go_wp2_with fail
          have dd := conf_set b0z (.int .i64 r.c) (.slice L6 (xs.length - 1) c6) (.slice R3 (trimI (h0 :: trimI (r.a :: ys.tail))).length d3)
          refine bodyPost_ret (v := .tuple #[.agg #[.int .i64 r.c, .slice L6 (xs.length - 1) c6, .slice R3 (trimI (h0 :: trimI (r.a :: ys.tail))).length d3], .bool (roomC (stepS r xs ys))]) (by rw [HP.out, V1.out, V2.out]; simp [results, Try.results238, go_sem, dd.cell 0, dd.cell 1, dd.cell 2]) rfl ?_
          rw [SS.out]
          refine ⟨L6, c6, R3, d3, by simp, (conf_far oLz (by omega) _ _ _).mono (by omega), (conf_far oRz (by omega) _ _ _).mono (by omega), HAPZ.out, below_drewN (conf_below yz (Nat.le_refl _) _ _ _) 1⟩
end Go.Proofs.Ytpnkelmmfcmijaa

/-
  Contract of the reference's StepMachine.
-/
namespace Go.Proofs.Ytpnkelmmfcmijaa
open Go.RowKit

theorem conf_good {sy st : Int} {rs : List R3} {q : Int} {xs ys : List Int} (h : validConfB sy st rs q xs ys = true) : (xs = [] ∨ lastI xs ≠ 0) ∧ (ys = [] ∨ lastI ys ≠ 0) := by
  unfold validConfB at h
  simp only [Bool.and_eq_true] at h
  have hc := h.2
  unfold confB sideB at hc
  simp only [Bool.and_eq_true, Bool.or_eq_true, decide_eq_true_eq, bne_iff_ne, ne_eq] at hc
  exact ⟨hc.1.2.2, hc.2.2⟩

end Go.Proofs.Ytpnkelmmfcmijaa

/-
  Runs of a machine, in plain words: the i-th configuration, runs that are alive, their ends.
-/
namespace Go.Proofs.Ytpnkelmmfcmijaa
open Go.RowKit

def haltC (sy : Int) (rs : List R3) (c : Conf) : Bool := !isRuleB (ruleOf sy rs c.q c.ys)
def nextC (sy : Int) (rs : List R3) (c : Conf) : Conf := stepC (ruleOf sy rs c.q c.ys) c.xs c.ys
def itC (sy : Int) (rs : List R3) (c : Conf) : Nat → Conf
  | 0 => c
  | i + 1 => nextC sy rs (itC sy rs c i)
def goodC (sy st : Int) (rs : List R3) (c : Conf) : Prop := validConfB sy st rs c.q c.xs c.ys = true

theorem side_push {sy : Int} {xs : List Int} {x : Int} (hx : ∀ y ∈ xs, 0 ≤ y ∧ y ≤ sy - 1) (h : 0 ≤ x ∧ x ≤ sy - 1) : ∀ y ∈ pushI xs x, 0 ≤ y ∧ y ≤ sy - 1 := by
  unfold pushI
  split
  · exact hx
  · intro y hy
    rcases List.mem_append.1 hy with h1 | h1
    · exact hx y h1
    · rw [List.mem_singleton.1 h1]; exact h
theorem side_of {sy : Int} {xs : List Int} (hl : xs.length ≤ 200) (hx : ∀ y ∈ xs, 0 ≤ y ∧ y ≤ sy - 1) (hg : xs = [] ∨ lastI xs ≠ 0) : sideB xs sy 200 = true := by
  unfold sideB allIn
  simp only [Bool.and_eq_true, decide_eq_true_eq, List.all_eq_true, inB_iff, Bool.or_eq_true, bne_iff_ne, ne_eq]
  exact ⟨⟨by omega, hx⟩, hg⟩
theorem goodC_next {sy st : Int} {rs : List R3} {c : Conf} (h : goodC sy st rs c) (hh : haltC sy rs c = false) (hr : roomC (nextC sy rs c) = true) : goodC sy st rs (nextC sy rs c) := by
  obtain ⟨h1, h2, h3, h4, hn, h5, h6, hx2, hy2, hxm, hym, hrs⟩ := conf_parts h
  obtain ⟨gx, gy⟩ := conf_good h
  have hv : machB sy st rs = true := by unfold goodC validConfB at h; simp only [Bool.and_eq_true] at h; exact h.1
  obtain ⟨_, _, _, _, idx, hidx, hlt⟩ := at_parts (ys := c.ys.reverse) h1 h2 h3 h4 hn h5 h6 (fun y hy => hym y (List.mem_reverse.1 hy))
  have hget := ruleOf_get (rs := rs) (ys := c.ys) hidx hlt
  have hval := hrs _ (List.mem_of_getElem? hget)
  have hru : isRuleB (ruleOf sy rs c.q c.ys) = true := by unfold haltC at hh; simpa using hh
  unfold nextC at hr ⊢
  revert hr hval hru
  generalize ruleOf sy rs c.q c.ys = r
  intro hr hval hru
  unfold validRuleB at hval
  rw [hru] at hval
  simp only [Bool.not_true, Bool.false_or, Bool.and_eq_true, inB_iff] at hval
  obtain ⟨⟨ha, hb⟩, hc⟩ := hval
  unfold roomC roomB at hr
  simp only [Bool.and_eq_true, decide_eq_true_eq] at hr
  have hl0 : 0 ≤ lastI c.xs.reverse ∧ lastI c.xs.reverse ≤ sy - 1 := by
    rcases lastI_mem (xs := c.xs.reverse) with h0 | h0
    · rw [h0]; omega
    · exact hxm _ (List.mem_reverse.1 h0)
  have hxr : ∀ y ∈ c.xs.reverse, 0 ≤ y ∧ y ≤ sy - 1 := fun y hy => hxm y (List.mem_reverse.1 hy)
  have hyr : ∀ y ∈ c.ys.reverse, 0 ≤ y ∧ y ≤ sy - 1 := fun y hy => hym y (List.mem_reverse.1 hy)
  have hyd : ∀ y ∈ c.ys.reverse.dropLast, 0 ≤ y ∧ y ≤ sy - 1 := fun y hy => hyr y (List.dropLast_subset _ hy)
  have hxd : ∀ y ∈ c.xs.reverse.dropLast, 0 ≤ y ∧ y ≤ sy - 1 := fun y hy => hxr y (List.dropLast_subset _ hy)
  have hL : ∀ y ∈ (stepL r c.xs.reverse).reverse, 0 ≤ y ∧ y ≤ sy - 1 := by
    intro y hy
    rw [List.mem_reverse] at hy
    unfold stepL at hy
    split at hy
    · exact side_push hxr ha y hy
    · exact hxd y hy
  have hR : ∀ y ∈ (stepR r c.xs.reverse c.ys.reverse).reverse, 0 ≤ y ∧ y ≤ sy - 1 := by
    intro y hy
    rw [List.mem_reverse] at hy
    unfold stepR at hy
    split at hy
    · exact hyd y hy
    · exact side_push (side_push hyd ha) hl0 y hy
  have hgL : (stepL r c.xs.reverse).reverse = [] ∨ lastI (stepL r c.xs.reverse).reverse ≠ 0 := by
    unfold stepL
    split
    · exact good_push gx _
    · rw [rev_dropLast]; exact good_tail gx
  have hgR : (stepR r c.xs.reverse c.ys.reverse).reverse = [] ∨ lastI (stepR r c.xs.reverse c.ys.reverse).reverse ≠ 0 := by
    unfold stepR
    split
    · rw [rev_dropLast]; exact good_tail gy
    · have g1 := good_tail gy
      have e1 : c.ys.reverse.dropLast = c.ys.tail.reverse := by rw [← rev_dropLast, List.reverse_reverse]
      rw [e1]
      have g2 := good_push g1 r.a
      have e2 : pushI c.ys.tail.reverse r.a = (pushI c.ys.tail.reverse r.a).reverse.reverse := by rw [List.reverse_reverse]
      rw [e2]
      exact good_push g2 _
  unfold goodC validConfB confB
  simp only [Bool.and_eq_true, inB_iff]
  exact ⟨hv, ⟨⟨hc.1, hc.2⟩, side_of hr.1 hL hgL⟩, side_of hr.2 hR hgR⟩

/-- The run makes i steps. -/
def Alive (sy : Int) (rs : List R3) (c : Conf) (i : Nat) : Prop := ∀ j, j < i → haltC sy rs (itC sy rs c j) = false ∧ roomC (itC sy rs c (j + 1)) = true
theorem Alive.zero (sy : Int) (rs : List R3) (c : Conf) : Alive sy rs c 0 := fun j h => absurd h (Nat.not_lt_zero j)
theorem Alive.next {sy : Int} {rs : List R3} {c : Conf} {i : Nat} (h : Alive sy rs c i) (h1 : haltC sy rs (itC sy rs c i) = false) (h2 : roomC (itC sy rs c (i + 1)) = true) : Alive sy rs c (i + 1) := fun j hj => by
  by_cases e : j = i
  · subst e; exact ⟨h1, h2⟩
  · exact h j (by omega)
theorem Alive.good {sy st : Int} {rs : List R3} {c : Conf} {i : Nat} (h : Alive sy rs c i) (hc : goodC sy st rs c) : goodC sy st rs (itC sy rs c i) := by
  induction i with
  | zero => exact hc
  | succ i ih => exact goodC_next (ih (fun j hj => h j (by omega))) (h i (by omega)).1 (h i (by omega)).2
/-- The run ends behind i of at most N steps. -/
def Ended (sy : Int) (rs : List R3) (c : Conf) (N i : Nat) : Prop := i ≤ N ∧ Alive sy rs c i ∧ (i = N ∨ haltC sy rs (itC sy rs c i) = true)
/-- The run has no room for the step behind i steps. -/
def Full (sy : Int) (rs : List R3) (c : Conf) (N i : Nat) : Prop := i < N ∧ Alive sy rs c i ∧ haltC sy rs (itC sy rs c i) = false ∧ roomC (itC sy rs c (i + 1)) = false

/-- What a run comes to: the number of steps, or none without room. -/
def runN (sy : Int) (rs : List R3) : Nat → Conf → Option Nat
  | 0, _ => some 0
  | N + 1, c => if haltC sy rs c then some 0 else if roomC (nextC sy rs c) then (runN sy rs N (nextC sy rs c)).map (· + 1) else none
theorem itC_shift (sy : Int) (rs : List R3) (c : Conf) (i : Nat) : itC sy rs (nextC sy rs c) i = itC sy rs c (i + 1) := by
  induction i with
  | zero => rfl
  | succ i ih => show nextC sy rs (itC sy rs (nextC sy rs c) i) = nextC sy rs (itC sy rs c (i + 1)); rw [ih]
theorem Alive.shift {sy : Int} {rs : List R3} {c : Conf} {i : Nat} (h : Alive sy rs c (i + 1)) : Alive sy rs (nextC sy rs c) i := fun j hj => by
  rw [itC_shift, itC_shift]; exact h (j + 1) (by omega)
theorem runN_ended {sy : Int} {rs : List R3} : ∀ {N : Nat} {c : Conf} {i : Nat}, Ended sy rs c N i → runN sy rs N c = some i := by
  intro N
  induction N with
  | zero => rintro c i ⟨h1, _, _⟩; obtain rfl : i = 0 := by omega
            rfl
  | succ N ih =>
    rintro c i ⟨h1, h2, h3⟩
    cases i with
    | zero =>
      rcases h3 with h3 | h3
      · omega
      · unfold runN; rw [if_pos (show haltC sy rs c = true from h3)]
    | succ i =>
      have h0 := h2 0 (by omega)
      unfold runN
      rw [if_neg (by rw [show haltC sy rs c = false from h0.1]; simp), if_pos (show roomC (nextC sy rs c) = true from h0.2), ih (i := i) ⟨by omega, h2.shift, ?_⟩]
      · rfl
      · rcases h3 with h3 | h3
        · left; omega
        · right; rw [itC_shift]; exact h3
theorem runN_full {sy : Int} {rs : List R3} : ∀ {N : Nat} {c : Conf} {i : Nat}, Full sy rs c N i → runN sy rs N c = none := by
  intro N
  induction N with
  | zero => rintro c i ⟨h1, _⟩; omega
  | succ N ih =>
    rintro c i ⟨h1, h2, h3, h4⟩
    cases i with
    | zero =>
      unfold runN
      rw [if_neg (by rw [show haltC sy rs c = false from h3]; simp), if_neg (by rw [show roomC (nextC sy rs c) = false from h4]; simp)]
    | succ i =>
      have h0 := h2 0 (by omega)
      unfold runN
      rw [if_neg (by rw [show haltC sy rs c = false from h0.1]; simp), if_pos (show roomC (nextC sy rs c) = true from h0.2), ih (i := i) ⟨by omega, h2.shift, by rw [itC_shift]; exact h3, by rw [itC_shift]; exact h4⟩]
      rfl
end Go.Proofs.Ytpnkelmmfcmijaa

/-
  A range over a function whose iterator keeps state of its own in cells: the caller's law. No program is in sight.
-/
namespace Go.Proofs.Ytpnkelmmfcmijaa
open Go.RowKit

variable {F : Fence} {n : Nat} {P : Program}

/-- The loop's own records: the loop and the deferred calls. -/
def isBook : Obj → Bool
  | .loop .. => true
  | .deferred .. => true
  | _ => false
theorem book_cells {o : Obj} (h : isBook o = true) : o.isCells = false := by cases o <;> first | rfl | cases h
theorem cells_book {o : Obj} (h : o.isCells = true) : isBook o = false := by cases o <;> first | rfl | cases h
/-- The loop's records lie as they lay. -/
structure KeepsBook (W W' : World) : Prop where
  size : W.heap.size ≤ W'.heap.size
  same : ∀ (k : Nat) (o : Obj), W.heap[k]? = some o → isBook o = true → W'.heap[k]? = some o
theorem KeepsBook.of {W W' : World} (h : KeepsOthers W W') : KeepsBook W W' := ⟨h.size, fun k o hk ho => h.same k o hk (book_cells ho)⟩
theorem KeepsBook.refl (W : World) : KeepsBook W W := KeepsBook.of (KeepsOthers.refl W)
theorem KeepsBook.trans {A B C : World} (h : KeepsBook A B) (k : KeepsBook B C) : KeepsBook A C := ⟨Nat.le_trans h.size k.size, fun i o hi ho => k.same i o (h.same i o hi ho) ho⟩
theorem KeepsBook.alloc (W : World) (o : Obj) : KeepsBook W (W.alloc o) := KeepsBook.of (KeepsOthers.alloc W o)
theorem KeepsBook.setCell (W : World) (a : Addr) (v : Value) : KeepsBook W (W.setCell a v) := KeepsBook.of (KeepsOthers.setCell W a v)

/-- The contract of an iterator. J x: where yield is called with x. J' x: behind a round that goes on. Jx c x: behind a round that left by c. B, Bx: the loop's own book-keeping. -/
def SeqC {α : Type} (F : Fence) (n : Nat) (P : Program) (g : Nat) (lb : Array Value) (encs : α → Array Value) (J J' : α → World → Prop) (Jx : Code → α → World → Prop) (Start Fin : World → Prop) (FinX : Code → World → Prop) : Prop :=
  ∀ (l : Nat) (B : World → Prop) (Bx : Code → World → Prop), (∀ W W', B W → KeepsBook W W' → B W') → (∀ c W W', Bx c W → KeepsBook W W' → Bx c W') →
    (∀ x W, J x W → B W → YieldAt F (n - 1) P l (encs x) W fun e W' => (e = .returned (.bool true) ∧ J' x W' ∧ B W') ∨ (e = .returned (.bool false) ∧ ∃ c, Jx c x W' ∧ Bx c W')) →
    ∀ W, Start W → B W → CallsIn F n P g (#[.func (.yield l) #[] #[]] ++ lb) W fun e W' => (∃ v, e = .returned v) ∧ ((Fin W' ∧ B W') ∨ (∃ c, FinX c W' ∧ Bx c W'))

def stPost {α : Type} (J' : α → World → Prop) (Jx : Code → α → World → Prop) (x : α) (W : World) : Exit → Act → World → Prop
  | .normal, _, W' => KeepsBook W W' ∧ J' x W'
  | .ret, _, W' => KeepsBook W W' ∧ Jx .ret x W'
  | .exit id, _, W' => KeepsBook W W' ∧ Jx (.exit id) x W'
  | .goto t, _, W' => KeepsBook W W' ∧ Jx (.goto t) x W'
  | .panic _, _, _ => False
  | .outgrown, _, _ => False

/-- A word that abides a turn of a block that holds no cells. -/
def PutOk (b0 : Nat) (I : World → Prop) : Prop := ∀ (W : World) (l : Nat) (o o' : Obj), I W → b0 ≤ l → W.heap[l]? = some o → isBook o = true → I (W.putObj l o')

theorem keeps_loop {W W' : World} {l : Nat} {o : Obj} (h : KeepsBook W W') (hl : W.heap[l]? = some o) (ho : isBook o = true) : W'.heap[l]? = some o := h.same l o hl ho

theorem wpIn_rangeFunc_st {α : Type} {g : Operand} {ps : Array Tmp} {assign body : Code} {Q : Exit → Act → World → Prop} {a : Act} {w : World}
    (hro : F.round = none) (h1 : 1 ≤ n) {gf : Nat} {lb : Array Value} (hg : a.eval g = .func (.func gf) #[] lb) (hFg : F.fn gf) (eg : ∀ args w, (callFunc gf args).run P w = .ok (.enter gf args) w)
    {encs : α → Array Value} {J J' : α → World → Prop} {Jx : Code → α → World → Prop} {Start Fin : World → Prop} {FinX : Code → World → Prop} (hseq : SeqC F (n - 1) P gf lb encs J J' Jx Start Fin FinX)
    (hps : ∀ x, (encs x).size = ps.size) (hJ : ∀ x, PutOk w.heap.size (J x)) (hJ' : ∀ x, PutOk w.heap.size (J' x)) (hJx : ∀ c x, PutOk w.heap.size (Jx c x)) (hFin : PutOk w.heap.size Fin) (hFinX : ∀ c, PutOk w.heap.size (FinX c))
    (hstart : ∀ r, Start ((w.alloc (.deferred (some []))).alloc (.loop r))) (a₁ : α → Act)
    (hassign : ∀ (l : Nat) (x : α) (W : World) (K : Act → World → Prop), K (a₁ x) W →
      assign.wpIn (F.inRound l) (n - 1 - 1) P (Exit.then K (fun _ _ _ => False)) { tmps := (ps.zip (encs x)).foldl (fun t (p, v) => t.setIfInBounds p v) a.tmps, defers := [] } W)
    (hbody : ∀ (l : Nat) (x : α) (W : World), w.heap.size ≤ l → J x W → body.wpIn (F.inRound l) (n - 1 - 1) P (stPost J' Jx x W) (a₁ x) W)
    (hdone : ∀ (D : Nat) (W : World), w.heap.size ≤ D → Fin W → W.heap[D]? = some (.deferred (some [])) → Q .normal { a with defers := { target := .collected D, args := #[] } :: a.defers } W)
    (hstop : ∀ (D : Nat) (c : Code) (W : World), w.heap.size ≤ D → FinX c W → W.heap[D]? = some (.deferred (some [])) → c.wpIn F n P Q { a with defers := { target := .collected D, args := #[] } :: a.defers } W) :
    (Code.rangeFunc g ps assign body).wpIn F n P Q a w := by
  refine wpIn_rangeFunc ?_
  intro fn hfn
  rw [hro]
  obtain ⟨rec, hrec⟩ : ∃ rec : LoopState → Option Code → Loop, rec = fun st pe => { state := st, pending := pe, fn, tmps := a.tmps, params := ps, assign, body, defers := w.heap.size } := ⟨_, rfl⟩
  obtain ⟨W1, hW1⟩ : ∃ W1, (w.alloc (.deferred (some []))).alloc (.loop (rec .ready none)) = W1 := ⟨_, rfl⟩
  have hL1 : W1.heap[w.heap.size + 1]? = some (.loop (rec .ready none)) := by
    rw [← hW1]; have := World.alloc_heap_new (w.alloc (.deferred (some []))) (.loop (rec .ready none)); rwa [World.size_alloc] at this
  have hK1 : W1.heap[w.heap.size]? = some (.deferred (some [])) := by
    rw [← hW1]; exact (Below.heap_alloc _ _ _ (by simp)).trans (World.alloc_heap_new w _)
  have hS1 : Start W1 := by rw [← hW1]; exact hstart _
  refine ⟨w.heap.size + 1, [{ target := .collected w.heap.size, args := #[] }], W1, { target := .fn (.func gf) lb, args := #[.func (.yield (w.heap.size + 1)) #[] #[]] }, W1, gf,
    #[.func (.yield (w.heap.size + 1)) #[] #[]] ++ lb, W1, ?_, ?_, ?_, ?_, fun _ => h1, ?_⟩
  · rw [← hW1, hrec]; exact run_enterLoop_outer _ _ _ _ _
  · simp only [resolve, hg]
    simp [go_sem]
  · intro f' hf'; simp [Target.leads] at hf'; subst hf'; exact hFg
  · simp [invoke, go_sem, eg]
  · refine (hseq (w.heap.size + 1)
      (fun W => W.heap[w.heap.size + 1]? = some (.loop (rec .ready none)) ∧ W.heap[w.heap.size]? = some (.deferred (some [])))
      (fun c W => W.heap[w.heap.size + 1]? = some (.loop (rec .done (some c))) ∧ W.heap[w.heap.size]? = some (.deferred (some [])))
      (fun W W' h k => ⟨keeps_loop k h.1 rfl, keeps_loop k h.2 rfl⟩) (fun c W W' h k => ⟨keeps_loop k h.1 rfl, keeps_loop k h.2 rfl⟩) ?_ W1 hS1 ⟨hL1, hK1⟩).mono ?_
    · rintro x W hi ⟨hl, hk⟩
      have hlt : w.heap.size + 1 < W.heap.size := (Array.getElem?_eq_some_iff.1 hl).1
      have hy := run_yield (P := P) (args := encs x) hl (by rw [hrec]; exact hps x)
      rw [hrec] at hy
      refine ⟨fn, _, assign, body, hy, roundIn_of_wpIn hfn (hassign _ x W _ ⟨_, run_beginRound hl (by rw [hrec]), ?_⟩)⟩
      have hl2 : (W.putObj (w.heap.size + 1) (.loop { rec .ready none with state := .busy })).heap[w.heap.size + 1]? = some (.loop { rec .ready none with state := .busy }) := World.putObj_heap_same hlt
      have hk2 : (W.putObj (w.heap.size + 1) (.loop { rec .ready none with state := .busy })).heap[w.heap.size]? = some (.deferred (some [])) := (World.putObj_heap_other (by omega)).trans hk
      refine wpIn_mono (hbody _ x _ (by omega) (hJ x _ _ _ _ hi (by omega) hl rfl)) ?_
      have fin : ∀ (jump : Option Code) (W3 : World), KeepsBook (W.putObj (w.heap.size + 1) (.loop { rec .ready none with state := .busy })) W3 →
          (Instr.endRound (w.heap.size + 1) jump).run P W3 = .ok (.bool jump.isNone) (W3.putObj (w.heap.size + 1) (.loop (rec (if jump.isNone then .ready else .done) jump))) ∧
          W3.heap[w.heap.size + 1]? = some (.loop { rec .ready none with state := .busy }) ∧
          (W3.putObj (w.heap.size + 1) (.loop (rec (if jump.isNone then .ready else .done) jump))).heap[w.heap.size + 1]? = some (.loop (rec (if jump.isNone then .ready else .done) jump)) ∧
          (W3.putObj (w.heap.size + 1) (.loop (rec (if jump.isNone then .ready else .done) jump))).heap[w.heap.size]? = some (.deferred (some [])) := fun jump W3 hk3 => by
        have hl3 := hk3.same _ _ hl2 rfl
        have := run_endRound (P := P) jump hl3
        rw [hrec] at this ⊢
        exact ⟨this, by rw [hrec] at hl3; exact hl3, World.putObj_heap_same (Array.getElem?_eq_some_iff.1 hl3).1, (World.putObj_heap_other (by omega)).trans (hk3.same _ _ hk2 rfl)⟩
      rintro e a3 W3 hp
      cases e with
      | normal =>
        obtain ⟨hk3, hi3⟩ := hp
        obtain ⟨hr, hl3, hl4, hk4⟩ := fin none W3 hk3
        exact ⟨_, _, hr, .inl ⟨rfl, hJ' x _ _ _ _ hi3 (by omega) hl3 rfl, hl4, hk4⟩⟩
      | ret =>
        obtain ⟨hk3, hi3⟩ := hp
        obtain ⟨hr, hl3, hl4, hk4⟩ := fin (some .ret) W3 hk3
        exact ⟨_, _, hr, .inr ⟨rfl, .ret, hJx _ x _ _ _ _ hi3 (by omega) hl3 rfl, hl4, hk4⟩⟩
      | exit id =>
        obtain ⟨hk3, hi3⟩ := hp
        obtain ⟨hr, hl3, hl4, hk4⟩ := fin (some (.exit id)) W3 hk3
        exact ⟨_, _, hr, .inr ⟨rfl, .exit id, hJx _ x _ _ _ _ hi3 (by omega) hl3 rfl, hl4, hk4⟩⟩
      | goto t =>
        obtain ⟨hk3, hi3⟩ := hp
        obtain ⟨hr, hl3, hl4, hk4⟩ := fin (some (.goto t)) W3 hk3
        exact ⟨_, _, hr, .inr ⟨rfl, .goto t, hJx _ x _ _ _ _ hi3 (by omega) hl3 rfl, hl4, hk4⟩⟩
      | panic ch => exact hp.elim
      | outgrown => exact hp.elim
    · rintro e W2 ⟨⟨v, rfl⟩, (⟨hi, hl, hk⟩ | ⟨c, hi, hl, hk⟩)⟩
      · exact ⟨none, _, by have := run_endLoop (P := P) hl (by rw [hrec]; simp); rw [hrec] at this; exact this, hdone _ _ (Nat.le_refl _) (hFin _ _ _ _ hi (by omega) hl rfl) ((World.putObj_heap_other (by omega)).trans hk)⟩
      · exact ⟨some c, _, by have := run_endLoop (P := P) hl (by rw [hrec]; simp); rw [hrec] at this; exact this, hstop _ c _ (Nat.le_refl _) (hFinX c _ _ _ _ hi (by omega) hl rfl) ((World.putObj_heap_other (by omega)).trans hk)⟩
end Go.Proofs.Ytpnkelmmfcmijaa

/-
  Contracts of impl's runner in the words of a configuration: halts, step.
-/
namespace Go.Proofs.Ytpnkelmmfcmijaa
open Go.RowKit

/-- A runner that stands at a configuration, apart from the blocks of X. -/
def RunC (X : Nat → Prop) (w : World) (lo g : Nat) (sy st : Int) (A : Option Addr) (n k : Nat) (c : Conf) : Prop := SidesX X w lo g sy st A n k c.q c.xs.reverse c.ys.reverse

theorem halts_c {X : Nat → Prop} {w : World} {lo g : Nat} {sy st : Int} {A : Option Addr} {n k : Nat} {rs : List R3} {c : Conf} (hs : RunC X w lo g sy st A n k c) (hrs : S3 w A n rs) (hg : goodC sy st rs c) (hn : n ≤ 1048576) :
    Calls Try.prog 190 #[.pointer (some ⟨g, 0, none⟩)] w fun e w' => e = .returned (.bool (haltC sy rs c)) ∧ Below w.heap.size w w' := by
  obtain ⟨L, cl, R, d, hr, ol, or_, _⟩ := hs
  obtain ⟨h1, h2, h3, h4, hnl, h5, h6, hx2, hy2, hxm, hym, hrsv⟩ := conf_parts hg
  obtain ⟨a1, a2, a3, a4, idx, hidx, hlt⟩ := at_parts (ys := c.ys.reverse) h1 h2 h3 h4 hnl h5 h6 (fun y hy => hym y (List.mem_reverse.1 hy))
  have hget := ruleOf_get (rs := rs) (ys := c.ys) hidx hlt
  have hl : c.ys.reverse.length ≤ 1048576 := by rw [List.length_reverse]; omega
  have hln : rs.length = n := hrs.len
  exact halts_any g sy st A n k rs c.q L _ cl R _ d c.ys.reverse idx (ruleOf sy rs c.q c.ys) w hr hrs or_.rd hl a1 (by omega) a3 (by omega) (Lib.hid hidx) (by omega) (Lib.hid hget) hn

def StepC (X : Nat → Prop) (w w0 : World) (g : Nat) (sy st : Int) (A : Option Addr) (n k : Nat) (rs : List R3) (c : Conf) (e : Ending) (w' : World) : Prop :=
  e = .returned (.bool (roomC (nextC sy rs c))) ∧ RunC X w' w0.heap.size g sy st A n k (nextC sy rs c) ∧ Below w0.heap.size w0 w' ∧ Fr X w w' ∧ KeepsBook w w'

theorem isCells_own {w : World} {lo s n c b : Nat} {e : TypeId} {A : Option Addr} {cs : List Value} (h : Own w lo e s A n c cs) (hb : blk A = some b) : ¬ ∃ o : Obj, w.heap[b]? = some o ∧ o.isCells = false := by
  rintro ⟨o, ho, hc⟩
  rcases h.2 with ⟨rfl, _⟩ | ⟨b', off, cur, rfl, _, hg, _⟩
  · simp [blk] at hb
  · simp [blk] at hb; subst hb
    rw [hg] at ho; cases ho; cases hc

theorem step_c {X : Nat → Prop} {w w0 : World} {g : Nat} {sy st : Int} {A : Option Addr} {n k : Nat} {rs : List R3} {c : Conf} (hs : RunC X w w0.heap.size g sy st A n k c) (hXg : ¬ X g) (hXt : ∀ b, X b → b < w.heap.size) (hrs : S3 w0 A n rs) (hb0 : Below w0.heap.size w0 w) (hg0 : w0.heap.size ≤ g) (hg : goodC sy st rs c) (hn : n ≤ 1048576) :
    Calls Try.prog 192 #[.pointer (some ⟨g, 0, none⟩)] w (StepC X w w0 g sy st A n k rs c) := by
  obtain ⟨L, cl, R, d, hr, ol, or_, hap, hXl, hXr⟩ := hs
  obtain ⟨h1, h2, h3, h4, hnl, h5, h6, hx2, hy2, hxm, hym, hrsv⟩ := conf_parts hg
  obtain ⟨a1, a2, a3, a4, idx, hidx, hlt⟩ := at_parts (ys := c.ys.reverse) h1 h2 h3 h4 hnl h5 h6 (fun y hy => hym y (List.mem_reverse.1 hy))
  have hget := ruleOf_get (rs := rs) (ys := c.ys) hidx hlt
  have hln : rs.length = n := hrs.len
  refine (step_x (fun b => X b ∨ ∃ o : Obj, w.heap[b]? = some o ∧ o.isCells = false) w0 g sy st A n k rs c.q c.xs.reverse c.ys.reverse idx (ruleOf sy rs c.q c.ys) w
    ⟨L, cl, R, d, hr, ol, or_, hap, fun b hb h => h.elim (hXl b hb) (isCells_own ol hb), fun b hb h => h.elim (hXr b hb) (isCells_own or_ hb)⟩
    (Lib.hid (fun h => h.elim hXg (fun ⟨o, ho, hc⟩ => by rw [show w.heap[g]? = _ from hr] at ho; cases ho; cases hc)))
    (Lib.hid (fun b h => h.elim (hXt b) (fun ⟨o, ho, _⟩ => (Array.getElem?_eq_some_iff.1 ho).1)))
    hrs hb0 hg0 (by rw [List.length_reverse]; omega) (by rw [List.length_reverse]; omega) a1 (by omega) a3 (by omega) (Lib.hid hidx) (by omega) (Lib.hid hget) hn).mono ?_
  rintro e w' ⟨he, ⟨L', cl', R', d', hr', ol', or', hap', hXl', hXr'⟩, hz, hf⟩
  refine ⟨?_, ⟨L', cl', R', d', ?_, ?_, ?_, hap', fun b hb h => hXl' b hb (.inl h), fun b hb h => hXr' b hb (.inl h)⟩, hz, ⟨hf.size, fun b hb hl => hf.same b (.inl hb) hl⟩, ⟨hf.size, fun k o hk ho => (hf.same k (.inr ⟨o, hk, book_cells ho⟩) (Array.getElem?_eq_some_iff.1 hk).1).trans hk⟩⟩
  · rw [he]
    refine ret_bool ?_
    unfold roomC nextC stepC roomB
    simp
  · simpa [nextC, stepC] using hr'
  · simpa [nextC, stepC] using ol'
  · simpa [nextC, stepC] using or'

theorem Own.fr {X : Nat → Prop} {w w' : World} {A : Option Addr} {n c s lo : Nat} {e : TypeId} {cs : List Value} (h : Own w lo e s A n c cs) (hf : Fr X w w') (hX : ∀ b, blk A = some b → X b) : Own w' lo e s A n c cs :=
  h.kept (fun b hb _ hlt => hf.same b (hX b hb) hlt)
theorem Blk.fr {X : Nat → Prop} {w w' : World} {g : Nat} {t : TypeId} {cs : Array Value} (h : Blk w g t cs) (hf : Fr X w w') (hX : X g) : Blk w' g t cs := (hf.same g hX h.lt).trans h
theorem RunC.below {X : Nat → Prop} {w w' : World} {lo g : Nat} {sy st : Int} {A : Option Addr} {n k : Nat} {c : Conf} (h : RunC X w lo g sy st A n k c) (z : Below w.heap.size w w') : RunC X w' lo g sy st A n k c := by
  obtain ⟨L, cl, R, d, hr, ol, or_, hap, hXl, hXr⟩ := h
  exact ⟨L, cl, R, d, Blk.below' hr z, ol.below z, or_.below z, hap, hXl, hXr⟩
theorem keeps_below {w w' : World} (z : Below w.heap.size w w') : KeepsBook w w' := ⟨z.size, fun k _ hk _ => (z.block k (Array.getElem?_eq_some_iff.1 hk).1).trans hk⟩
-- a turn of a block that holds no cells
theorem put_cells {W : World} {l b : Nat} {o o' : Obj} {cur : Array Value} {t : TypeId} {f : Nat × Nat} (hl : W.heap[l]? = some o) (ho : isBook o = true) (hb : W.heap[b]? = some (.cells cur t f)) : (W.putObj l o').heap[b]? = some (.cells cur t f) := by
  refine (World.putObj_heap_other ?_).trans hb
  rintro rfl
  rw [hb] at hl; cases hl; cases ho
theorem Blk.put {W : World} {l g : Nat} {o : Obj} {t : TypeId} {cs : Array Value} (h : Blk W g t cs) (o' : Obj) (hl : W.heap[l]? = some o) (ho : isBook o = true) : Blk (W.putObj l o') g t cs := put_cells hl ho h
theorem Own.put {W : World} {l : Nat} {o : Obj} {A : Option Addr} {n c s lo : Nat} {e : TypeId} {cs : List Value} (h : Own W lo e s A n c cs) (o' : Obj) (hl : W.heap[l]? = some o) (ho : isBook o = true) : Own (W.putObj l o') lo e s A n c cs := by
  rcases h.2 with ⟨rfl, h1, h2⟩ | ⟨b, off, cur, rfl, h1, hg, h2⟩
  · exact ⟨h.1, .inl ⟨rfl, h1, h2⟩⟩
  · exact ⟨h.1, .inr ⟨b, off, cur, rfl, h1, put_cells hl ho hg, h2⟩⟩
theorem RunC.put {X : Nat → Prop} {W : World} {l lo g : Nat} {sy st : Int} {A : Option Addr} {n k : Nat} {c : Conf} {o : Obj} (h : RunC X W lo g sy st A n k c) (o' : Obj) (hl : W.heap[l]? = some o) (ho : isBook o = true) : RunC X (W.putObj l o') lo g sy st A n k c := by
  obtain ⟨L, cl, R, d, hr, ol, or_, hap, hXl, hXr⟩ := h
  exact ⟨L, cl, R, d, Blk.put hr o' hl ho, ol.put o' hl ho, or_.put o' hl ho, hap, hXl, hXr⟩
theorem below_put {W w : World} {B l : Nat} {o : Obj} (h : Below B w W) (hB : B ≤ l) (o' : Obj) (hl : W.heap[l]? = some o) : Below B w (W.putObj l o') :=
  h.trans ((Below.refl B W).grown (grownBy_putObj' W l o') (by have := (Array.getElem?_eq_some_iff.1 hl).1; omega) (fun k e => by cases e; omega))
theorem fr_put {X : Nat → Prop} {W : World} {l : Nat} {o : Obj} (o' : Obj) (hX : ∀ b, X b → ∃ o : Obj, W.heap[b]? = some o ∧ isBook o = false) (hl : W.heap[l]? = some o) (ho : isBook o = true) : Fr X W (W.putObj l o') :=
  ⟨by simp, fun b hb _ => World.putObj_heap_other (by rintro rfl; obtain ⟨o2, h2, h3⟩ := hX _ hb; rw [hl] at h2; cases h2; rw [ho] at h3; cases h3)⟩
end Go.Proofs.Ytpnkelmmfcmijaa
