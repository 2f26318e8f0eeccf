/-
  Contract of the reference's l05Step.
-/
import Derived.Test.YtdlojbabnelbdaaGreatDoorPkdFindCycle0
import Derived.Test.YtdlojbabnelbdaaGreatDoorPkdFindCycle1
import Derived.Test.YtdlojbabnelbdaaGreatDoorPkdFindCycle3
import Derived.Lib.Itoa
import Derived.Lib.ItoaNum
import Derived.Lib.SlBytesRow
import Derived.Deep.DeepCutAuto
import Derived.Test.YtdlojbabnelbdaaGreatDoorShelf
import Derived.Lib.LaidTab
import Derived.Lib.Join
namespace Go.Proofs.YtdlojbabnelbdaaGreatDoor
open Go.RowKit

def SpecConf (w : World) (r : Conf) (v : Bool) (e : Ending) (w' : World) : Prop :=
  ∃ L c R d, e = .returned (.tuple #[.agg #[.int .i64 r.q, .slice L r.xs.length c, .slice R r.ys.length d], .bool v]) ∧ Own w' w.heap.size 2 1 L r.xs.length c (ints r.xs) ∧ Own w' w.heap.size 2 1 R r.ys.length d (ints r.ys) ∧ (∀ b, blk L = some b → blk R ≠ some b) ∧ Below w.heap.size w w'

def stepS (r : R3) (xs ys : List Int) : Conf :=
  ⟨r.c, if 0 < r.b then trimI (r.a :: xs) else xs.tail, if 0 < r.b then ys.tail else trimI (xs.headD 0 :: trimI (r.a :: ys.tail))⟩

theorem room_eq {xs ys : List Int} {a b : Nat} (h : xs.length = a) (h' : ys.length = b) : roomB xs ys = (decide ((a : Int) ≤ 200) && decide ((b : Int) ≤ 200)) := by
  unfold roomB; subst h; subst h'
  congr 1 <;> (rw [decide_eq_decide]; omega)
theorem trim_len (xs : List Int) : (trimI xs).length ≤ xs.length := by
  unfold trimI; rw [List.length_reverse]
  have := (List.dropWhile_sublist (fun x : Int => x == 0) (l := xs.reverse)).length_le
  simpa using this
theorem trim_good {xs : List Int} (h : xs = [] ∨ lastI xs ≠ 0) : trimI xs = xs := by
  rcases List.eq_nil_or_concat xs with rfl | ⟨l, a, rfl⟩
  · rfl
  · rcases h with h | h
    · simp at h
    · have h' : a ≠ 0 := by simpa [lastI] using h
      have := trim_snoc l (x := a) (by simpa using h')
      simpa using this
theorem trim_push {xs : List Int} (h : xs = [] ∨ lastI xs ≠ 0) (x : Int) : trimI (x :: xs) = (pushI xs.reverse x).reverse := by
  unfold pushI
  by_cases hx : xs = []
  · subst hx
    by_cases h0 : x = 0
    · subst h0; rfl
    · simp [h0]
      exact trim_good (xs := [x]) (.inr (by simpa [lastI] using h0))
  · have h1 : lastI xs ≠ 0 := by rcases h with h | h; exact absurd h hx; exact h
    have h2 : lastI (x :: xs) = lastI xs := by unfold lastI; cases xs with | nil => exact absurd rfl hx | cons y ys => simp
    rw [trim_good (.inr (by rw [h2]; exact h1)), if_neg (by simp [hx])]
    simp
theorem good_tail {xs : List Int} (h : xs = [] ∨ lastI xs ≠ 0) : xs.tail = [] ∨ lastI xs.tail ≠ 0 := by
  cases xs with
  | nil => exact .inl rfl
  | cons x l =>
    cases l with
    | nil => exact .inl rfl
    | cons y l =>
      right
      rcases h with h | h
      · simp at h
      · unfold lastI at h ⊢; simpa using h
theorem good_push {xs : List Int} (h : xs = [] ∨ lastI xs ≠ 0) (x : Int) : (pushI xs.reverse x).reverse = [] ∨ lastI (pushI xs.reverse x).reverse ≠ 0 := by
  unfold pushI
  by_cases hx : xs = []
  · subst hx
    by_cases h0 : x = 0
    · subst h0; exact .inl rfl
    · right; simp [h0, lastI]
  · right
    have h1 : lastI xs ≠ 0 := by rcases h with h | h; exact absurd h hx; exact h
    have h2 : lastI (x :: xs) = lastI xs := by unfold lastI; cases xs with | nil => exact absurd rfl hx | cons y ys => simp
    rw [if_neg (by simp [hx])]
    simp
    rw [h2]; exact h1
theorem rev_dropLast (ys : List Int) : ys.reverse.dropLast.reverse = ys.tail := by cases ys <;> simp
theorem stepS_eq {r : R3} {xs ys : List Int} (hx : xs = [] ∨ lastI xs ≠ 0) (hy : ys = [] ∨ lastI ys ≠ 0) : stepS r xs ys = stepC r xs ys := by
  unfold stepS stepC stepL stepR
  by_cases h : 0 < r.b
  · rw [if_pos h, if_pos h, if_pos h, if_pos h, trim_push hx, rev_dropLast]
  · rw [if_neg h, if_neg h, if_neg h, if_neg h, rev_dropLast, trim_push (good_tail hy), trim_push (good_push (good_tail hy) _), List.reverse_reverse, ← lastI_reverse]
    have : ys.tail.reverse = ys.reverse.dropLast := by rw [← rev_dropLast ys, List.reverse_reverse]
    rw [this]

set_option maxHeartbeats 2000000 in
theorem l05Step_any (g : Nat) (sy st : Int) (A : Option Addr) (n k : Nat) (rs : List R3) (f : Nat) (q : Int) (B : Option Addr) (m c : Nat) (xs : List Int) (C : Option Addr) (l d : Nat) (ys : List Int) (idx : Nat) (r : R3) (w : World) (hm : MachAt w g sy st A n k) (hrs : S3 w A n rs) (hc : ConfAt w f q B m c C l d) (hx : SI w B m xs) (hy : SI w C l ys) (hml : m ≤ 1000000) (hl : l ≤ 1000000) (hmc : m ≤ c) (hld : l ≤ d)
    (h1 : 0 ≤ q * sy) (h2 : q * sy ≤ 1000000) (h3 : 0 ≤ lastI ys.reverse) (h4 : lastI ys.reverse ≤ 1000000) (hidx : Hid (atI sy q ys.reverse = (idx : Int))) (hlt : idx < n) (hri : Hid (rs[idx]? = some r)) (_hn : n ≤ 1048576) :
    Calls Tryz.prog 39 #[.pointer (some ⟨g, 0, none⟩), .pointer (some ⟨f, 0, none⟩)] w (SpecConf w (stepS r xs ys) (roomC (stepS r xs ys))) := by
  obtain ⟨W, hW⟩ : ∃ W, W = w.alloc (.cells #[.int .i64 0, .slice none 0 0, .slice none 0 0] 57) := ⟨_, rfl⟩
  have b0 : Blk W w.heap.size 57 #[.int .i64 0, .slice none 0 0, .slice none 0 0] := by rw [hW]; exact Blk.new w _ _
  have y0 : Below w.heap.size w W := by rw [hW]; exact (Below.refl _ _).alloc (Nat.le_refl _) _
  have hs0 : W.heap.size = w.heap.size + 1 := by rw [hW]; simp
  have HW := Lib.hid hW
  have HS0 := Lib.hid hs0
  clear hW
  have hM := hm.below y0
  have hM' := hM
  obtain ⟨q0, q1, q2⟩ := hM'
  obtain ⟨r', b, off, hr', _, rfl, hbl, p0, p1, p2⟩ := (hrs.below y0).pick hlt
  obtain rfl : r = r' := by have e1 := hri.out; have e2 := hr'.out; rw [e1] at e2; simpa using e2
  have i1 : (0 : Int) ≤ (idx : Int) := by omega
  have i2 : (idx : Int) < (n : Int) := by omega
  have hgw := hM.lt
  have n1 : ¬ g = w.heap.size + 1 := by omega
  have n2 : ¬ b = w.heap.size + 1 := by omega
  have yA : Below W.heap.size W (W.alloc (.cells #[.int .i64 0, .int .i64 0, .int .i64 0] 78)) := (Below.refl _ _).alloc (Nat.le_refl _) _
  have MA := hM.below yA
  have a0 := (yA.cell (p := ⟨b, off + idx * 3, none⟩) hbl).trans p0
  have a1 := (yA.cell (p := ⟨b, off + idx * 3 + 1, none⟩) hbl).trans p1
  have a2 := (yA.cell (p := ⟨b, off + idx * 3 + 2, none⟩) hbl).trans p2
  have CA := (hc.below y0).below yA
  have YA := (hy.below y0).below yA
  go_enter Tryz.func39, Tryz.ntmps39
  go_upto_region 1 with fail
  rw [← HW.out]
  go_cut [6] (fun s6 wx => s6 = .pointer (some ⟨w.heap.size + 1, 0, none⟩) ∧ Blk wx (w.heap.size + 1) 78 #[.int .i64 r.a, .int .i64 r.b, .int .i64 r.c] ∧ Below W.heap.size W wx)
  case first =>
    go_region_held3 (fun w' => w'.cell? ⟨g, 2, none⟩ = some (.slice (some ⟨b, off, none⟩) n k) ∧ w'.cell? ⟨b, off + idx * 3, none⟩ = some (.int .i64 r.a) ∧ w'.cell? ⟨b, off + idx * 3 + 1, none⟩ = some (.int .i64 r.b) ∧ w'.cell? ⟨b, off + idx * 3 + 2, none⟩ = some (.int .i64 r.c))
      (first
        | (go_keep; done)
        | (exact ⟨far_set n1 (far_set n1 (far_set n1 MA.2.2)), far_set n2 (far_set n2 (far_set n2 a0)), far_set n2 (far_set n2 (far_set n2 a1)), far_set n2 (far_set n2 (far_set n2 a2))⟩)
        | (exact ⟨MA.2.2, a0, a1, a2⟩)
        | (exact ⟨far_set n1 (far_set n1 (far_set n1 q2)), far_set n2 (far_set n2 (far_set n2 p0)), far_set n2 (far_set n2 (far_set n2 p1)), far_set n2 (far_set n2 (far_set n2 p2))⟩))
      (first
        | (go_at_call 58; refine (l05At_any _ _ _ _ _ _ _ _ _ _ _ _ _ _ ys _ (by first | exact hM.drewN _ | exact MA.drewN _) (by first | exact (hc.below y0).drewN _ | exact CA.drewN _) (by first | exact (hy.below y0).drewN _ | exact YA.drewN _) (by omega) h1 h2 h3 h4).mono ?_; rintro e w' ⟨rfl, nq, rfl⟩; rw [hidx.out]))
    all_goals
      go_wp2_with fail
      go_meet
      first
        | exact ⟨rfl, (by rw [← HS0.out]; exact Blk.new (W.drewN _) _ _), (below_drewN (Below.refl _ _) _).alloc (Nat.le_refl _) _⟩
        | exact ⟨rfl, conf_set (by rw [← HS0.out]; exact (Blk.new W _ _).drewN _) _ _ _, conf_below (below_drewN ((Below.refl _ _).alloc (Nat.le_refl _) _) _) (by rw [HS0.out]; exact Nat.le_refl _) _ _ _⟩
  case rest =>
    obtain ⟨rfl, bx, y1⟩ := hcut
    obtain ⟨wb, hwb⟩ : ∃ wb, wb = wc := ⟨_, rfl⟩
    subst hwb
    have hWc : w.heap.size + 1 < wb.heap.size := bx.lt
    have yc : Below w.heap.size w wb := y0.trans (y1.mono y0.size)
    have e0 : wb.cell? ⟨w.heap.size + 1, 0, none⟩ = some (.int .i64 r.a) := bx.cell 0
    have e1 : wb.cell? ⟨w.heap.size + 1, 1, none⟩ = some (.int .i64 r.b) := bx.cell 1
    have e2 : wb.cell? ⟨w.heap.size + 1, 2, none⟩ = some (.int .i64 r.c) := bx.cell 2
    clear q0 q1 q2 p0 p1 p2 a0 a1 a2 MA CA YA yA hs0
    have hCc := hc.below yc
    have hCc' := hCc
    obtain ⟨o0, o1, o2⟩ := hCc'
    obtain ⟨wd, hwd⟩ : ∃ wd, wd = wb.alloc (.cells #[.int .i64 r.c, .slice none 0 0, .slice none 0 0] 57) := ⟨_, rfl⟩
    have bn : Blk wd wb.heap.size 57 #[.int .i64 r.c, .slice none 0 0, .slice none 0 0] := by rw [hwd]; exact Blk.new wb _ _
    have yd1 : Below wb.heap.size wb wd := by rw [hwd]; exact (Below.refl _ _).alloc (Nat.le_refl _) _
    have HWD := Lib.hid hwd
    clear hwd
    have yd : Below w.heap.size w wd := yc.trans (yd1.mono yc.size)
    have bxd := bx.below' yd1
    have hCd := hc.below yd
    have o0' := hCd.1
    have o1' := hCd.2.1
    have o2' := hCd.2.2
    have hwcd : wb.heap.size < wd.heap.size := bn.lt
    go_upto_region 3 with fail
    rw [← HWD.out]
    clear o0 o1 o2 e0 e1 e2
    have b0d : Blk wd w.heap.size 57 #[.int .i64 0, .slice none 0 0, .slice none 0 0] := (b0.below' y1).below' yd1
    go_wp2_with fail
    refine (l05Rest_any _ _ _ ys _ (hy.below yd) (by omega) hld).mono ?_
    rintro e we ⟨R1, d1, rfl, oR, ye1⟩
    have ye : Below w.heap.size w we := yd.trans (ye1.mono yd.size)
    have bne := bn.below' ye1
    have bxe := bxd.below' ye1
    have b0e := b0d.below' ye1
    have hCe := hc.below ye
    have o0 := hCe.1
    have o1 := hCe.2.1
    have o2 := hCe.2.2
    have e0 : we.cell? ⟨w.heap.size + 1, 0, none⟩ = some (.int .i64 r.a) := bxe.cell 0
    have e1 : we.cell? ⟨w.heap.size + 1, 1, none⟩ = some (.int .i64 r.b) := bxe.cell 1
    have e2 : we.cell? ⟨w.heap.size + 1, 2, none⟩ = some (.int .i64 r.c) := bxe.cell 2
    have m0 : we.cell? ⟨wb.heap.size, 0, none⟩ = some (.int .i64 r.c) := bne.cell 0
    have m1 : we.cell? ⟨wb.heap.size, 1, none⟩ = some (.slice none 0 0) := bne.cell 1
    have m2 : we.cell? ⟨wb.heap.size, 2, none⟩ = some (.slice none 0 0) := bne.cell 2
    have fz1 := bne.frozen 1
    have fz2 := bne.frozen 2
    clear o0' o1' o2'
    have hwde : wd.heap.size ≤ we.heap.size := ye1.size
    have hfw := hc.lt
    have hRl : ys.tail.length ≤ 1000000 := by rw [List.length_tail]; have := hy.len; omega
    have HRL := Lib.hid hRl
    clear hRl
    by_cases hb : 0 < r.b
    · have hb1 : (0 : Int) < r.b := hb
      have SS : Hid (stepS r xs ys = ⟨r.c, trimI (r.a :: xs), ys.tail⟩) := by show _ = _; unfold stepS; rw [if_pos hb, if_pos hb]
      have HTL : Hid (ys.tail.length = ys.length - 1) := by show _ = _; simp
      go_upto_region 5 with fail
      go_cut [] (fun wx => ∃ L2 c2, Blk wx wb.heap.size 57 #[.int .i64 r.c, .slice L2 (trimI (r.a :: xs)).length c2, .slice none 0 0] ∧ Own wx we.heap.size 2 1 L2 (trimI (r.a :: xs)).length c2 (ints (trimI (r.a :: xs))) ∧ Own wx wd.heap.size 2 1 R1 ys.tail.length d1 (ints ys.tail) ∧ Blk wx w.heap.size 57 #[.int .i64 0, .slice none 0 0, .slice none 0 0] ∧ Below w.heap.size w wx)
      case first =>
        go_region_law
          ((go_simp; first
            | (go_at_call 60; refine (l05Push_any _ _ _ _ xs _ ((hx.below ye).drewN _) (by omega)).mono ?_; rintro e w4 ⟨L2, c2, rfl, oL, y4'⟩; have y4 : Below we.heap.size we w4 := below_undrew y4'
               have f0 : w4.cell? ⟨wb.heap.size, 1, none⟩ = some (.slice none 0 0) := (bne.below' y4).cell 1
               have f1 := (bne.below' y4).frozen 1)))
        all_goals
          go_wp2_with fail
          go_meet
          have oL' : Own w4 we.heap.size 2 1 L2 (trimI (r.a :: xs)).length c2 (ints (trimI (r.a :: xs))) := oL
          refine ⟨L2, c2, Blk.set_ (bne.below' y4) 1 _, oL'.far (p := ⟨wb.heap.size, 1, none⟩) (fun e => by have h : we.heap.size ≤ wb.heap.size := oL'.blk_ge _ e; omega) _, (oR.below y4).far (p := ⟨wb.heap.size, 1, none⟩) (fun e => by have h : wd.heap.size ≤ wb.heap.size := oR.blk_ge _ e; omega) _, (b0e.below' y4).far (p := ⟨wb.heap.size, 1, none⟩) (by show ¬ w.heap.size = wb.heap.size; omega) _, (ye.trans (y4.mono ye.size)).setCell (p := ⟨wb.heap.size, 1, none⟩) (by show w.heap.size ≤ wb.heap.size; omega) _⟩
      case rest =>
        obtain ⟨L2, c2, bm, oL, oR2, b0f, yf⟩ := hcut
        have g2' : wc.cell? ⟨wb.heap.size, 2, none⟩ = some (.slice none 0 0) := bm.cell 2
        have gf2 := bm.frozen 2
        clear o0 o1 o2 e0 e1 e2 m0 m1 m2 fz1 fz2
        go_upto_region 12 with fail
        have bz : Blk (wc.setCell ⟨wb.heap.size, 2, none⟩ (.slice R1 (ys.length - 1) d1)) wb.heap.size 57 #[.int .i64 r.c, .slice L2 (trimI (r.a :: xs)).length c2, .slice R1 (ys.length - 1) d1] := Blk.set_ bm 2 _
        have b0z : Blk (wc.setCell ⟨wb.heap.size, 2, none⟩ (.slice R1 (ys.length - 1) d1)) w.heap.size 57 #[.int .i64 0, .slice none 0 0, .slice none 0 0] := b0f.far (p := ⟨wb.heap.size, 2, none⟩) (by show ¬ w.heap.size = wb.heap.size; omega) _
        have oLz : Own (wc.setCell ⟨wb.heap.size, 2, none⟩ (.slice R1 (ys.length - 1) d1)) we.heap.size 2 1 L2 (trimI (r.a :: xs)).length c2 (ints (trimI (r.a :: xs))) := oL.far (p := ⟨wb.heap.size, 2, none⟩) (fun e => by have h : we.heap.size ≤ wb.heap.size := oL.blk_ge _ e; omega) _
        have oRz : Own (wc.setCell ⟨wb.heap.size, 2, none⟩ (.slice R1 (ys.length - 1) d1)) wd.heap.size 2 1 R1 ys.tail.length d1 (ints ys.tail) := oR2.far (p := ⟨wb.heap.size, 2, none⟩) (fun e => by have h : wd.heap.size ≤ wb.heap.size := oR2.blk_ge _ e; omega) _
        have yz : Below w.heap.size w (wc.setCell ⟨wb.heap.size, 2, none⟩ (.slice R1 (ys.length - 1) d1)) := yf.setCell (p := ⟨wb.heap.size, 2, none⟩) (by show w.heap.size ≤ wb.heap.size; omega) _
        have HAPZ : Hid (∀ b, blk L2 = some b → blk R1 ≠ some b) := fun b h5 h6 => by
          have h7 := oL.blk_ge b h5
          have h8 := oR.blk_lt b h6
          omega
        clear g2' gf2
        generalize wc.setCell ⟨wb.heap.size, 2, none⟩ (.slice R1 (ys.length - 1) d1) = wz at *
        have z0 : wz.cell? ⟨wb.heap.size, 0, none⟩ = some (.int .i64 r.c) := bz.cell 0
        have z1 : wz.cell? ⟨wb.heap.size, 1, none⟩ = some (.slice L2 (trimI (r.a :: xs)).length c2) := bz.cell 1
        have z2 : wz.cell? ⟨wb.heap.size, 2, none⟩ = some (.slice R1 (ys.length - 1) d1) := bz.cell 2
        have x0 : wz.cell? ⟨w.heap.size, 0, none⟩ = some (.int .i64 0) := b0z.cell 0
        have x1 : wz.cell? ⟨w.heap.size, 1, none⟩ = some (.slice none 0 0) := b0z.cell 1
        have x2 : wz.cell? ⟨w.heap.size, 2, none⟩ = some (.slice none 0 0) := b0z.cell 2
        have zf0 := b0z.frozen 0
        have zf1 := b0z.frozen 1
        have zf2 := b0z.frozen 2
        have nw : ¬ wb.heap.size = w.heap.size := by omega
        have HP := Lib.hid (show roomC (stepS r xs ys) = (decide ((((trimI (r.a :: xs)).length : Nat) : Int) ≤ 200) && decide ((((ys.length - 1) : Nat) : Int) ≤ 200)) by rw [SS.out]; exact room_eq (by simp) (by simp))
        cases v1 : decide ((((trimI (r.a :: xs)).length : Nat) : Int) ≤ 200)
        all_goals cases v2 : decide ((((ys.length - 1) : Nat) : Int) ≤ 200)
        all_goals
          have V1 := Lib.hid v1
          have V2 := Lib.hid v2
          go_region
          go_wp2_with fail
          have dd := conf_set b0z (.int .i64 r.c) (.slice L2 (trimI (r.a :: xs)).length c2) (.slice R1 (ys.length - 1) d1)
          refine bodyPost_ret (v := .tuple #[.agg #[.int .i64 r.c, .slice L2 (trimI (r.a :: xs)).length c2, .slice R1 (ys.length - 1) d1], .bool (roomC (stepS r xs ys))]) (by rw [HP.out, V1.out, V2.out]; simp [results, Tryz.results39, go_sem, dd.cell 0, dd.cell 1, dd.cell 2]) rfl ?_
          rw [SS.out]
          refine ⟨L2, c2, R1, d1, by simp, (conf_far oLz (by omega) _ _ _).mono (by omega), (conf_far oRz (by omega) _ _ _).mono (by omega), HAPZ.out, below_drewN (conf_below yz (Nat.le_refl _) _ _ _) 1⟩
    · have hb1 : ¬ (0 : Int) < r.b := hb
      have HTL : Hid (ys.tail.length = ys.length - 1) := by show _ = _; simp
      have siR : SI we R1 (ys.length - 1) ys.tail := by have h := oR.rd; rw [HTL.out] at h; exact h
      have HXL := Lib.hid hx.len
      by_cases hm0 : m = 0
      · have hx0 : xs.headD 0 = 0 := by
          have : xs = [] := List.eq_nil_of_length_eq_zero (by rw [HXL.out]; exact hm0)
          rw [this]; rfl
        have SS : Hid (stepS r xs ys = ⟨r.c, xs.tail, trimI (0 :: trimI (r.a :: ys.tail))⟩) := by show _ = _; unfold stepS; rw [if_neg hb, if_neg hb, hx0]
        clear hx0
        subst hm0
        go_wp2_with fail
        refine (l05Push_any _ _ _ _ ys.tail _ siR (by have := HRL.out; rw [HTL.out] at this; omega)).mono ?_
        rintro e w4 ⟨R2, d2, rfl, oR2, y4⟩
        go_wp2_with fail
        refine (l05Push_any _ _ _ _ (trimI (r.a :: ys.tail)) _ oR2.rd (by have h := trim_len (r.a :: ys.tail); rw [List.length_cons] at h; have := HRL.out; omega)).mono ?_
        rintro e w5 ⟨R3, d3, rfl, oR3, y5⟩
        have y45 : Below we.heap.size we w5 := y4.trans (y5.mono y4.size)
        have yw5 : Below w.heap.size w w5 := ye.trans (y45.mono ye.size)
        have s4 : we.heap.size ≤ w4.heap.size := y4.size
        have s5 : w4.heap.size ≤ w5.heap.size := y5.size
        have bn5 := bne.below' y45
        have k2 : w5.cell? ⟨wb.heap.size, 2, none⟩ = some (.slice none 0 0) := bn5.cell 2
        have kf2 := bn5.frozen 2
        have ko1 : w5.cell? ⟨f, 1, none⟩ = some (.slice B 0 c) := (hc.below yw5).2.1
        have nf : ¬ f = wb.heap.size := by omega
        clear o0 o1 o2 e0 e1 e2 m0 m1 m2 fz1 fz2
        go_wp2_with fail
        have yv : Below w.heap.size w (w5.setCell ⟨wb.heap.size, 2, none⟩ (.slice R3 (trimI (0 :: trimI (r.a :: ys.tail))).length d3)) := yw5.setCell (p := ⟨wb.heap.size, 2, none⟩) (by show w.heap.size ≤ wb.heap.size; omega) _
        have bv : Blk (w5.setCell ⟨wb.heap.size, 2, none⟩ (.slice R3 (trimI (0 :: trimI (r.a :: ys.tail))).length d3)) wb.heap.size 57 #[.int .i64 r.c, .slice none 0 0, .slice R3 (trimI (0 :: trimI (r.a :: ys.tail))).length d3] := Blk.set_ bn5 2 _
        have b0v : Blk (w5.setCell ⟨wb.heap.size, 2, none⟩ (.slice R3 (trimI (0 :: trimI (r.a :: ys.tail))).length d3)) w.heap.size 57 #[.int .i64 0, .slice none 0 0, .slice none 0 0] := (b0e.below' y45).far (p := ⟨wb.heap.size, 2, none⟩) (by show ¬ w.heap.size = wb.heap.size; omega) _
        have oRv : Own (w5.setCell ⟨wb.heap.size, 2, none⟩ (.slice R3 (trimI (0 :: trimI (r.a :: ys.tail))).length d3)) w4.heap.size 2 1 R3 (trimI (0 :: trimI (r.a :: ys.tail))).length d3 (ints (trimI (0 :: trimI (r.a :: ys.tail)))) := oR3.far (p := ⟨wb.heap.size, 2, none⟩) (fun e => by have h : w4.heap.size ≤ wb.heap.size := oR3.blk_ge _ e; omega) _
        have xv : SI (w5.setCell ⟨wb.heap.size, 2, none⟩ (.slice R3 (trimI (0 :: trimI (r.a :: ys.tail))).length d3)) B 0 xs := hx.below yv
        generalize w5.setCell ⟨wb.heap.size, 2, none⟩ (.slice R3 (trimI (0 :: trimI (r.a :: ys.tail))).length d3) = wv at *
        refine (l05Rest_any _ _ _ xs _ xv (by omega) hmc).mono ?_
        rintro e w6 ⟨L6, c6, rfl, oL6, y6⟩
        have hwv := oRv.blk_lt
        have bm := bv.below' y6
        have b0f := b0v.below' y6
        have oR6 := oRv.below y6
        have k1 : w6.cell? ⟨wb.heap.size, 1, none⟩ = some (.slice none 0 0) := bm.cell 1
        have kf1 := bm.frozen 1
        have yf : Below w.heap.size w w6 := yv.trans (y6.mono yv.size)
        have sv := bv.lt
        go_upto_region 12 with fail
        have bz : Blk (w6.setCell ⟨wb.heap.size, 1, none⟩ (.slice L6 (xs.length - 1) c6)) wb.heap.size 57 #[.int .i64 r.c, .slice L6 (xs.length - 1) c6, .slice R3 (trimI (0 :: trimI (r.a :: ys.tail))).length d3] := Blk.set_ bm 1 _
        have b0z : Blk (w6.setCell ⟨wb.heap.size, 1, none⟩ (.slice L6 (xs.length - 1) c6)) w.heap.size 57 #[.int .i64 0, .slice none 0 0, .slice none 0 0] := b0f.far (p := ⟨wb.heap.size, 1, none⟩) (by show ¬ w.heap.size = wb.heap.size; omega) _
        have oLz : Own (w6.setCell ⟨wb.heap.size, 1, none⟩ (.slice L6 (xs.length - 1) c6)) wv.heap.size 2 1 L6 xs.tail.length c6 (ints xs.tail) := oL6.far (p := ⟨wb.heap.size, 1, none⟩) (fun e => by have h : wv.heap.size ≤ wb.heap.size := oL6.blk_ge _ e; omega) _
        have oRz : Own (w6.setCell ⟨wb.heap.size, 1, none⟩ (.slice L6 (xs.length - 1) c6)) w4.heap.size 2 1 R3 (trimI (0 :: trimI (r.a :: ys.tail))).length d3 (ints (trimI (0 :: trimI (r.a :: ys.tail)))) := oR6.far (p := ⟨wb.heap.size, 1, none⟩) (fun e => by have h : w4.heap.size ≤ wb.heap.size := oR6.blk_ge _ e; omega) _
        have yz : Below w.heap.size w (w6.setCell ⟨wb.heap.size, 1, none⟩ (.slice L6 (xs.length - 1) c6)) := yf.setCell (p := ⟨wb.heap.size, 1, none⟩) (by show w.heap.size ≤ wb.heap.size; omega) _
        have HAPZ : Hid (∀ b, blk L6 = some b → blk R3 ≠ some b) := fun b h5 h6 => by
          have h7 := oL6.blk_ge b h5
          have h8 := hwv b h6
          omega
        clear k1 kf1 k2 kf2 ko1 hwv
        generalize w6.setCell ⟨wb.heap.size, 1, none⟩ (.slice L6 (xs.length - 1) c6) = wz at *
        have z0 : wz.cell? ⟨wb.heap.size, 0, none⟩ = some (.int .i64 r.c) := bz.cell 0
        have z1 : wz.cell? ⟨wb.heap.size, 1, none⟩ = some (.slice L6 (xs.length - 1) c6) := bz.cell 1
        have z2 : wz.cell? ⟨wb.heap.size, 2, none⟩ = some (.slice R3 (trimI (0 :: trimI (r.a :: ys.tail))).length d3) := bz.cell 2
        have x0 : wz.cell? ⟨w.heap.size, 0, none⟩ = some (.int .i64 0) := b0z.cell 0
        have x1 : wz.cell? ⟨w.heap.size, 1, none⟩ = some (.slice none 0 0) := b0z.cell 1
        have x2 : wz.cell? ⟨w.heap.size, 2, none⟩ = some (.slice none 0 0) := b0z.cell 2
        have zf0 := b0z.frozen 0
        have zf1 := b0z.frozen 1
        have zf2 := b0z.frozen 2
        have nw : ¬ wb.heap.size = w.heap.size := by omega
        have HP := Lib.hid (show roomC (stepS r xs ys) = (decide ((((xs.length - 1) : Nat) : Int) ≤ 200) && decide ((((trimI (0 :: trimI (r.a :: ys.tail))).length : Nat) : Int) ≤ 200)) by rw [SS.out]; exact room_eq (by simp) (by simp))
        cases v1 : decide ((((xs.length - 1) : Nat) : Int) ≤ 200)
        all_goals cases v2 : decide ((((trimI (0 :: trimI (r.a :: ys.tail))).length : Nat) : Int) ≤ 200)
        all_goals
          have V1 := Lib.hid v1
          have V2 := Lib.hid v2
          go_region
          go_wp2_with fail
          have dd := conf_set b0z (.int .i64 r.c) (.slice L6 (xs.length - 1) c6) (.slice R3 (trimI (0 :: trimI (r.a :: ys.tail))).length d3)
          refine bodyPost_ret (v := .tuple #[.agg #[.int .i64 r.c, .slice L6 (xs.length - 1) c6, .slice R3 (trimI (0 :: trimI (r.a :: ys.tail))).length d3], .bool (roomC (stepS r xs ys))]) (by rw [HP.out, V1.out, V2.out]; simp [results, Tryz.results39, go_sem, dd.cell 0, dd.cell 1, dd.cell 2]) rfl ?_
          rw [SS.out]
          refine ⟨L6, c6, R3, d3, by simp, (conf_far oLz (by omega) _ _ _).mono (by omega), (conf_far oRz (by omega) _ _ _).mono (by omega), HAPZ.out, below_drewN (conf_below yz (Nat.le_refl _) _ _ _) 1⟩
      · obtain ⟨b', off', rfl, _, hc0⟩ := (hx.below ye).at0 (by omega)
        obtain ⟨h0, hh0⟩ : ∃ h0, h0 = xs.headD 0 := ⟨_, rfl⟩
        rw [← hh0] at hc0
        have SS : Hid (stepS r xs ys = ⟨r.c, xs.tail, trimI (h0 :: trimI (r.a :: ys.tail))⟩) := by show _ = _; unfold stepS; rw [if_neg hb, if_neg hb, hh0]
        clear hh0
        have i3 : (0 : Int) < (m : Int) := by omega
        go_wp2_with fail
        refine (l05Push_any _ _ _ _ ys.tail _ siR (by have := HRL.out; rw [HTL.out] at this; omega)).mono ?_
        rintro e w4 ⟨R2, d2, rfl, oR2, y4⟩
        go_wp2_with fail
        refine (l05Push_any _ _ _ _ (trimI (r.a :: ys.tail)) _ oR2.rd (by have h := trim_len (r.a :: ys.tail); rw [List.length_cons] at h; have := HRL.out; omega)).mono ?_
        rintro e w5 ⟨R3, d3, rfl, oR3, y5⟩
        have y45 : Below we.heap.size we w5 := y4.trans (y5.mono y4.size)
        have yw5 : Below w.heap.size w w5 := ye.trans (y45.mono ye.size)
        have s4 : we.heap.size ≤ w4.heap.size := y4.size
        have s5 : w4.heap.size ≤ w5.heap.size := y5.size
        have bn5 := bne.below' y45
        have k2 : w5.cell? ⟨wb.heap.size, 2, none⟩ = some (.slice none 0 0) := bn5.cell 2
        have kf2 := bn5.frozen 2
        have ko1 : w5.cell? ⟨f, 1, none⟩ = some (.slice (some ⟨b', off', none⟩) m c) := (hc.below yw5).2.1
        have nf : ¬ f = wb.heap.size := by omega
        clear o0 o1 o2 e0 e1 e2 m0 m1 m2 fz1 fz2
        go_wp2_with fail
        have yv : Below w.heap.size w (w5.setCell ⟨wb.heap.size, 2, none⟩ (.slice R3 (trimI (h0 :: trimI (r.a :: ys.tail))).length d3)) := yw5.setCell (p := ⟨wb.heap.size, 2, none⟩) (by show w.heap.size ≤ wb.heap.size; omega) _
        have bv : Blk (w5.setCell ⟨wb.heap.size, 2, none⟩ (.slice R3 (trimI (h0 :: trimI (r.a :: ys.tail))).length d3)) wb.heap.size 57 #[.int .i64 r.c, .slice none 0 0, .slice R3 (trimI (h0 :: trimI (r.a :: ys.tail))).length d3] := Blk.set_ bn5 2 _
        have b0v : Blk (w5.setCell ⟨wb.heap.size, 2, none⟩ (.slice R3 (trimI (h0 :: trimI (r.a :: ys.tail))).length d3)) w.heap.size 57 #[.int .i64 0, .slice none 0 0, .slice none 0 0] := (b0e.below' y45).far (p := ⟨wb.heap.size, 2, none⟩) (by show ¬ w.heap.size = wb.heap.size; omega) _
        have oRv : Own (w5.setCell ⟨wb.heap.size, 2, none⟩ (.slice R3 (trimI (h0 :: trimI (r.a :: ys.tail))).length d3)) w4.heap.size 2 1 R3 (trimI (h0 :: trimI (r.a :: ys.tail))).length d3 (ints (trimI (h0 :: trimI (r.a :: ys.tail)))) := oR3.far (p := ⟨wb.heap.size, 2, none⟩) (fun e => by have h : w4.heap.size ≤ wb.heap.size := oR3.blk_ge _ e; omega) _
        have xv : SI (w5.setCell ⟨wb.heap.size, 2, none⟩ (.slice R3 (trimI (h0 :: trimI (r.a :: ys.tail))).length d3)) (some ⟨b', off', none⟩) m xs := hx.below yv
        generalize w5.setCell ⟨wb.heap.size, 2, none⟩ (.slice R3 (trimI (h0 :: trimI (r.a :: ys.tail))).length d3) = wv at *
        refine (l05Rest_any _ _ _ xs _ xv (by omega) hmc).mono ?_
        rintro e w6 ⟨L6, c6, rfl, oL6, y6⟩
        have hwv := oRv.blk_lt
        have bm := bv.below' y6
        have b0f := b0v.below' y6
        have oR6 := oRv.below y6
        have k1 : w6.cell? ⟨wb.heap.size, 1, none⟩ = some (.slice none 0 0) := bm.cell 1
        have kf1 := bm.frozen 1
        have yf : Below w.heap.size w w6 := yv.trans (y6.mono yv.size)
        have sv := bv.lt
        go_upto_region 12 with fail
        have bz : Blk (w6.setCell ⟨wb.heap.size, 1, none⟩ (.slice L6 (xs.length - 1) c6)) wb.heap.size 57 #[.int .i64 r.c, .slice L6 (xs.length - 1) c6, .slice R3 (trimI (h0 :: trimI (r.a :: ys.tail))).length d3] := Blk.set_ bm 1 _
        have b0z : Blk (w6.setCell ⟨wb.heap.size, 1, none⟩ (.slice L6 (xs.length - 1) c6)) w.heap.size 57 #[.int .i64 0, .slice none 0 0, .slice none 0 0] := b0f.far (p := ⟨wb.heap.size, 1, none⟩) (by show ¬ w.heap.size = wb.heap.size; omega) _
        have oLz : Own (w6.setCell ⟨wb.heap.size, 1, none⟩ (.slice L6 (xs.length - 1) c6)) wv.heap.size 2 1 L6 xs.tail.length c6 (ints xs.tail) := oL6.far (p := ⟨wb.heap.size, 1, none⟩) (fun e => by have h : wv.heap.size ≤ wb.heap.size := oL6.blk_ge _ e; omega) _
        have oRz : Own (w6.setCell ⟨wb.heap.size, 1, none⟩ (.slice L6 (xs.length - 1) c6)) w4.heap.size 2 1 R3 (trimI (h0 :: trimI (r.a :: ys.tail))).length d3 (ints (trimI (h0 :: trimI (r.a :: ys.tail)))) := oR6.far (p := ⟨wb.heap.size, 1, none⟩) (fun e => by have h : w4.heap.size ≤ wb.heap.size := oR6.blk_ge _ e; omega) _
        have yz : Below w.heap.size w (w6.setCell ⟨wb.heap.size, 1, none⟩ (.slice L6 (xs.length - 1) c6)) := yf.setCell (p := ⟨wb.heap.size, 1, none⟩) (by show w.heap.size ≤ wb.heap.size; omega) _
        have HAPZ : Hid (∀ b, blk L6 = some b → blk R3 ≠ some b) := fun b h5 h6 => by
          have h7 := oL6.blk_ge b h5
          have h8 := hwv b h6
          omega
        clear k1 kf1 k2 kf2 ko1 hwv
        generalize w6.setCell ⟨wb.heap.size, 1, none⟩ (.slice L6 (xs.length - 1) c6) = wz at *
        have z0 : wz.cell? ⟨wb.heap.size, 0, none⟩ = some (.int .i64 r.c) := bz.cell 0
        have z1 : wz.cell? ⟨wb.heap.size, 1, none⟩ = some (.slice L6 (xs.length - 1) c6) := bz.cell 1
        have z2 : wz.cell? ⟨wb.heap.size, 2, none⟩ = some (.slice R3 (trimI (h0 :: trimI (r.a :: ys.tail))).length d3) := bz.cell 2
        have x0 : wz.cell? ⟨w.heap.size, 0, none⟩ = some (.int .i64 0) := b0z.cell 0
        have x1 : wz.cell? ⟨w.heap.size, 1, none⟩ = some (.slice none 0 0) := b0z.cell 1
        have x2 : wz.cell? ⟨w.heap.size, 2, none⟩ = some (.slice none 0 0) := b0z.cell 2
        have zf0 := b0z.frozen 0
        have zf1 := b0z.frozen 1
        have zf2 := b0z.frozen 2
        have nw : ¬ wb.heap.size = w.heap.size := by omega
        have HP := Lib.hid (show roomC (stepS r xs ys) = (decide ((((xs.length - 1) : Nat) : Int) ≤ 200) && decide ((((trimI (h0 :: trimI (r.a :: ys.tail))).length : Nat) : Int) ≤ 200)) by rw [SS.out]; exact room_eq (by simp) (by simp))
        cases v1 : decide ((((xs.length - 1) : Nat) : Int) ≤ 200)
        all_goals cases v2 : decide ((((trimI (h0 :: trimI (r.a :: ys.tail))).length : Nat) : Int) ≤ 200)
        all_goals
          have V1 := Lib.hid v1
          have V2 := Lib.hid v2
          go_region
          go_wp2_with fail
          have dd := conf_set b0z (.int .i64 r.c) (.slice L6 (xs.length - 1) c6) (.slice R3 (trimI (h0 :: trimI (r.a :: ys.tail))).length d3)
          refine bodyPost_ret (v := .tuple #[.agg #[.int .i64 r.c, .slice L6 (xs.length - 1) c6, .slice R3 (trimI (h0 :: trimI (r.a :: ys.tail))).length d3], .bool (roomC (stepS r xs ys))]) (by rw [HP.out, V1.out, V2.out]; simp [results, Tryz.results39, go_sem, dd.cell 0, dd.cell 1, dd.cell 2]) rfl ?_
          rw [SS.out]
          refine ⟨L6, c6, R3, d3, by simp, (conf_far oLz (by omega) _ _ _).mono (by omega), (conf_far oRz (by omega) _ _ _).mono (by omega), HAPZ.out, below_drewN (conf_below yz (Nat.le_refl _) _ _ _) 1⟩
end Go.Proofs.YtdlojbabnelbdaaGreatDoor

/-
  Contract of the reference's StepMachine.
-/
namespace Go.Proofs.YtdlojbabnelbdaaGreatDoor
open Go.RowKit

theorem conf_good {sy st : Int} {rs : List R3} {q : Int} {xs ys : List Int} (h : validConfB sy st rs q xs ys = true) : (xs = [] ∨ lastI xs ≠ 0) ∧ (ys = [] ∨ lastI ys ≠ 0) := by
  unfold validConfB at h
  simp only [Bool.and_eq_true] at h
  have hc := h.2
  unfold confB sideB at hc
  simp only [Bool.and_eq_true, Bool.or_eq_true, decide_eq_true_eq, bne_iff_ne, ne_eq] at hc
  exact ⟨hc.1.2.2, hc.2.2⟩

end Go.Proofs.YtdlojbabnelbdaaGreatDoor

/-
  Runs of a machine, in plain words: the i-th configuration, runs that are alive, their ends.
-/
namespace Go.Proofs.YtdlojbabnelbdaaGreatDoor
open Go.RowKit

def haltC (sy : Int) (rs : List R3) (c : Conf) : Bool := !isRuleB (ruleOf sy rs c.q c.ys)
def nextC (sy : Int) (rs : List R3) (c : Conf) : Conf := stepC (ruleOf sy rs c.q c.ys) c.xs c.ys
def itC (sy : Int) (rs : List R3) (c : Conf) : Nat → Conf
  | 0 => c
  | i + 1 => nextC sy rs (itC sy rs c i)
def goodC (sy st : Int) (rs : List R3) (c : Conf) : Prop := validConfB sy st rs c.q c.xs c.ys = true

theorem side_push {sy : Int} {xs : List Int} {x : Int} (hx : ∀ y ∈ xs, 0 ≤ y ∧ y ≤ sy - 1) (h : 0 ≤ x ∧ x ≤ sy - 1) : ∀ y ∈ pushI xs x, 0 ≤ y ∧ y ≤ sy - 1 := by
  unfold pushI
  split
  · exact hx
  · intro y hy
    rcases List.mem_append.1 hy with h1 | h1
    · exact hx y h1
    · rw [List.mem_singleton.1 h1]; exact h
theorem side_of {sy : Int} {xs : List Int} (hl : xs.length ≤ 200) (hx : ∀ y ∈ xs, 0 ≤ y ∧ y ≤ sy - 1) (hg : xs = [] ∨ lastI xs ≠ 0) : sideB xs sy 200 = true := by
  unfold sideB allIn
  simp only [Bool.and_eq_true, decide_eq_true_eq, List.all_eq_true, inB_iff, Bool.or_eq_true, bne_iff_ne, ne_eq]
  exact ⟨⟨by omega, hx⟩, hg⟩
theorem goodC_next {sy st : Int} {rs : List R3} {c : Conf} (h : goodC sy st rs c) (hh : haltC sy rs c = false) (hr : roomC (nextC sy rs c) = true) : goodC sy st rs (nextC sy rs c) := by
  obtain ⟨h1, h2, h3, h4, hn, h5, h6, hx2, hy2, hxm, hym, hrs⟩ := conf_parts h
  obtain ⟨gx, gy⟩ := conf_good h
  have hv : machB sy st rs = true := by unfold goodC validConfB at h; simp only [Bool.and_eq_true] at h; exact h.1
  obtain ⟨_, _, _, _, idx, hidx, hlt⟩ := at_parts (ys := c.ys.reverse) h1 h2 h3 h4 hn h5 h6 (fun y hy => hym y (List.mem_reverse.1 hy))
  have hget := ruleOf_get (rs := rs) (ys := c.ys) hidx hlt
  have hval := hrs _ (List.mem_of_getElem? hget)
  have hru : isRuleB (ruleOf sy rs c.q c.ys) = true := by unfold haltC at hh; simpa using hh
  unfold nextC at hr ⊢
  revert hr hval hru
  generalize ruleOf sy rs c.q c.ys = r
  intro hr hval hru
  unfold validRuleB at hval
  rw [hru] at hval
  simp only [Bool.not_true, Bool.false_or, Bool.and_eq_true, inB_iff] at hval
  obtain ⟨⟨ha, hb⟩, hc⟩ := hval
  unfold roomC roomB at hr
  simp only [Bool.and_eq_true, decide_eq_true_eq] at hr
  have hl0 : 0 ≤ lastI c.xs.reverse ∧ lastI c.xs.reverse ≤ sy - 1 := by
    rcases lastI_mem (xs := c.xs.reverse) with h0 | h0
    · rw [h0]; omega
    · exact hxm _ (List.mem_reverse.1 h0)
  have hxr : ∀ y ∈ c.xs.reverse, 0 ≤ y ∧ y ≤ sy - 1 := fun y hy => hxm y (List.mem_reverse.1 hy)
  have hyr : ∀ y ∈ c.ys.reverse, 0 ≤ y ∧ y ≤ sy - 1 := fun y hy => hym y (List.mem_reverse.1 hy)
  have hyd : ∀ y ∈ c.ys.reverse.dropLast, 0 ≤ y ∧ y ≤ sy - 1 := fun y hy => hyr y (List.dropLast_subset _ hy)
  have hxd : ∀ y ∈ c.xs.reverse.dropLast, 0 ≤ y ∧ y ≤ sy - 1 := fun y hy => hxr y (List.dropLast_subset _ hy)
  have hL : ∀ y ∈ (stepL r c.xs.reverse).reverse, 0 ≤ y ∧ y ≤ sy - 1 := by
    intro y hy
    rw [List.mem_reverse] at hy
    unfold stepL at hy
    split at hy
    · exact side_push hxr ha y hy
    · exact hxd y hy
  have hR : ∀ y ∈ (stepR r c.xs.reverse c.ys.reverse).reverse, 0 ≤ y ∧ y ≤ sy - 1 := by
    intro y hy
    rw [List.mem_reverse] at hy
    unfold stepR at hy
    split at hy
    · exact hyd y hy
    · exact side_push (side_push hyd ha) hl0 y hy
  have hgL : (stepL r c.xs.reverse).reverse = [] ∨ lastI (stepL r c.xs.reverse).reverse ≠ 0 := by
    unfold stepL
    split
    · exact good_push gx _
    · rw [rev_dropLast]; exact good_tail gx
  have hgR : (stepR r c.xs.reverse c.ys.reverse).reverse = [] ∨ lastI (stepR r c.xs.reverse c.ys.reverse).reverse ≠ 0 := by
    unfold stepR
    split
    · rw [rev_dropLast]; exact good_tail gy
    · have g1 := good_tail gy
      have e1 : c.ys.reverse.dropLast = c.ys.tail.reverse := by rw [← rev_dropLast, List.reverse_reverse]
      rw [e1]
      have g2 := good_push g1 r.a
      have e2 : pushI c.ys.tail.reverse r.a = (pushI c.ys.tail.reverse r.a).reverse.reverse := by rw [List.reverse_reverse]
      rw [e2]
      exact good_push g2 _
  unfold goodC validConfB confB
  simp only [Bool.and_eq_true, inB_iff]
  exact ⟨hv, ⟨⟨hc.1, hc.2⟩, side_of hr.1 hL hgL⟩, side_of hr.2 hR hgR⟩

/-- The run makes i steps. -/
def Alive (sy : Int) (rs : List R3) (c : Conf) (i : Nat) : Prop := ∀ j, j < i → haltC sy rs (itC sy rs c j) = false ∧ roomC (itC sy rs c (j + 1)) = true
theorem Alive.zero (sy : Int) (rs : List R3) (c : Conf) : Alive sy rs c 0 := fun j h => absurd h (Nat.not_lt_zero j)
theorem Alive.next {sy : Int} {rs : List R3} {c : Conf} {i : Nat} (h : Alive sy rs c i) (h1 : haltC sy rs (itC sy rs c i) = false) (h2 : roomC (itC sy rs c (i + 1)) = true) : Alive sy rs c (i + 1) := fun j hj => by
  by_cases e : j = i
  · subst e; exact ⟨h1, h2⟩
  · exact h j (by omega)
theorem Alive.good {sy st : Int} {rs : List R3} {c : Conf} {i : Nat} (h : Alive sy rs c i) (hc : goodC sy st rs c) : goodC sy st rs (itC sy rs c i) := by
  induction i with
  | zero => exact hc
  | succ i ih => exact goodC_next (ih (fun j hj => h j (by omega))) (h i (by omega)).1 (h i (by omega)).2
/-- The run ends behind i of at most N steps. -/
def Ended (sy : Int) (rs : List R3) (c : Conf) (N i : Nat) : Prop := i ≤ N ∧ Alive sy rs c i ∧ (i = N ∨ haltC sy rs (itC sy rs c i) = true)
/-- The run has no room for the step behind i steps. -/
def Full (sy : Int) (rs : List R3) (c : Conf) (N i : Nat) : Prop := i < N ∧ Alive sy rs c i ∧ haltC sy rs (itC sy rs c i) = false ∧ roomC (itC sy rs c (i + 1)) = false

/-- What a run comes to: the number of steps, or none without room. -/
def runN (sy : Int) (rs : List R3) : Nat → Conf → Option Nat
  | 0, _ => some 0
  | N + 1, c => if haltC sy rs c then some 0 else if roomC (nextC sy rs c) then (runN sy rs N (nextC sy rs c)).map (· + 1) else none
theorem itC_shift (sy : Int) (rs : List R3) (c : Conf) (i : Nat) : itC sy rs (nextC sy rs c) i = itC sy rs c (i + 1) := by
  induction i with
  | zero => rfl
  | succ i ih => show nextC sy rs (itC sy rs (nextC sy rs c) i) = nextC sy rs (itC sy rs c (i + 1)); rw [ih]
theorem Alive.shift {sy : Int} {rs : List R3} {c : Conf} {i : Nat} (h : Alive sy rs c (i + 1)) : Alive sy rs (nextC sy rs c) i := fun j hj => by
  rw [itC_shift, itC_shift]; exact h (j + 1) (by omega)
theorem runN_ended {sy : Int} {rs : List R3} : ∀ {N : Nat} {c : Conf} {i : Nat}, Ended sy rs c N i → runN sy rs N c = some i := by
  intro N
  induction N with
  | zero => rintro c i ⟨h1, _, _⟩; obtain rfl : i = 0 := by omega
            rfl
  | succ N ih =>
    rintro c i ⟨h1, h2, h3⟩
    cases i with
    | zero =>
      rcases h3 with h3 | h3
      · omega
      · unfold runN; rw [if_pos (show haltC sy rs c = true from h3)]
    | succ i =>
      have h0 := h2 0 (by omega)
      unfold runN
      rw [if_neg (by rw [show haltC sy rs c = false from h0.1]; simp), if_pos (show roomC (nextC sy rs c) = true from h0.2), ih (i := i) ⟨by omega, h2.shift, ?_⟩]
      · rfl
      · rcases h3 with h3 | h3
        · left; omega
        · right; rw [itC_shift]; exact h3
theorem runN_full {sy : Int} {rs : List R3} : ∀ {N : Nat} {c : Conf} {i : Nat}, Full sy rs c N i → runN sy rs N c = none := by
  intro N
  induction N with
  | zero => rintro c i ⟨h1, _⟩; omega
  | succ N ih =>
    rintro c i ⟨h1, h2, h3, h4⟩
    cases i with
    | zero =>
      unfold runN
      rw [if_neg (by rw [show haltC sy rs c = false from h3]; simp), if_neg (by rw [show roomC (nextC sy rs c) = false from h4]; simp)]
    | succ i =>
      have h0 := h2 0 (by omega)
      unfold runN
      rw [if_neg (by rw [show haltC sy rs c = false from h0.1]; simp), if_pos (show roomC (nextC sy rs c) = true from h0.2), ih (i := i) ⟨by omega, h2.shift, by rw [itC_shift]; exact h3, by rw [itC_shift]; exact h4⟩]
      rfl
end Go.Proofs.YtdlojbabnelbdaaGreatDoor

/-
  When a sequence that a step makes comes again: the first repetition, and what Brent's search finds. In plain words.
-/
namespace Go.Proofs.YtdlojbabnelbdaaGreatDoor

instance : DecidableEq Conf := fun a b => decidable_of_iff (a.q = b.q ∧ a.xs = b.xs ∧ a.ys = b.ys) ⟨fun ⟨h1, h2, h3⟩ => by cases a; cases b; simp only at h1 h2 h3; rw [h1, h2, h3], fun h => by rw [h]; exact ⟨rfl, rfl, rfl⟩⟩
section
variable {α : Type} {f : Nat → α} {g : α → α}
theorem rep_add (hs : ∀ n, f (n + 1) = g (f n)) {a b : Nat} (h : f a = f b) : ∀ k, f (a + k) = f (b + k) := by
  intro k
  induction k with
  | zero => exact h
  | succ k ih => rw [← Nat.add_assoc, ← Nat.add_assoc, hs, hs, ih]
theorem rep_all (hs : ∀ n, f (n + 1) = g (f n)) {j i : Nat} (hji : j < i) (he : f j = f i) (n : Nat) : ∃ m, m < i ∧ f n = f m := by
  induction n using Nat.strongRecOn with
  | ind n ih =>
    by_cases h : n < i
    · exact ⟨n, h, rfl⟩
    · have h2 := rep_add hs he (n - i)
      rw [show i + (n - i) = n by omega] at h2
      obtain ⟨m, hm, h3⟩ := ih (j + (n - i)) (by omega)
      exact ⟨m, hm, by rw [← h2, h3]⟩
/-- Every repetition stands behind the start, and is as long as some rounds. -/
theorem rep_key (hs : ∀ n, f (n + 1) = g (f n)) {L s st : Nat} (hL : 0 < L) (h1 : f s = f (s + L)) (h2 : ∀ d, 0 < d → d < L → f s ≠ f (s + d)) (h4 : ∀ j, j < st → f j ≠ f (j + L)) {j n : Nat} (hj : j < n) (he : f j = f n) : st ≤ j ∧ L ≤ n - j := by
  obtain ⟨p, hp⟩ : ∃ p, p = n - j := ⟨_, rfl⟩
  have hp0 : 0 < p := by omega
  have he2 : f j = f (j + p) := by rw [hp, show j + (n - j) = n by omega]; exact he
  have per : ∀ k, f (j + k) = f (j + k + p) := fun k => by
    have := rep_add hs he2 k
    rw [this]; congr 1; omega
  have perq : ∀ k q, f (j + k) = f (j + k + q * p) := by
    intro k q
    induction q with
    | zero => simp
    | succ q ih =>
      rw [ih]
      have := per (k + q * p)
      rw [show j + (k + q * p) = j + k + q * p by omega, show j + k + q * p + p = j + k + (q + 1) * p by rw [Nat.add_mul]; omega] at this
      exact this
  have perL : ∀ k, f (s + k) = f (s + k + L) := fun k => by
    have := rep_add hs h1 k
    rw [this]; congr 1; omega
  have perLq : ∀ k q, f (s + k) = f (s + k + q * L) := by
    intro k q
    induction q with
    | zero => simp
    | succ q ih =>
      rw [ih]
      have := perL (k + q * L)
      rw [show s + (k + q * L) = s + k + q * L by omega, show s + k + q * L + L = s + k + (q + 1) * L by rw [Nat.add_mul]; omega] at this
      exact this
  have hsp : f s = f (s + p) := by
    have hjL : j ≤ j * L := Nat.le_mul_of_pos_right _ hL
    have a1 := perLq 0 j
    have a2 := perLq p j
    have a3 := per (s + j * L - j)
    rw [show j + (s + j * L - j) = s + j * L by omega] at a3
    rw [show s + 0 = s from rfl] at a1
    rw [a2, show s + p + j * L = s + j * L + p by omega, ← a3, ← a1]
  have hr : p % L = 0 := by
    have a1 := perLq (p % L) (p / L)
    rw [show s + p % L + p / L * L = s + p by have := Nat.div_add_mod p L; rw [Nat.mul_comm] at this; omega] at a1
    have hlt := Nat.mod_lt p hL
    rcases Nat.eq_zero_or_pos (p % L) with h | h
    · exact h
    · exact absurd (hsp.trans a1.symm) (h2 _ h hlt)
  have hLp : L ≤ p := Nat.le_of_dvd hp0 (Nat.dvd_of_mod_eq_zero hr)
  refine ⟨?_, by omega⟩
  have hjj : f j = f (j + L) := by
    have hsp2 : s ≤ s * p := Nat.le_mul_of_pos_right _ hp0
    have a1 := perq 0 s
    have a2 := perq L s
    have a3 := perL (j + s * p - s)
    rw [show s + (j + s * p - s) = j + s * p by omega] at a3
    rw [show j + 0 = j from rfl] at a1
    rw [a1, a2, a3]; congr 1; omega
  apply Nat.le_of_not_lt
  intro hlt
  exact h4 j hlt hjj
theorem rep_never (hs : ∀ n, f (n + 1) = g (f n)) {t n N : Nat} (h1 : t = 0 ∨ ∃ u, t = 2 * u + 1 ∧ ∀ m, u < m → m ≤ t → f u ≠ f m) (h3 : 4 * N + 4 ≤ n) (h4 : n ≤ 2 * t + 1) : ∀ j i, j < i → i ≤ N → f j ≠ f i := by
  intro j i hj hi he
  rcases h1 with rfl | ⟨u, rfl, hu⟩
  · omega
  · have h := rep_add hs he (u - j)
    rw [show j + (u - j) = u by omega] at h
    exact hu _ (by omega) (by omega) h
end
section
variable {α : Type} [DecidableEq α] {f : Nat → α} {g : α → α}
/-- The first place ahead of n where the same stood. -/
def prevT (f : Nat → α) (n : Nat) : Option Nat := (List.range n).find? (fun j => decide (f j = f n))
theorem prevT_some {n j : Nat} (h : prevT f n = some j) : j < n ∧ f j = f n := by
  unfold prevT at h
  refine ⟨List.mem_range.1 (List.mem_of_find?_eq_some h), ?_⟩
  have h2 := List.find?_some h
  simpa using h2
theorem prevT_none {n : Nat} (h : prevT f n = none) : ∀ j, j < n → f j ≠ f n := by
  intro j hj
  unfold prevT at h
  rw [List.find?_eq_none] at h
  have h2 := h j (List.mem_range.2 hj)
  simpa using h2
/-- The first repetition ahead of k. -/
def firstTo (f : Nat → α) : Nat → Option (Nat × Nat)
  | 0 => none
  | k + 1 => (firstTo f k).or ((prevT f k).map fun j => (j, k - j))
theorem firstTo_none {k : Nat} (h : ∀ n, n < k → prevT f n = none) : firstTo f k = none := by
  induction k with
  | zero => rfl
  | succ k ih => rw [firstTo, ih (fun n hn => h n (by omega)), h k (by omega)]; rfl
theorem firstTo_mono {k k' : Nat} {x : Nat × Nat} (h : firstTo f k = some x) (hk : k ≤ k') : firstTo f k' = some x := by
  induction k' with
  | zero => obtain rfl : k = 0 := (by omega); exact h
  | succ k' ih =>
    by_cases e : k = k' + 1
    · rw [← e]; exact h
    · rw [firstTo, ih (by omega)]; rfl
theorem firstTo_next {k j : Nat} (h : firstTo f k = none) (hp : prevT f k = some j) : firstTo f (k + 1) = some (j, k - j) := by rw [firstTo, h, hp]; rfl
theorem firstTo_skip {k : Nat} (h : firstTo f k = none) (hp : prevT f k = none) : firstTo f (k + 1) = none := by rw [firstTo, h, hp]; rfl
theorem firstTo_all {k : Nat} (h : firstTo f k = none) : ∀ n, n < k → prevT f n = none := by
  induction k with
  | zero => intro n hn; omega
  | succ k ih =>
    intro n hn
    rw [firstTo] at h
    cases h1 : firstTo f k with
    | some x => rw [h1] at h; cases h
    | none =>
      rw [h1] at h
      by_cases e : n = k
      · subst e
        cases h2 : prevT f n with
        | none => rfl
        | some j => rw [h2] at h; cases h
      · exact ih h1 n (by omega)
theorem rep_first (hs : ∀ n, f (n + 1) = g (f n)) {L s st N : Nat} (hL : 0 < L) (h1 : f s = f (s + L)) (h2 : ∀ d, 0 < d → d < L → f s ≠ f (s + d)) (h3 : f st = f (st + L)) (h4 : ∀ j, j < st → f j ≠ f (j + L)) :
    firstTo f (N + 1) = if st + L ≤ N then some (st, L) else none := by
  have key := fun {j n : Nat} (hj : j < n) (he : f j = f n) => rep_key hs hL h1 h2 h4 hj he
  have none_ : ∀ n, n < st + L → prevT f n = none := by
    intro n hn
    cases h : prevT f n with
    | none => rfl
    | some j =>
      obtain ⟨a1, a2⟩ := prevT_some h
      obtain ⟨a3, a4⟩ := key a1 a2
      omega
  split
  · next hle =>
    refine firstTo_mono (k := st + L + 1) ?_ (by omega)
    have hp : prevT f (st + L) = some st := by
      cases h : prevT f (st + L) with
      | none => exact absurd h3 (prevT_none h st (by omega))
      | some j =>
        obtain ⟨a1, a2⟩ := prevT_some h
        obtain ⟨a3, a4⟩ := key a1 a2
        congr 1; omega
    rw [firstTo_next (firstTo_none none_) hp]
    congr 2; omega
  · exact firstTo_none (fun n hn => none_ n (by omega))
end
end Go.Proofs.YtdlojbabnelbdaaGreatDoor

/-
  The reference's decimal form (l01Dec) of a number that is not negative.
-/
namespace Go.Proofs.YtdlojbabnelbdaaGreatDoor
open Go.RowKit

theorem elB : Elem Tryz.prog 103 5 1 1 (.int .u8 0) := ⟨Tryz.underlying103, by kernel_rfl, rfl, by decide⟩
/-- Bytes as cells. -/
def bys (l : List UInt8) : List Value := l.map fun b => Value.int .u8 b.toNat
theorem length_bys (l : List UInt8) : (bys l).length = l.length := by simp [bys]
theorem bys_append (a b : List UInt8) : bys a ++ bys b = bys (a ++ b) := by simp [bys]
theorem bys_one (l : List UInt8) : ∀ u ∈ bys l, u.oneCell' = true := by
  intro u hu
  obtain ⟨b, _, rfl⟩ := List.mem_map.1 hu
  rfl
/-- The digits of a number, the last one first. -/
def revDigs (u : Nat) : List UInt8 := (Lib.decDigits u).reverse
theorem revDigs_small {u : Nat} (h : u < 10) : revDigs u = [UInt8.ofNat (48 + u)] := by
  unfold revDigs; rw [Lib.decDigits, dif_pos h]; rfl
theorem revDigs_big {u : Nat} (h : ¬ u < 10) : revDigs u = UInt8.ofNat (48 + u % 10) :: revDigs (u / 10) := by
  unfold revDigs; rw [Lib.decDigits, dif_neg h]; simp
/-- What stands before the digits of m where u is read. -/
def DigTo (u m : Nat) (l : List UInt8) : Prop := if m = 0 then l = revDigs u else l ++ revDigs m = revDigs u
theorem DigTo.start {u : Nat} (h : u ≠ 0) : DigTo u u [] := by unfold DigTo; rw [if_neg h]; rfl
theorem DigTo.next {u m : Nat} {l : List UInt8} (h : DigTo u m l) (hm : m ≠ 0) : DigTo u (m / 10) (l ++ [UInt8.ofNat (48 + m % 10)]) := by
  unfold DigTo at h ⊢
  rw [if_neg hm] at h
  by_cases h1 : m < 10
  · rw [if_pos (by omega), ← h, revDigs_small h1, show m % 10 = m from by omega]
  · rw [if_neg (by omega), ← h, revDigs_big h1, List.append_assoc]; rfl
theorem DigTo.len {u m : Nat} {l : List UInt8} (h : DigTo u m l) : l.length ≤ (revDigs u).length := by
  unfold DigTo at h
  split at h
  · rw [h]; exact Nat.le_refl _
  · rw [← h]; simp
theorem nDigits_le : ∀ (k u : Nat), u < 10 ^ (k + 1) → Lib.nDigits u ≤ k + 1 := by
  intro k
  induction k with
  | zero => intro u h; rw [Lib.nDigits_small (by simpa using h)]; exact Nat.le_refl _
  | succ k ih =>
    intro u h
    by_cases h1 : u < 10
    · rw [Lib.nDigits_small h1]; omega
    · rw [Lib.nDigits_big h1]
      have := ih (u / 10) (by rw [Nat.pow_succ] at h; omega)
      omega
theorem revDigs_len (u : Nat) (h : u < 10 ^ 19) : (revDigs u).length ≤ 19 := by
  unfold revDigs
  rw [List.length_reverse, Lib.decDigits_length]
  exact nDigits_le 18 u h
theorem bytes_of {w : World} {n b off : Nat} {out : List UInt8} (h : Rd w 1 (some ⟨b, off, none⟩) n (bys out)) : Lib.Bytes w b off ⟨out.toArray⟩ := by
  intro i hi
  have hi' : i < out.length := by
    have h2 : (⟨out.toArray⟩ : ByteArray).size = out.length := by simp [ByteArray.size]
    omega
  obtain ⟨b1, o1, e, _, hc⟩ := h.at_ (k := i) (by rw [length_bys]; exact hi')
  simp only [Option.some.injEq, Addr.mk.injEq, and_true] at e
  obtain ⟨rfl, rfl⟩ := e
  rw [hc]
  simp [bys]
  rfl
def decS (u : Nat) : ByteArray := ⟨(Lib.decDigits u).toArray⟩
end Go.Proofs.YtdlojbabnelbdaaGreatDoor

/-
  Decimal forms of the program: Decimal, decimals, dotted.
-/
namespace Go.Proofs.YtdlojbabnelbdaaGreatDoor
open Go.RowKit

/-- The library's table of powers. -/
def Tab (w : World) : Prop := Lib.TabIs Tryz.prog w "internal/strconv.uint64pow10" .u64 Lib.pow10Tab
theorem Tab.below {w w' : World} (h : Tab w) (z : Below w.heap.size w w') : Tab w' := by
  unfold Tab Lib.TabIs at h ⊢
  unfold World.var? at h ⊢
  cases hg : Tryz.prog.globalNamed "internal/strconv.uint64pow10" with
  | none => rw [hg] at h; cases h
  | some g =>
    rw [hg] at h
    simp only [Option.bind_some] at h ⊢
    have hlt : g < w.heap.size := by
      refine Nat.lt_of_not_le fun hle => ?_
      rw [Array.getElem?_eq_none hle] at h
      cases h
    rw [z.block g hlt]
    exact h
theorem itoa_dec (u : Nat) : (⟨(Lib.itoa (u : Int)).toArray⟩ : ByteArray) = decS u := by
  unfold decS Lib.itoa
  rw [if_neg (by omega)]
  rfl
set_option maxHeartbeats 1000000 in
theorem decimal_any (u : Nat) (w : World) (hu : u ≤ 1000000000000) (ht : Tab w) :
    Calls Tryz.prog 48 #[.int .i64 (u : Int)] w fun e w' => e = .returned (.string (decS u)) ∧ Below w.heap.size w w' := by
  go_enter Tryz.func48, Tryz.ntmps48
  go_wp2_with (go_at_call 70; refine (Tryz.strconv_FormatInt_10 (u : Int) (by omega) (by omega) w ht).mono ?_; rintro e w' ⟨rfl, k, os, rfl⟩)
  go_ret
  exact ⟨by rw [itoa_dec]; rfl, ⟨rfl, rfl, rfl, by simp [Sort.grow], fun k hk => by simp [Sort.grow, Array.getElem?_append, hk]⟩⟩
def strs (l : List ByteArray) : List Value := l.map Value.string
theorem length_strs (l : List ByteArray) : (strs l).length = l.length := by simp [strs]
/-- Decimal forms of all numbers. -/
def decs (xs : List Int) : List ByteArray := xs.map fun x => decS x.toNat
theorem decs_next {xs : List Int} {k : Nat} {x : Int} (h : xs[k]? = some x) : decs (xs.take (k + 1)) = decs (xs.take k) ++ [decS x.toNat] := by
  unfold decs; rw [List.take_add_one, h]; simp
def joinD (xs : List Int) (sep : ByteArray) : List UInt8 := Lib.join ((decs xs).map (·.data.toList)) sep.data.toList
theorem joinTail_len (sep : List UInt8) (r : List (List UInt8)) (m : Nat) (h : ∀ x ∈ r, x.length ≤ m) : (Lib.joinTail sep r).length ≤ r.length * (sep.length + m) := by
  induction r with
  | nil => simp [Lib.joinTail]
  | cons x r ih =>
    have h1 := h x (by simp)
    have h2 := ih (fun y hy => h y (by simp [hy]))
    have e : Lib.joinTail sep (x :: r) = sep ++ x ++ Lib.joinTail sep r := by simp [Lib.joinTail]
    rw [e, List.length_append, List.length_append, List.length_cons, Nat.succ_mul]
    omega
theorem join_len (sep : List UInt8) (r : List (List UInt8)) (m : Nat) (h : ∀ x ∈ r, x.length ≤ m) : (Lib.join r sep).length ≤ r.length * (sep.length + m) := by
  cases r with
  | nil => simp [Lib.join_nil]
  | cons x r =>
    have h1 := joinTail_len sep r m (fun y hy => h y (by simp [hy]))
    have h2 := h x (by simp)
    rw [Lib.join_cons, List.length_append, List.length_cons, Nat.succ_mul]
    omega
theorem decS_len (u : Nat) (h : u ≤ 1000000000000) : (decS u).data.toList.length ≤ 19 := by
  have h1 := revDigs_len u (Nat.lt_of_le_of_lt h (by decide))
  unfold revDigs at h1
  simpa [decS] using h1
theorem joinD_len (xs : List Int) (sep : ByteArray) (hx : ∀ x ∈ xs, 0 ≤ x ∧ x ≤ 1000000000000) : (joinD xs sep).length ≤ xs.length * (sep.data.toList.length + 19) := by
  have h := join_len sep.data.toList ((decs xs).map (·.data.toList)) 19 (fun y hy => by
    obtain ⟨s, hs, rfl⟩ := List.mem_map.1 hy
    obtain ⟨x, hxm, rfl⟩ := List.mem_map.1 hs
    have := hx x hxm
    exact decS_len _ (by omega))
  rw [List.length_map] at h
  have e : (decs xs).length = xs.length := by simp [decs]
  rw [e] at h
  exact h
end Go.Proofs.YtdlojbabnelbdaaGreatDoor

/-
  All blocks but one are as they were (the same words as in Src, for seats without a source).
-/
namespace Go.Proofs.YtdlojbabnelbdaaGreatDoor
open Go.RowKit

/-- All blocks but b are as they were. -/
structure Kb (b : Nat) (W W' : World) : Prop where
  os : W'.os = W.os
  tape : W'.tape = W.tape
  output : W'.output = W.output
  size : W.heap.size ≤ W'.heap.size
  block : ∀ k, k < W.heap.size → k ≠ b → W'.heap[k]? = W.heap[k]?
section
variable {b : Nat} {a W W' : World}
theorem Kb.refl (b : Nat) (W : World) : Kb b W W := ⟨rfl, rfl, rfl, Nat.le_refl _, fun _ _ _ => rfl⟩
theorem Kb.drewN (h : Kb b a W) (n : Nat) : Kb b a (W.drewN n) := ⟨h.os, h.tape, h.output, h.size, h.block⟩
theorem Kb.alloc (h : Kb b a W) (o : Obj) : Kb b a (W.alloc o) := ⟨h.os, h.tape, h.output, Nat.le_trans h.size (by simp), fun k hk hy => (Below.heap_alloc W o k (by have := h.size; omega)).trans (h.block k hk hy)⟩
theorem Kb.trans (h : Kb b a W) (z : Kb b W W') : Kb b a W' := ⟨z.os.trans h.os, z.tape.trans h.tape, z.output.trans h.output, Nat.le_trans h.size z.size, fun k hk hy => (z.block k (by have := h.size; omega) hy).trans (h.block k hk hy)⟩
theorem Kb.set_ (h : Kb b a W) (o : Nat) (u : Value) : Kb b a (W.setCell ⟨b, o, none⟩ u) :=
  ⟨h.os, h.tape, h.output, by simpa [World.setCell] using h.size, fun k hk hy => (Below.heap_setCell W ⟨b, o, none⟩ u k hy).trans (h.block k hk hy)⟩
theorem Kb.blk_ {x : Nat} {t : TypeId} {cs : Array Value} (k : Kb b W W') (h : Blk W x t cs) (hn : x ≠ b) : Blk W' x t cs := (k.block x h.lt hn).trans h
theorem Kb.below {w : World} (k : Kb b W W') (h : Below w.heap.size w W) (hb : w.heap.size ≤ b) : Below w.heap.size w W' :=
  ⟨k.os.trans h.os, k.tape.trans h.tape, k.output.trans h.output, Nat.le_trans h.size k.size, fun x hx => (k.block x (by have := h.size; omega) (by omega)).trans (h.block x hx)⟩
theorem Kb.own {lo s n c : Nat} {e : TypeId} {A : Option Addr} {xs : List Value} (k : Kb b W W') (h : Own W lo e s A n c xs) (hn : blk A ≠ some b) : Own W' lo e s A n c xs :=
  h.kept fun x hx _ hlt => k.block x hlt (fun e => hn (by rw [← e]; exact hx))
end
theorem Kb.of_below {b : Nat} {w w' : World} (h : Below w.heap.size w w') : Kb b w w' := ⟨h.os, h.tape, h.output, h.size, fun k hk _ => h.block k hk⟩
theorem Kb.grown {b lo s n c : Nat} {a W W' : World} {e : TypeId} {E : Option Addr} {xs : List Value} (h : Kb b a W) (ho : Own W lo e s E n c xs) (hlo : a.heap.size ≤ lo) (hg : W.grownBy W' (blk E)) : Kb b a W' :=
  ⟨hg.os.trans h.os, hg.tape.trans h.tape, hg.output.trans h.output, Nat.le_trans h.size hg.size, fun k hk hy => (hg.block k (by have := h.size; omega) (fun e => by have := ho.blk_ge k e.symm; omega)).trans (h.block k hk hy)⟩
theorem Kb.own' {b lo s n c : Nat} {e : TypeId} {A : Option Addr} {xs : List Value} {W W' : World} (k : Kb b W W') (h : Own W lo e s A n c xs) (hb : b < lo) : Own W' lo e s A n c xs :=
  k.own h fun e => by have := h.blk_ge b e; omega
end Go.Proofs.YtdlojbabnelbdaaGreatDoor
