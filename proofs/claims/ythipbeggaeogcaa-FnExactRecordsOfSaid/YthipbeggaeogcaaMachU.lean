/-
  Contract of the reference's l05Step.
-/
import Derived.Test.YthipbeggaeogcaaMachT
import Derived.Test.YthipbeggaeogcaaMachP
namespace Go.Proofs.Ythipbeggaeogcaa
open Go.RowKit

def SpecConf (w : World) (r : Conf) (v : Bool) (e : Ending) (w' : World) : Prop :=
  ∃ L c R d, e = .returned (.tuple #[.agg #[.int .i64 r.q, .slice L r.xs.length c, .slice R r.ys.length d], .bool v]) ∧ Own w' w.heap.size 2 1 L r.xs.length c (ints r.xs) ∧ Own w' w.heap.size 2 1 R r.ys.length d (ints r.ys) ∧ (∀ b, blk L = some b → blk R ≠ some b) ∧ Below w.heap.size w w'

def stepS (r : R3) (xs ys : List Int) : Conf :=
  ⟨r.c, if 0 < r.b then trimI (r.a :: xs) else xs.tail, if 0 < r.b then ys.tail else trimI (xs.headD 0 :: trimI (r.a :: ys.tail))⟩

theorem room_eq {xs ys : List Int} {a b : Nat} (h : xs.length = a) (h' : ys.length = b) : roomB xs ys = (decide ((a : Int) ≤ 200) && decide ((b : Int) ≤ 200)) := by
  unfold roomB; subst h; subst h'
  congr 1 <;> (rw [decide_eq_decide]; omega)
theorem trim_len (xs : List Int) : (trimI xs).length ≤ xs.length := by
  unfold trimI; rw [List.length_reverse]
  have := (List.dropWhile_sublist (fun x : Int => x == 0) (l := xs.reverse)).length_le
  simpa using this
theorem trim_good {xs : List Int} (h : xs = [] ∨ lastI xs ≠ 0) : trimI xs = xs := by
  rcases List.eq_nil_or_concat xs with rfl | ⟨l, a, rfl⟩
  · rfl
  · rcases h with h | h
    · simp at h
    · have h' : a ≠ 0 := by simpa [lastI] using h
      have := trim_snoc l (x := a) (by simpa using h')
      simpa using this
theorem trim_push {xs : List Int} (h : xs = [] ∨ lastI xs ≠ 0) (x : Int) : trimI (x :: xs) = (pushI xs.reverse x).reverse := by
  unfold pushI
  by_cases hx : xs = []
  · subst hx
    by_cases h0 : x = 0
    · subst h0; rfl
    · simp [h0]
      exact trim_good (xs := [x]) (.inr (by simpa [lastI] using h0))
  · have h1 : lastI xs ≠ 0 := by rcases h with h | h; exact absurd h hx; exact h
    have h2 : lastI (x :: xs) = lastI xs := by unfold lastI; cases xs with | nil => exact absurd rfl hx | cons y ys => simp
    rw [trim_good (.inr (by rw [h2]; exact h1)), if_neg (by simp [hx])]
    simp
theorem good_tail {xs : List Int} (h : xs = [] ∨ lastI xs ≠ 0) : xs.tail = [] ∨ lastI xs.tail ≠ 0 := by
  cases xs with
  | nil => exact .inl rfl
  | cons x l =>
    cases l with
    | nil => exact .inl rfl
    | cons y l =>
      right
      rcases h with h | h
      · simp at h
      · unfold lastI at h ⊢; simpa using h
theorem good_push {xs : List Int} (h : xs = [] ∨ lastI xs ≠ 0) (x : Int) : (pushI xs.reverse x).reverse = [] ∨ lastI (pushI xs.reverse x).reverse ≠ 0 := by
  unfold pushI
  by_cases hx : xs = []
  · subst hx
    by_cases h0 : x = 0
    · subst h0; exact .inl rfl
    · right; simp [h0, lastI]
  · right
    have h1 : lastI xs ≠ 0 := by rcases h with h | h; exact absurd h hx; exact h
    have h2 : lastI (x :: xs) = lastI xs := by unfold lastI; cases xs with | nil => exact absurd rfl hx | cons y ys => simp
    rw [if_neg (by simp [hx])]
    simp
    rw [h2]; exact h1
theorem rev_dropLast (ys : List Int) : ys.reverse.dropLast.reverse = ys.tail := by cases ys <;> simp
theorem stepS_eq {r : R3} {xs ys : List Int} (hx : xs = [] ∨ lastI xs ≠ 0) (hy : ys = [] ∨ lastI ys ≠ 0) : stepS r xs ys = stepC r xs ys := by
  unfold stepS stepC stepL stepR
  by_cases h : 0 < r.b
  · rw [if_pos h, if_pos h, if_pos h, if_pos h, trim_push hx, rev_dropLast]
  · rw [if_neg h, if_neg h, if_neg h, if_neg h, rev_dropLast, trim_push (good_tail hy), trim_push (good_push (good_tail hy) _), List.reverse_reverse, ← lastI_reverse]
    have : ys.tail.reverse = ys.reverse.dropLast := by rw [← rev_dropLast ys, List.reverse_reverse]
    rw [this]

set_option maxHeartbeats 2000000 in
theorem l05Step_any (g : Nat) (sy st : Int) (A : Option Addr) (n k : Nat) (rs : List R3) (f : Nat) (q : Int) (B : Option Addr) (m c : Nat) (xs : List Int) (C : Option Addr) (l d : Nat) (ys : List Int) (idx : Nat) (r : R3) (w : World) (hm : MachAt w g sy st A n k) (hrs : S3 w A n rs) (hc : ConfAt w f q B m c C l d) (hx : SI w B m xs) (hy : SI w C l ys) (hml : m ≤ 1000000) (hl : l ≤ 1000000) (hmc : m ≤ c) (hld : l ≤ d)
    (h1 : 0 ≤ q * sy) (h2 : q * sy ≤ 1000000) (h3 : 0 ≤ lastI ys.reverse) (h4 : lastI ys.reverse ≤ 1000000) (hidx : Hid (atI sy q ys.reverse = (idx : Int))) (hlt : idx < n) (hri : Hid (rs[idx]? = some r)) (_hn : n ≤ 1048576) :
    Calls Try.prog 140 #[.pointer (some ⟨g, 0, none⟩), .pointer (some ⟨f, 0, none⟩)] w (SpecConf w (stepS r xs ys) (roomC (stepS r xs ys))) := by
  obtain ⟨W, hW⟩ : ∃ W, W = w.alloc (.cells #[.int .i64 0, .slice none 0 0, .slice none 0 0] 172) := ⟨_, rfl⟩
  have b0 : Blk W w.heap.size 172 #[.int .i64 0, .slice none 0 0, .slice none 0 0] := by rw [hW]; exact Blk.new w _ _
  have y0 : Below w.heap.size w W := by rw [hW]; exact (Below.refl _ _).alloc (Nat.le_refl _) _
  have hs0 : W.heap.size = w.heap.size + 1 := by rw [hW]; simp
  have HW := Lib.hid hW
  have HS0 := Lib.hid hs0
  clear hW
  have hM := hm.below y0
  have hM' := hM
  obtain ⟨q0, q1, q2⟩ := hM'
  obtain ⟨r', b, off, hr', _, rfl, hbl, p0, p1, p2⟩ := (hrs.below y0).pick hlt
  obtain rfl : r = r' := by have e1 := hri.out; have e2 := hr'.out; rw [e1] at e2; simpa using e2
  have i1 : (0 : Int) ≤ (idx : Int) := by omega
  have i2 : (idx : Int) < (n : Int) := by omega
  have hgw := hM.lt
  have n1 : ¬ g = w.heap.size + 1 := by omega
  have n2 : ¬ b = w.heap.size + 1 := by omega
  have yA : Below W.heap.size W (W.alloc (.cells #[.int .i64 0, .int .i64 0, .int .i64 0] 169)) := (Below.refl _ _).alloc (Nat.le_refl _) _
  have MA := hM.below yA
  have a0 := (yA.cell (p := ⟨b, off + idx * 3, none⟩) hbl).trans p0
  have a1 := (yA.cell (p := ⟨b, off + idx * 3 + 1, none⟩) hbl).trans p1
  have a2 := (yA.cell (p := ⟨b, off + idx * 3 + 2, none⟩) hbl).trans p2
  have CA := (hc.below y0).below yA
  have YA := (hy.below y0).below yA
  go_enter Try.func140, Try.ntmps140
  go_upto_region 1 with fail
  rw [← HW.out]
  go_cut [6] (fun s6 wx => s6 = .pointer (some ⟨w.heap.size + 1, 0, none⟩) ∧ Blk wx (w.heap.size + 1) 169 #[.int .i64 r.a, .int .i64 r.b, .int .i64 r.c] ∧ Below W.heap.size W wx)
  case first =>
    go_region_held3 (fun w' => w'.cell? ⟨g, 2, none⟩ = some (.slice (some ⟨b, off, none⟩) n k) ∧ w'.cell? ⟨b, off + idx * 3, none⟩ = some (.int .i64 r.a) ∧ w'.cell? ⟨b, off + idx * 3 + 1, none⟩ = some (.int .i64 r.b) ∧ w'.cell? ⟨b, off + idx * 3 + 2, none⟩ = some (.int .i64 r.c))
      (first
        | (go_keep; done)
        | (exact ⟨far_set n1 (far_set n1 (far_set n1 MA.2.2)), far_set n2 (far_set n2 (far_set n2 a0)), far_set n2 (far_set n2 (far_set n2 a1)), far_set n2 (far_set n2 (far_set n2 a2))⟩)
        | (exact ⟨MA.2.2, a0, a1, a2⟩)
        | (exact ⟨far_set n1 (far_set n1 (far_set n1 q2)), far_set n2 (far_set n2 (far_set n2 p0)), far_set n2 (far_set n2 (far_set n2 p1)), far_set n2 (far_set n2 (far_set n2 p2))⟩))
      (first
        | (go_at_call 175; refine (l05At_any _ _ _ _ _ _ _ _ _ _ _ _ _ _ ys _ (by first | exact hM.drewN _ | exact MA.drewN _) (by first | exact (hc.below y0).drewN _ | exact CA.drewN _) (by first | exact (hy.below y0).drewN _ | exact YA.drewN _) (by omega) h1 h2 h3 h4).mono ?_; rintro e w' ⟨rfl, nq, rfl⟩; rw [hidx.out]))
    all_goals
      go_wp2_with fail
      go_meet
      first
        | exact ⟨rfl, (by rw [← HS0.out]; exact Blk.new (W.drewN _) _ _), (below_drewN (Below.refl _ _) _).alloc (Nat.le_refl _) _⟩
        | exact ⟨rfl, conf_set (by rw [← HS0.out]; exact (Blk.new W _ _).drewN _) _ _ _, conf_below (below_drewN ((Below.refl _ _).alloc (Nat.le_refl _) _) _) (by rw [HS0.out]; exact Nat.le_refl _) _ _ _⟩
  case rest =>
    obtain ⟨rfl, bx, y1⟩ := hcut
    obtain ⟨wb, hwb⟩ : ∃ wb, wb = wc := ⟨_, rfl⟩
    subst hwb
    have hWc : w.heap.size + 1 < wb.heap.size := bx.lt
    have yc : Below w.heap.size w wb := y0.trans (y1.mono y0.size)
    have e0 : wb.cell? ⟨w.heap.size + 1, 0, none⟩ = some (.int .i64 r.a) := bx.cell 0
    have e1 : wb.cell? ⟨w.heap.size + 1, 1, none⟩ = some (.int .i64 r.b) := bx.cell 1
    have e2 : wb.cell? ⟨w.heap.size + 1, 2, none⟩ = some (.int .i64 r.c) := bx.cell 2
    clear q0 q1 q2 p0 p1 p2 a0 a1 a2 MA CA YA yA hs0
    have hCc := hc.below yc
    have hCc' := hCc
    obtain ⟨o0, o1, o2⟩ := hCc'
    obtain ⟨wd, hwd⟩ : ∃ wd, wd = wb.alloc (.cells #[.int .i64 r.c, .slice none 0 0, .slice none 0 0] 172) := ⟨_, rfl⟩
    have bn : Blk wd wb.heap.size 172 #[.int .i64 r.c, .slice none 0 0, .slice none 0 0] := by rw [hwd]; exact Blk.new wb _ _
    have yd1 : Below wb.heap.size wb wd := by rw [hwd]; exact (Below.refl _ _).alloc (Nat.le_refl _) _
    have HWD := Lib.hid hwd
    clear hwd
    have yd : Below w.heap.size w wd := yc.trans (yd1.mono yc.size)
    have bxd := bx.below' yd1
    have hCd := hc.below yd
    have o0' := hCd.1
    have o1' := hCd.2.1
    have o2' := hCd.2.2
    have hwcd : wb.heap.size < wd.heap.size := bn.lt
    go_upto_region 3 with fail
    rw [← HWD.out]
    clear o0 o1 o2 e0 e1 e2
    have b0d : Blk wd w.heap.size 172 #[.int .i64 0, .slice none 0 0, .slice none 0 0] := (b0.below' y1).below' yd1
    go_wp2_with fail
    refine (l05Rest_any _ _ _ ys _ (hy.below yd) (by omega) hld).mono ?_
    rintro e we ⟨R1, d1, rfl, oR, ye1⟩
    have ye : Below w.heap.size w we := yd.trans (ye1.mono yd.size)
    have bne := bn.below' ye1
    have bxe := bxd.below' ye1
    have b0e := b0d.below' ye1
    have hCe := hc.below ye
    have o0 := hCe.1
    have o1 := hCe.2.1
    have o2 := hCe.2.2
    have e0 : we.cell? ⟨w.heap.size + 1, 0, none⟩ = some (.int .i64 r.a) := bxe.cell 0
    have e1 : we.cell? ⟨w.heap.size + 1, 1, none⟩ = some (.int .i64 r.b) := bxe.cell 1
    have e2 : we.cell? ⟨w.heap.size + 1, 2, none⟩ = some (.int .i64 r.c) := bxe.cell 2
    have m0 : we.cell? ⟨wb.heap.size, 0, none⟩ = some (.int .i64 r.c) := bne.cell 0
    have m1 : we.cell? ⟨wb.heap.size, 1, none⟩ = some (.slice none 0 0) := bne.cell 1
    have m2 : we.cell? ⟨wb.heap.size, 2, none⟩ = some (.slice none 0 0) := bne.cell 2
    have fz1 := bne.frozen 1
    have fz2 := bne.frozen 2
    clear o0' o1' o2'
    have hwde : wd.heap.size ≤ we.heap.size := ye1.size
    have hfw := hc.lt
    have hRl : ys.tail.length ≤ 1000000 := by rw [List.length_tail]; have := hy.len; omega
    have HRL := Lib.hid hRl
    clear hRl
    by_cases hb : 0 < r.b
    · have hb1 : (0 : Int) < r.b := hb
      have SS : Hid (stepS r xs ys = ⟨r.c, trimI (r.a :: xs), ys.tail⟩) := by show _ = _; unfold stepS; rw [if_pos hb, if_pos hb]
      have HTL : Hid (ys.tail.length = ys.length - 1) := by show _ = _; simp
      go_upto_region 5 with fail
      go_cut [] (fun wx => ∃ L2 c2, Blk wx wb.heap.size 172 #[.int .i64 r.c, .slice L2 (trimI (r.a :: xs)).length c2, .slice none 0 0] ∧ Own wx we.heap.size 2 1 L2 (trimI (r.a :: xs)).length c2 (ints (trimI (r.a :: xs))) ∧ Own wx wd.heap.size 2 1 R1 ys.tail.length d1 (ints ys.tail) ∧ Blk wx w.heap.size 172 #[.int .i64 0, .slice none 0 0, .slice none 0 0] ∧ Below w.heap.size w wx)
      case first =>
        go_region_law
          ((go_simp; first
            | (go_at_call 186; refine (l05Push_any _ _ _ _ xs _ ((hx.below ye).drewN _) (by omega)).mono ?_; rintro e w4 ⟨L2, c2, rfl, oL, y4'⟩; have y4 : Below we.heap.size we w4 := below_undrew y4'
               have f0 : w4.cell? ⟨wb.heap.size, 1, none⟩ = some (.slice none 0 0) := (bne.below' y4).cell 1
               have f1 := (bne.below' y4).frozen 1)))
        all_goals
          go_wp2_with fail
          go_meet
          have oL' : Own w4 we.heap.size 2 1 L2 (trimI (r.a :: xs)).length c2 (ints (trimI (r.a :: xs))) := oL
          refine ⟨L2, c2, Blk.set_ (bne.below' y4) 1 _, oL'.far (p := ⟨wb.heap.size, 1, none⟩) (fun e => by have h : we.heap.size ≤ wb.heap.size := oL'.blk_ge _ e; omega) _, (oR.below y4).far (p := ⟨wb.heap.size, 1, none⟩) (fun e => by have h : wd.heap.size ≤ wb.heap.size := oR.blk_ge _ e; omega) _, (b0e.below' y4).far (p := ⟨wb.heap.size, 1, none⟩) (by show ¬ w.heap.size = wb.heap.size; omega) _, (ye.trans (y4.mono ye.size)).setCell (p := ⟨wb.heap.size, 1, none⟩) (by show w.heap.size ≤ wb.heap.size; omega) _⟩
      case rest =>
        obtain ⟨L2, c2, bm, oL, oR2, b0f, yf⟩ := hcut
        have g2' : wc.cell? ⟨wb.heap.size, 2, none⟩ = some (.slice none 0 0) := bm.cell 2
        have gf2 := bm.frozen 2
        clear o0 o1 o2 e0 e1 e2 m0 m1 m2 fz1 fz2
        go_upto_region 12 with fail
        have bz : Blk (wc.setCell ⟨wb.heap.size, 2, none⟩ (.slice R1 (ys.length - 1) d1)) wb.heap.size 172 #[.int .i64 r.c, .slice L2 (trimI (r.a :: xs)).length c2, .slice R1 (ys.length - 1) d1] := Blk.set_ bm 2 _
        have b0z : Blk (wc.setCell ⟨wb.heap.size, 2, none⟩ (.slice R1 (ys.length - 1) d1)) w.heap.size 172 #[.int .i64 0, .slice none 0 0, .slice none 0 0] := b0f.far (p := ⟨wb.heap.size, 2, none⟩) (by show ¬ w.heap.size = wb.heap.size; omega) _
        have oLz : Own (wc.setCell ⟨wb.heap.size, 2, none⟩ (.slice R1 (ys.length - 1) d1)) we.heap.size 2 1 L2 (trimI (r.a :: xs)).length c2 (ints (trimI (r.a :: xs))) := oL.far (p := ⟨wb.heap.size, 2, none⟩) (fun e => by have h : we.heap.size ≤ wb.heap.size := oL.blk_ge _ e; omega) _
        have oRz : Own (wc.setCell ⟨wb.heap.size, 2, none⟩ (.slice R1 (ys.length - 1) d1)) wd.heap.size 2 1 R1 ys.tail.length d1 (ints ys.tail) := oR2.far (p := ⟨wb.heap.size, 2, none⟩) (fun e => by have h : wd.heap.size ≤ wb.heap.size := oR2.blk_ge _ e; omega) _
        have yz : Below w.heap.size w (wc.setCell ⟨wb.heap.size, 2, none⟩ (.slice R1 (ys.length - 1) d1)) := yf.setCell (p := ⟨wb.heap.size, 2, none⟩) (by show w.heap.size ≤ wb.heap.size; omega) _
        have HAPZ : Hid (∀ b, blk L2 = some b → blk R1 ≠ some b) := fun b h5 h6 => by
          have h7 := oL.blk_ge b h5
          have h8 := oR.blk_lt b h6
          omega
        clear g2' gf2
        generalize wc.setCell ⟨wb.heap.size, 2, none⟩ (.slice R1 (ys.length - 1) d1) = wz at *
        have z0 : wz.cell? ⟨wb.heap.size, 0, none⟩ = some (.int .i64 r.c) := bz.cell 0
        have z1 : wz.cell? ⟨wb.heap.size, 1, none⟩ = some (.slice L2 (trimI (r.a :: xs)).length c2) := bz.cell 1
        have z2 : wz.cell? ⟨wb.heap.size, 2, none⟩ = some (.slice R1 (ys.length - 1) d1) := bz.cell 2
        have x0 : wz.cell? ⟨w.heap.size, 0, none⟩ = some (.int .i64 0) := b0z.cell 0
        have x1 : wz.cell? ⟨w.heap.size, 1, none⟩ = some (.slice none 0 0) := b0z.cell 1
        have x2 : wz.cell? ⟨w.heap.size, 2, none⟩ = some (.slice none 0 0) := b0z.cell 2
        have zf0 := b0z.frozen 0
        have zf1 := b0z.frozen 1
        have zf2 := b0z.frozen 2
        have nw : ¬ wb.heap.size = w.heap.size := by omega
        have HP := Lib.hid (show roomC (stepS r xs ys) = (decide ((((trimI (r.a :: xs)).length : Nat) : Int) ≤ 200) && decide ((((ys.length - 1) : Nat) : Int) ≤ 200)) by rw [SS.out]; exact room_eq (by simp) (by simp))
        cases v1 : decide ((((trimI (r.a :: xs)).length : Nat) : Int) ≤ 200)
        all_goals cases v2 : decide ((((ys.length - 1) : Nat) : Int) ≤ 200)
        all_goals
          have V1 := Lib.hid v1
          have V2 := Lib.hid v2
          go_region
          go_wp2_with fail
          have dd := conf_set b0z (.int .i64 r.c) (.slice L2 (trimI (r.a :: xs)).length c2) (.slice R1 (ys.length - 1) d1)
          refine bodyPost_ret (v := .tuple #[.agg #[.int .i64 r.c, .slice L2 (trimI (r.a :: xs)).length c2, .slice R1 (ys.length - 1) d1], .bool (roomC (stepS r xs ys))]) (by rw [HP.out, V1.out, V2.out]; simp [results, Try.results140, go_sem, dd.cell 0, dd.cell 1, dd.cell 2]) rfl ?_
          rw [SS.out]
          refine ⟨L2, c2, R1, d1, by simp, (conf_far oLz (by omega) _ _ _).mono (by omega), (conf_far oRz (by omega) _ _ _).mono (by omega), HAPZ.out, below_drewN (conf_below yz (Nat.le_refl _) _ _ _) 1⟩
    · have hb1 : ¬ (0 : Int) < r.b := hb
      have HTL : Hid (ys.tail.length = ys.length - 1) := by show _ = _; simp
      have siR : SI we R1 (ys.length - 1) ys.tail := by have h := oR.rd; rw [HTL.out] at h; exact h
      have HXL := Lib.hid hx.len
      by_cases hm0 : m = 0
      · have hx0 : xs.headD 0 = 0 := by
          have : xs = [] := List.eq_nil_of_length_eq_zero (by rw [HXL.out]; exact hm0)
          rw [this]; rfl
        have SS : Hid (stepS r xs ys = ⟨r.c, xs.tail, trimI (0 :: trimI (r.a :: ys.tail))⟩) := by show _ = _; unfold stepS; rw [if_neg hb, if_neg hb, hx0]
        clear hx0
        subst hm0
        go_wp2_with fail
        refine (l05Push_any _ _ _ _ ys.tail _ siR (by have := HRL.out; rw [HTL.out] at this; omega)).mono ?_
        rintro e w4 ⟨R2, d2, rfl, oR2, y4⟩
        go_wp2_with fail
        refine (l05Push_any _ _ _ _ (trimI (r.a :: ys.tail)) _ oR2.rd (by have h := trim_len (r.a :: ys.tail); rw [List.length_cons] at h; have := HRL.out; omega)).mono ?_
        rintro e w5 ⟨R3, d3, rfl, oR3, y5⟩
        have y45 : Below we.heap.size we w5 := y4.trans (y5.mono y4.size)
        have yw5 : Below w.heap.size w w5 := ye.trans (y45.mono ye.size)
        have s4 : we.heap.size ≤ w4.heap.size := y4.size
        have s5 : w4.heap.size ≤ w5.heap.size := y5.size
        have bn5 := bne.below' y45
        have k2 : w5.cell? ⟨wb.heap.size, 2, none⟩ = some (.slice none 0 0) := bn5.cell 2
        have kf2 := bn5.frozen 2
        have ko1 : w5.cell? ⟨f, 1, none⟩ = some (.slice B 0 c) := (hc.below yw5).2.1
        have nf : ¬ f = wb.heap.size := by omega
        clear o0 o1 o2 e0 e1 e2 m0 m1 m2 fz1 fz2
        go_wp2_with fail
        have yv : Below w.heap.size w (w5.setCell ⟨wb.heap.size, 2, none⟩ (.slice R3 (trimI (0 :: trimI (r.a :: ys.tail))).length d3)) := yw5.setCell (p := ⟨wb.heap.size, 2, none⟩) (by show w.heap.size ≤ wb.heap.size; omega) _
        have bv : Blk (w5.setCell ⟨wb.heap.size, 2, none⟩ (.slice R3 (trimI (0 :: trimI (r.a :: ys.tail))).length d3)) wb.heap.size 172 #[.int .i64 r.c, .slice none 0 0, .slice R3 (trimI (0 :: trimI (r.a :: ys.tail))).length d3] := Blk.set_ bn5 2 _
        have b0v : Blk (w5.setCell ⟨wb.heap.size, 2, none⟩ (.slice R3 (trimI (0 :: trimI (r.a :: ys.tail))).length d3)) w.heap.size 172 #[.int .i64 0, .slice none 0 0, .slice none 0 0] := (b0e.below' y45).far (p := ⟨wb.heap.size, 2, none⟩) (by show ¬ w.heap.size = wb.heap.size; omega) _
        have oRv : Own (w5.setCell ⟨wb.heap.size, 2, none⟩ (.slice R3 (trimI (0 :: trimI (r.a :: ys.tail))).length d3)) w4.heap.size 2 1 R3 (trimI (0 :: trimI (r.a :: ys.tail))).length d3 (ints (trimI (0 :: trimI (r.a :: ys.tail)))) := oR3.far (p := ⟨wb.heap.size, 2, none⟩) (fun e => by have h : w4.heap.size ≤ wb.heap.size := oR3.blk_ge _ e; omega) _
        have xv : SI (w5.setCell ⟨wb.heap.size, 2, none⟩ (.slice R3 (trimI (0 :: trimI (r.a :: ys.tail))).length d3)) B 0 xs := hx.below yv
        generalize w5.setCell ⟨wb.heap.size, 2, none⟩ (.slice R3 (trimI (0 :: trimI (r.a :: ys.tail))).length d3) = wv at *
        refine (l05Rest_any _ _ _ xs _ xv (by omega) hmc).mono ?_
        rintro e w6 ⟨L6, c6, rfl, oL6, y6⟩
        have hwv := oRv.blk_lt
        have bm := bv.below' y6
        have b0f := b0v.below' y6
        have oR6 := oRv.below y6
        have k1 : w6.cell? ⟨wb.heap.size, 1, none⟩ = some (.slice none 0 0) := bm.cell 1
        have kf1 := bm.frozen 1
        have yf : Below w.heap.size w w6 := yv.trans (y6.mono yv.size)
        have sv := bv.lt
        go_upto_region 12 with fail
        have bz : Blk (w6.setCell ⟨wb.heap.size, 1, none⟩ (.slice L6 (xs.length - 1) c6)) wb.heap.size 172 #[.int .i64 r.c, .slice L6 (xs.length - 1) c6, .slice R3 (trimI (0 :: trimI (r.a :: ys.tail))).length d3] := Blk.set_ bm 1 _
        have b0z : Blk (w6.setCell ⟨wb.heap.size, 1, none⟩ (.slice L6 (xs.length - 1) c6)) w.heap.size 172 #[.int .i64 0, .slice none 0 0, .slice none 0 0] := b0f.far (p := ⟨wb.heap.size, 1, none⟩) (by show ¬ w.heap.size = wb.heap.size; omega) _
        have oLz : Own (w6.setCell ⟨wb.heap.size, 1, none⟩ (.slice L6 (xs.length - 1) c6)) wv.heap.size 2 1 L6 xs.tail.length c6 (ints xs.tail) := oL6.far (p := ⟨wb.heap.size, 1, none⟩) (fun e => by have h : wv.heap.size ≤ wb.heap.size := oL6.blk_ge _ e; omega) _
        have oRz : Own (w6.setCell ⟨wb.heap.size, 1, none⟩ (.slice L6 (xs.length - 1) c6)) w4.heap.size 2 1 R3 (trimI (0 :: trimI (r.a :: ys.tail))).length d3 (ints (trimI (0 :: trimI (r.a :: ys.tail)))) := oR6.far (p := ⟨wb.heap.size, 1, none⟩) (fun e => by have h : w4.heap.size ≤ wb.heap.size := oR6.blk_ge _ e; omega) _
        have yz : Below w.heap.size w (w6.setCell ⟨wb.heap.size, 1, none⟩ (.slice L6 (xs.length - 1) c6)) := yf.setCell (p := ⟨wb.heap.size, 1, none⟩) (by show w.heap.size ≤ wb.heap.size; omega) _
        have HAPZ : Hid (∀ b, blk L6 = some b → blk R3 ≠ some b) := fun b h5 h6 => by
          have h7 := oL6.blk_ge b h5
          have h8 := hwv b h6
          omega
        clear k1 kf1 k2 kf2 ko1 hwv
        generalize w6.setCell ⟨wb.heap.size, 1, none⟩ (.slice L6 (xs.length - 1) c6) = wz at *
        have z0 : wz.cell? ⟨wb.heap.size, 0, none⟩ = some (.int .i64 r.c) := bz.cell 0
        have z1 : wz.cell? ⟨wb.heap.size, 1, none⟩ = some (.slice L6 (xs.length - 1) c6) := bz.cell 1
        have z2 : wz.cell? ⟨wb.heap.size, 2, none⟩ = some (.slice R3 (trimI (0 :: trimI (r.a :: ys.tail))).length d3) := bz.cell 2
        have x0 : wz.cell? ⟨w.heap.size, 0, none⟩ = some (.int .i64 0) := b0z.cell 0
        have x1 : wz.cell? ⟨w.heap.size, 1, none⟩ = some (.slice none 0 0) := b0z.cell 1
        have x2 : wz.cell? ⟨w.heap.size, 2, none⟩ = some (.slice none 0 0) := b0z.cell 2
        have zf0 := b0z.frozen 0
        have zf1 := b0z.frozen 1
        have zf2 := b0z.frozen 2
        have nw : ¬ wb.heap.size = w.heap.size := by omega
        have HP := Lib.hid (show roomC (stepS r xs ys) = (decide ((((xs.length - 1) : Nat) : Int) ≤ 200) && decide ((((trimI (0 :: trimI (r.a :: ys.tail))).length : Nat) : Int) ≤ 200)) by rw [SS.out]; exact room_eq (by simp) (by simp))
        cases v1 : decide ((((xs.length - 1) : Nat) : Int) ≤ 200)
        all_goals cases v2 : decide ((((trimI (0 :: trimI (r.a :: ys.tail))).length : Nat) : Int) ≤ 200)
        all_goals
          have V1 := Lib.hid v1
          have V2 := Lib.hid v2
          go_region
          go_wp2_with fail
          have dd := conf_set b0z (.int .i64 r.c) (.slice L6 (xs.length - 1) c6) (.slice R3 (trimI (0 :: trimI (r.a :: ys.tail))).length d3)
          refine bodyPost_ret (v := .tuple #[.agg #[.int .i64 r.c, .slice L6 (xs.length - 1) c6, .slice R3 (trimI (0 :: trimI (r.a :: ys.tail))).length d3], .bool (roomC (stepS r xs ys))]) (by rw [HP.out, V1.out, V2.out]; simp [results, Try.results140, go_sem, dd.cell 0, dd.cell 1, dd.cell 2]) rfl ?_
          rw [SS.out]
          refine ⟨L6, c6, R3, d3, by simp, (conf_far oLz (by omega) _ _ _).mono (by omega), (conf_far oRz (by omega) _ _ _).mono (by omega), HAPZ.out, below_drewN (conf_below yz (Nat.le_refl _) _ _ _) 1⟩
      · obtain ⟨b', off', rfl, _, hc0⟩ := (hx.below ye).at0 (by omega)
        obtain ⟨h0, hh0⟩ : ∃ h0, h0 = xs.headD 0 := ⟨_, rfl⟩
        rw [← hh0] at hc0
        have SS : Hid (stepS r xs ys = ⟨r.c, xs.tail, trimI (h0 :: trimI (r.a :: ys.tail))⟩) := by show _ = _; unfold stepS; rw [if_neg hb, if_neg hb, hh0]
        clear hh0
        have i3 : (0 : Int) < (m : Int) := by omega
        go_wp2_with fail
        refine (l05Push_any _ _ _ _ ys.tail _ siR (by have := HRL.out; rw [HTL.out] at this; omega)).mono ?_
        rintro e w4 ⟨R2, d2, rfl, oR2, y4⟩
        go_wp2_with fail
        refine (l05Push_any _ _ _ _ (trimI (r.a :: ys.tail)) _ oR2.rd (by have h := trim_len (r.a :: ys.tail); rw [List.length_cons] at h; have := HRL.out; omega)).mono ?_
        rintro e w5 ⟨R3, d3, rfl, oR3, y5⟩
        have y45 : Below we.heap.size we w5 := y4.trans (y5.mono y4.size)
        have yw5 : Below w.heap.size w w5 := ye.trans (y45.mono ye.size)
        have s4 : we.heap.size ≤ w4.heap.size := y4.size
        have s5 : w4.heap.size ≤ w5.heap.size := y5.size
        have bn5 := bne.below' y45
        have k2 : w5.cell? ⟨wb.heap.size, 2, none⟩ = some (.slice none 0 0) := bn5.cell 2
        have kf2 := bn5.frozen 2
        have ko1 : w5.cell? ⟨f, 1, none⟩ = some (.slice (some ⟨b', off', none⟩) m c) := (hc.below yw5).2.1
        have nf : ¬ f = wb.heap.size := by omega
        clear o0 o1 o2 e0 e1 e2 m0 m1 m2 fz1 fz2
        go_wp2_with fail
        have yv : Below w.heap.size w (w5.setCell ⟨wb.heap.size, 2, none⟩ (.slice R3 (trimI (h0 :: trimI (r.a :: ys.tail))).length d3)) := yw5.setCell (p := ⟨wb.heap.size, 2, none⟩) (by show w.heap.size ≤ wb.heap.size; omega) _
        have bv : Blk (w5.setCell ⟨wb.heap.size, 2, none⟩ (.slice R3 (trimI (h0 :: trimI (r.a :: ys.tail))).length d3)) wb.heap.size 172 #[.int .i64 r.c, .slice none 0 0, .slice R3 (trimI (h0 :: trimI (r.a :: ys.tail))).length d3] := Blk.set_ bn5 2 _
        have b0v : Blk (w5.setCell ⟨wb.heap.size, 2, none⟩ (.slice R3 (trimI (h0 :: trimI (r.a :: ys.tail))).length d3)) w.heap.size 172 #[.int .i64 0, .slice none 0 0, .slice none 0 0] := (b0e.below' y45).far (p := ⟨wb.heap.size, 2, none⟩) (by show ¬ w.heap.size = wb.heap.size; omega) _
        have oRv : Own (w5.setCell ⟨wb.heap.size, 2, none⟩ (.slice R3 (trimI (h0 :: trimI (r.a :: ys.tail))).length d3)) w4.heap.size 2 1 R3 (trimI (h0 :: trimI (r.a :: ys.tail))).length d3 (ints (trimI (h0 :: trimI (r.a :: ys.tail)))) := oR3.far (p := ⟨wb.heap.size, 2, none⟩) (fun e => by have h : w4.heap.size ≤ wb.heap.size := oR3.blk_ge _ e; omega) _
        have xv : SI (w5.setCell ⟨wb.heap.size, 2, none⟩ (.slice R3 (trimI (h0 :: trimI (r.a :: ys.tail))).length d3)) (some ⟨b', off', none⟩) m xs := hx.below yv
        generalize w5.setCell ⟨wb.heap.size, 2, none⟩ (.slice R3 (trimI (h0 :: trimI (r.a :: ys.tail))).length d3) = wv at *
        refine (l05Rest_any _ _ _ xs _ xv (by omega) hmc).mono ?_
        rintro e w6 ⟨L6, c6, rfl, oL6, y6⟩
        have hwv := oRv.blk_lt
        have bm := bv.below' y6
        have b0f := b0v.below' y6
        have oR6 := oRv.below y6
        have k1 : w6.cell? ⟨wb.heap.size, 1, none⟩ = some (.slice none 0 0) := bm.cell 1
        have kf1 := bm.frozen 1
        have yf : Below w.heap.size w w6 := yv.trans (y6.mono yv.size)
        have sv := bv.lt
        go_upto_region 12 with fail
        have bz : Blk (w6.setCell ⟨wb.heap.size, 1, none⟩ (.slice L6 (xs.length - 1) c6)) wb.heap.size 172 #[.int .i64 r.c, .slice L6 (xs.length - 1) c6, .slice R3 (trimI (h0 :: trimI (r.a :: ys.tail))).length d3] := Blk.set_ bm 1 _
        have b0z : Blk (w6.setCell ⟨wb.heap.size, 1, none⟩ (.slice L6 (xs.length - 1) c6)) w.heap.size 172 #[.int .i64 0, .slice none 0 0, .slice none 0 0] := b0f.far (p := ⟨wb.heap.size, 1, none⟩) (by show ¬ w.heap.size = wb.heap.size; omega) _
        have oLz : Own (w6.setCell ⟨wb.heap.size, 1, none⟩ (.slice L6 (xs.length - 1) c6)) wv.heap.size 2 1 L6 xs.tail.length c6 (ints xs.tail) := oL6.far (p := ⟨wb.heap.size, 1, none⟩) (fun e => by have h : wv.heap.size ≤ wb.heap.size := oL6.blk_ge _ e; omega) _
        have oRz : Own (w6.setCell ⟨wb.heap.size, 1, none⟩ (.slice L6 (xs.length - 1) c6)) w4.heap.size 2 1 R3 (trimI (h0 :: trimI (r.a :: ys.tail))).length d3 (ints (trimI (h0 :: trimI (r.a :: ys.tail)))) := oR6.far (p := ⟨wb.heap.size, 1, none⟩) (fun e => by have h : w4.heap.size ≤ wb.heap.size := oR6.blk_ge _ e; omega) _
        have yz : Below w.heap.size w (w6.setCell ⟨wb.heap.size, 1, none⟩ (.slice L6 (xs.length - 1) c6)) := yf.setCell (p := ⟨wb.heap.size, 1, none⟩) (by show w.heap.size ≤ wb.heap.size; omega) _
        have HAPZ : Hid (∀ b, blk L6 = some b → blk R3 ≠ some b) := fun b h5 h6 => by
          have h7 := oL6.blk_ge b h5
          have h8 := hwv b h6
          omega
        clear k1 kf1 k2 kf2 ko1 hwv
        generalize w6.setCell ⟨wb.heap.size, 1, none⟩ (.slice L6 (xs.length - 1) c6) = wz at *
        have z0 : wz.cell? ⟨wb.heap.size, 0, none⟩ = some (.int .i64 r.c) := bz.cell 0
        have z1 : wz.cell? ⟨wb.heap.size, 1, none⟩ = some (.slice L6 (xs.length - 1) c6) := bz.cell 1
        have z2 : wz.cell? ⟨wb.heap.size, 2, none⟩ = some (.slice R3 (trimI (h0 :: trimI (r.a :: ys.tail))).length d3) := bz.cell 2
        have x0 : wz.cell? ⟨w.heap.size, 0, none⟩ = some (.int .i64 0) := b0z.cell 0
        have x1 : wz.cell? ⟨w.heap.size, 1, none⟩ = some (.slice none 0 0) := b0z.cell 1
        have x2 : wz.cell? ⟨w.heap.size, 2, none⟩ = some (.slice none 0 0) := b0z.cell 2
        have zf0 := b0z.frozen 0
        have zf1 := b0z.frozen 1
        have zf2 := b0z.frozen 2
        have nw : ¬ wb.heap.size = w.heap.size := by omega
        have HP := Lib.hid (show roomC (stepS r xs ys) = (decide ((((xs.length - 1) : Nat) : Int) ≤ 200) && decide ((((trimI (h0 :: trimI (r.a :: ys.tail))).length : Nat) : Int) ≤ 200)) by rw [SS.out]; exact room_eq (by simp) (by simp))
        cases v1 : decide ((((xs.length - 1) : Nat) : Int) ≤ 200)
        all_goals cases v2 : decide ((((trimI (h0 :: trimI (r.a :: ys.tail))).length : Nat) : Int) ≤ 200)
        all_goals
          have V1 := Lib.hid v1
          have V2 := Lib.hid v2
          go_region
          go_wp2_with fail
          have dd := conf_set b0z (.int .i64 r.c) (.slice L6 (xs.length - 1) c6) (.slice R3 (trimI (h0 :: trimI (r.a :: ys.tail))).length d3)
          refine bodyPost_ret (v := .tuple #[.agg #[.int .i64 r.c, .slice L6 (xs.length - 1) c6, .slice R3 (trimI (h0 :: trimI (r.a :: ys.tail))).length d3], .bool (roomC (stepS r xs ys))]) (by rw [HP.out, V1.out, V2.out]; simp [results, Try.results140, go_sem, dd.cell 0, dd.cell 1, dd.cell 2]) rfl ?_
          rw [SS.out]
          refine ⟨L6, c6, R3, d3, by simp, (conf_far oLz (by omega) _ _ _).mono (by omega), (conf_far oRz (by omega) _ _ _).mono (by omega), HAPZ.out, below_drewN (conf_below yz (Nat.le_refl _) _ _ _) 1⟩
end Go.Proofs.Ythipbeggaeogcaa
