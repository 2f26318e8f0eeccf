/-
  Contract of impl's runner: step.
-/
import Derived.Test.YtbpofkggoolmpaaPbFmAll2
import Derived.RangeFuncNested
import Derived.RangeFuncBound
import Derived.RangeFuncCalls
import Derived.RangeFuncLeaves
namespace Go.Proofs.Ytbpofkggoolmpaa
open Go.RowKit

/-- What a step makes of the two sides (the nearest symbols last). -/
def stepL (r : R3) (ls : List Int) : List Int := if 0 < r.b then pushI ls r.a else ls.dropLast
def stepR (r : R3) (ls rs : List Int) : List Int := if 0 < r.b then rs.dropLast else pushI (pushI rs.dropLast r.a) (lastI ls)
def roomB (ls rs : List Int) : Bool := decide (ls.length ≤ 200) && decide (rs.length ≤ 200)

/-- A runner with its sides. -/
def Sides (w : World) (lo g : Nat) (sy st : Int) (A : Option Addr) (n k : Nat) (q : Int) (ls rs : List Int) : Prop :=
  ∃ L c R d, RunAt w g sy st A n k q L ls.length c R rs.length d ∧ Own w lo 2 1 L ls.length c (ints ls) ∧ Own w lo 2 1 R rs.length d (ints rs) ∧ (∀ b, blk L = some b → blk R ≠ some b)

theorem RunAt.ne_own {w : World} {g : Nat} {sy st : Int} {A : Option Addr} {n k : Nat} {q : Int} {L : Option Addr} {m c : Nat} {R : Option Addr} {l d : Nat} {lo s n' c' : Nat} {X : Option Addr} {cs : List Value} (h : RunAt w g sy st A n k q L m c R l d) (h' : Own w lo 2 s X n' c' cs) : blk X ≠ some g := by
  intro hb
  rcases h'.2 with ⟨rfl, _⟩ | ⟨b, off, cur, rfl, _, hg, _⟩
  · simp [blk] at hb
  · simp [blk] at hb; subst hb
    unfold RunAt Blk at h
    rw [hg] at h
    simp at h
theorem Blk.ne_own {w : World} {g : Nat} {cs : Array Value} {lo s n' c' : Nat} {X : Option Addr} {xs : List Value} (h : Blk w g 229 cs) (h' : Own w lo 2 s X n' c' xs) : blk X ≠ some g := by
  intro hb
  rcases h'.2 with ⟨rfl, _⟩ | ⟨b, off, cur, rfl, _, hg, _⟩
  · simp [blk] at hb
  · simp [blk] at hb; subst hb
    unfold Blk at h
    rw [hg] at h
    simp at h
theorem dropLast_ints (xs : List Int) : (ints xs).take ((ints xs).length - 1) = ints xs.dropLast := by rw [length_ints, ints_take, List.dropLast_eq_take]
theorem Own.upto {w : World} {lo n c j : Nat} {e : TypeId} {A : Option Addr} {cs : List Value} (h : Own w lo e 1 A n c cs) (hj : j ≤ n) : Own w lo e 1 A j c (cs.take j) := by
  have := h.cut (i := 0) (j := j) (Nat.zero_le _) hj (A' := A) (fun h => h) (fun b off hA => .inl (by rw [hA]; rfl))
  simpa using this

/-- A frame: the blocks of X lie as they lay. -/
structure Fr (X : Nat → Prop) (w w' : World) : Prop where
  size : w.heap.size ≤ w'.heap.size
  same : ∀ b, X b → b < w.heap.size → w'.heap[b]? = w.heap[b]?
section
variable {X : Nat → Prop} {w w1 w2 : World}
theorem Fr.refl (X : Nat → Prop) (w : World) : Fr X w w := ⟨Nat.le_refl _, fun _ _ _ => rfl⟩
theorem Fr.trans (h : Fr X w w1) (k : Fr X w1 w2) : Fr X w w2 := ⟨Nat.le_trans h.size k.size, fun b hb hlt => (k.same b hb (by have := h.size; omega)).trans (h.same b hb hlt)⟩
theorem Fr.of_below (z : Below w.heap.size w w1) : Fr X w w1 := ⟨z.size, fun b _ hlt => z.block b hlt⟩
theorem Fr.below (h : Fr X w w1) (z : Below w1.heap.size w1 w2) : Fr X w w2 := h.trans (Fr.of_below z)
theorem Fr.drewN (h : Fr X w w1) (q : Nat) : Fr X w (w1.drewN q) := ⟨h.size, h.same⟩
theorem Fr.set_ (h : Fr X w w1) {p : Addr} (hp : ¬ X p.block) (u : Value) : Fr X w (w1.setCell p u) :=
  ⟨by have := h.size; simpa [World.setCell] using this, fun b hb hlt => (Below.heap_setCell w1 p u b (fun e => hp (e ▸ hb))).trans (h.same b hb hlt)⟩
theorem Fr.grown {row : Option Nat} (h : Fr X w w1) (hg : w1.grownBy w2 row) (hr : ∀ b, row = some b → ¬ X b) : Fr X w w2 :=
  ⟨Nat.le_trans h.size hg.size, fun b hb hlt => (hg.block b (by have := h.size; omega) (fun e => hr b e.symm hb)).trans (h.same b hb hlt)⟩
end

/-- A runner with its sides, apart from the blocks of X. -/
def SidesX (X : Nat → Prop) (w : World) (lo g : Nat) (sy st : Int) (A : Option Addr) (n k : Nat) (q : Int) (ls rs : List Int) : Prop :=
  ∃ L c R d, RunAt w g sy st A n k q L ls.length c R rs.length d ∧ Own w lo 2 1 L ls.length c (ints ls) ∧ Own w lo 2 1 R rs.length d (ints rs) ∧ (∀ b, blk L = some b → blk R ≠ some b) ∧ (∀ b, blk L = some b → ¬ X b) ∧ (∀ b, blk R = some b → ¬ X b)
theorem SidesX.sides {X : Nat → Prop} {w : World} {lo g : Nat} {sy st : Int} {A : Option Addr} {n k : Nat} {q : Int} {ls rs : List Int} (h : SidesX X w lo g sy st A n k q ls rs) : Sides w lo g sy st A n k q ls rs := by
  obtain ⟨L, c, R, d, h1, h2, h3, h4, _, _⟩ := h
  exact ⟨L, c, R, d, h1, h2, h3, h4⟩

def StepX (X : Nat → Prop) (w w0 : World) (g : Nat) (sy st : Int) (A : Option Addr) (n k : Nat) (r : R3) (ls rs : List Int) (e : Ending) (w' : World) : Prop :=
  e = .returned (.bool (roomB (stepL r ls) (stepR r ls rs))) ∧ SidesX X w' w0.heap.size g sy st A n k r.c (stepL r ls) (stepR r ls rs) ∧ Below w0.heap.size w0 w' ∧ Fr X w w'
def StepP (w0 : World) (g : Nat) (sy st : Int) (A : Option Addr) (n k : Nat) (r : R3) (ls rs : List Int) (e : Ending) (w' : World) : Prop :=
  e = .returned (.bool (roomB (stepL r ls) (stepR r ls rs))) ∧ Sides w' w0.heap.size g sy st A n k r.c (stepL r ls) (stepR r ls rs) ∧ Below w0.heap.size w0 w'

set_option maxHeartbeats 2000000 in
theorem step_x (X : Nat → Prop) (w0 : World) (g : Nat) (sy st : Int) (A : Option Addr) (n k : Nat) (us : List R3) (q : Int) (ls rs : List Int) (idx : Nat) (r : R3) (w : World) (hs : SidesX X w w0.heap.size g sy st A n k q ls rs) (hXg : Hid (¬ X g)) (hXt : Hid (∀ b, X b → b < w.heap.size)) (hus : S3 w0 A n us) (hb0 : Below w0.heap.size w0 w) (hg : w0.heap.size ≤ g)
    (hll : ls.length ≤ 1000000) (hrl : rs.length ≤ 1000000) (h1 : 0 ≤ q * sy) (h2 : q * sy ≤ 1000000) (h3 : 0 ≤ lastI rs) (h4 : lastI rs ≤ 1000000) (hidx : Hid (atI sy q rs = (idx : Int))) (hlt : idx < n) (hri : Hid (us[idx]? = some r)) (hn : n ≤ 1048576) :
    Calls Try.prog 197 #[.pointer (some ⟨g, 0, none⟩)] w (StepX X w w0 g sy st A n k r ls rs) := by
  obtain ⟨L, c, R, d, hr, ol, or_, hap, hXl, hXr⟩ := hs
  have HAP := Lib.hid hap
  have HXL := Lib.hid hXl
  have HXR := Lib.hid hXr
  clear hap hXl hXr
  have hgw : g < w.heap.size := hr.lt
  go_enter Try.func197, Try.ntmps197
  go_wp2_with fail
  refine (rule_any _ _ _ _ _ _ us _ _ _ _ _ _ _ rs idx r _ hr (hus.below hb0) or_.rd (by omega) h1 h2 h3 h4 hidx hlt hri hn).mono ?_
  rintro e w1 ⟨rfl, z1⟩
  have hr1 : RunAt w1 g sy st A n k q L ls.length c R rs.length d := Blk.below' hr z1
  have ol1 := ol.below z1
  have or1 := or_.below z1
  obtain ⟨w2, hw2⟩ : ∃ w2, w2 = w1.alloc (.cells #[.int .i64 r.a, .int .i64 r.b, .int .i64 r.c] 229) := ⟨_, rfl⟩
  have bx : Blk w2 w1.heap.size 229 #[.int .i64 r.a, .int .i64 r.b, .int .i64 r.c] := by rw [hw2]; exact Blk.new w1 _ _
  have z2 : Below w1.heap.size w1 w2 := by rw [hw2]; exact (Below.refl _ _).alloc (Nat.le_refl _) _
  have hr2 : RunAt w2 g sy st A n k q L ls.length c R rs.length d := Blk.below' hr1 z2
  have ol2 := ol1.below z2
  have or2 := or1.below z2
  have y2 : Below w0.heap.size w0 w2 := (hb0.trans (z1.mono hb0.size)).trans (z2.mono (hb0.trans (z1.mono hb0.size)).size)
  have x2 : Hid (Fr X w w2) := ((Fr.refl X w).below z1).below z2
  have HW2 := Lib.hid hw2
  clear hw2
  have k5 : w2.cell? ⟨g, 5, none⟩ = some (.slice R rs.length d) := hr2.cell 5
  rw [HW2.out] at k5
  go_wp2_with fail
  rw [← HW2.out] at k5 ⊢
  clear HW2 hr1 ol1 or1 hr ol or_
  have or2c := or2.le
  refine (pop_any _ _ _ _ (by omega) or2c).mono ?_
  rintro e w2' ⟨rfl, rfl⟩
  have kf := hr2.frozen 5
  have hr3 : RunAt (w2.setCell ⟨g, 5, none⟩ (.slice R (rs.length - 1) d)) g sy st A n k q L ls.length c R (rs.length - 1) d := Blk.set_ hr2 5 _
  have ol3 := ol2.far (p := ⟨g, 5, none⟩) (hr2.ne_own ol2) (.slice R (rs.length - 1) d)
  have or3 := (or2.upto (j := rs.length - 1) (by omega)).far (p := ⟨g, 5, none⟩) (hr2.ne_own or2) (.slice R (rs.length - 1) d)
  rw [ints_take, ← List.dropLast_eq_take] at or3
  have gb : g ≠ w1.heap.size := by have := z1.size; omega
  have bx3 := bx.far (p := ⟨g, 5, none⟩) (Ne.symm gb) (.slice R (rs.length - 1) d)
  have y3 := y2.setCell (p := ⟨g, 5, none⟩) hg (.slice R (rs.length - 1) d)
  have x3 : Hid (Fr X w (w2.setCell ⟨g, 5, none⟩ (.slice R (rs.length - 1) d))) := x2.out.set_ (p := ⟨g, 5, none⟩) hXg.out _
  have s3 : (w2.setCell ⟨g, 5, none⟩ (.slice R (rs.length - 1) d)).heap.size = w2.heap.size := by simp [World.setCell]
  obtain ⟨w3, hw3⟩ : ∃ w3, w3 = w2.setCell ⟨g, 5, none⟩ (.slice R (rs.length - 1) d) := ⟨_, rfl⟩
  rw [← hw3] at hr3 ol3 or3 bx3 y3 s3 x3
  have HW3 := Lib.hid hw3
  clear hw3
  have k31 : w3.cell? ⟨w1.heap.size, 1, none⟩ = some (.int .i64 r.b) := bx3.cell 1
  have k30 : w3.cell? ⟨w1.heap.size, 0, none⟩ = some (.int .i64 r.a) := bx3.cell 0
  have k34 : w3.cell? ⟨g, 4, none⟩ = some (.slice L ls.length c) := hr3.cell 4
  have k35 : w3.cell? ⟨g, 5, none⟩ = some (.slice R (rs.length - 1) d) := hr3.cell 5
  have kq := k31
  rw [HW3.out] at kq
  have hwz : w1.heap.size < w3.heap.size := bx3.lt
  have S3z := Lib.hid s3
  clear s3
  have y3z : w0.heap.size ≤ w3.heap.size := y3.size
  by_cases hmv : 0 < r.b
  · go_upto_region 4 with fail
    rw [← HW3.out]
    clear kq k5 kf
    go_cut [2] (fun s2 wx => s2 = .bool false ∧ ∃ L2 c2, RunAt wx g sy st A n k q L2 (pushI ls r.a).length c2 R (rs.length - 1) d ∧ Own wx w0.heap.size 2 1 L2 (pushI ls r.a).length c2 (ints (pushI ls r.a)) ∧ Own wx w0.heap.size 2 1 R (rs.length - 1) d (ints rs.dropLast) ∧ (∀ b, blk L2 = some b → blk R ≠ some b) ∧ Blk wx w1.heap.size 229 #[.int .i64 r.a, .int .i64 r.b, .int .i64 r.c] ∧ Below w0.heap.size w0 wx ∧ Fr X w wx ∧ (∀ b, blk L2 = some b → ¬ X b))
    case first =>
      go_region_law
        ((go_simp; go_at_call 264; refine (push_any _ _ _ ls _ _ w0.heap.size (ol3.drewN 1) y3z (by omega)).mono ?_; rintro e w4 ⟨L2, c2, rfl, ol4, hg4, hwh4, _⟩
          have hr4 : RunAt w4 g sy st A n k q L ls.length c R (rs.length - 1) d := (hg4.block g hr3.lt (fun e => hr3.ne_own ol3 e.symm)).trans hr3
          have e4 : w4.cell? ⟨g, 4, none⟩ = some (.slice L ls.length c) := hr4.cell 4
          have f4 := hr4.frozen 4))
      all_goals
        go_wp2_with fail
        go_meet
        refine ⟨rfl, L2, c2, Blk.set_ hr4 4 _, ol4.far (p := ⟨g, 4, none⟩) (hr4.ne_own ol4) _, ?_, ?_, ?_, ?_, ?_, ?_⟩
        · have or4 : Own w4 w0.heap.size 2 1 R (rs.length - 1) d (ints rs.dropLast) := or3.kept (fun b hb _ hlt' => hg4.block b hlt' (fun e => HAP.out b e.symm hb))
          exact or4.far (p := ⟨g, 4, none⟩) (hr4.ne_own or4) _
        · intro b h5 h6
          rcases hwh4 with h7 | h7
          · rw [h7] at h5; exact HAP.out b h5 h6
          · have h8 : w3.heap.size ≤ b := h7 b h5; have := or3.blk_lt b h6; omega
        · have bx4 : Blk w4 w1.heap.size 229 #[.int .i64 r.a, .int .i64 r.b, .int .i64 r.c] := (hg4.block w1.heap.size hwz (fun e => bx3.ne_own ol3 e.symm)).trans bx3
          exact bx4.far (p := ⟨g, 4, none⟩) (Ne.symm gb) _
        · exact ((ol3.drewN 1).below_of (below_drewN y3 1) hg4 y3z).setCell (p := ⟨g, 4, none⟩) hg _
        · exact ((x3.out.drewN 1).grown hg4 HXL.out).set_ (p := ⟨g, 4, none⟩) hXg.out _
        · intro b h5 h6
          rcases hwh4 with h7 | h7
          · rw [h7] at h5; exact HXL.out b h5 h6
          · have h8 : w3.heap.size ≤ b := h7 b h5
            have h9 := hXt.out b h6
            have := x3.out.size
            omega
    case rest =>
      obtain ⟨rfl, L2, c2, hr5, ol5, or5, hap5, bx5, y5, x5', hxl5⟩ := hcut
      have HAP5 := Lib.hid hap5
      have HXL5 := Lib.hid hxl5
      have x5 := Lib.hid x5'
      clear hap5 hxl5 x5' k31 k30 k34 k35
      have HSL : Hid (stepL r ls = pushI ls r.a) := by show _ = _; unfold stepL; rw [if_pos hmv]
      have HSR : Hid (stepR r ls rs = rs.dropLast) := by show _ = _; unfold stepR; rw [if_pos hmv]
      have m2 : wc.cell? ⟨w1.heap.size, 2, none⟩ = some (.int .i64 r.c) := bx5.cell 2
      have m3 : wc.cell? ⟨g, 3, none⟩ = some (.int .i64 q) := hr5.cell 3
      have mf := hr5.frozen 3
      have m4 : wc.cell? ⟨g, 4, none⟩ = some (.slice L2 (pushI ls r.a).length c2) := hr5.cell 4
      have m5 : wc.cell? ⟨g, 5, none⟩ = some (.slice R (rs.length - 1) d) := hr5.cell 5
      have hr6 : RunAt (wc.setCell ⟨g, 3, none⟩ (.int .i64 r.c)) g sy st A n k r.c L2 (pushI ls r.a).length c2 R (rs.length - 1) d := Blk.set_ hr5 3 _
      have ol6 := ol5.far (p := ⟨g, 3, none⟩) (hr5.ne_own ol5) (.int .i64 r.c)
      have or6 := or5.far (p := ⟨g, 3, none⟩) (hr5.ne_own or5) (.int .i64 r.c)
      have y6 := y5.setCell (p := ⟨g, 3, none⟩) hg (.int .i64 r.c)
      have x6 : Hid (Fr X w (wc.setCell ⟨g, 3, none⟩ (.int .i64 r.c))) := x5.out.set_ (p := ⟨g, 3, none⟩) hXg.out _
      have e6 : rs.length - 1 = rs.dropLast.length := by simp
      rw [e6] at hr6 or6
      have E6 := Lib.hid e6
      clear e6
      go_wp2_with fail
      all_goals go_ret
      all_goals refine ⟨ret_bool ?_, ?_, y6, x6.out⟩
      all_goals rw [HSL.out, HSR.out]
      all_goals first
        | exact ⟨L2, c2, R, d, hr6, ol6, or6, HAP5.out, HXL5.out, HXR.out⟩
        | (unfold roomB; rw [← E6.out, decide_eq_true (show (pushI ls r.a).length ≤ 200 by omega)]; simp; done)
        | (unfold roomB; rw [decide_eq_false (show ¬ (pushI ls r.a).length ≤ 200 by omega)]; simp; done)
        | (unfold roomB; rw [← E6.out, decide_eq_true (show (pushI ls r.a).length ≤ 200 by omega)]; simp; omega)
  · go_upto_region 5 with fail
    rw [← HW3.out]
    clear kq k5 kf
    have HSL : Hid (stepL r ls = ls.dropLast) := by show _ = _; unfold stepL; rw [if_neg (by omega)]
    have HSR : Hid (stepR r ls rs = pushI (pushI rs.dropLast r.a) (lastI ls)) := by show _ = _; unfold stepR; rw [if_neg (by omega)]
    have e6 : rs.length - 1 = rs.dropLast.length := by simp
    have E6 := Lib.hid e6
    clear e6
    have hdl : rs.dropLast.length ≤ 1000000 := by simp; omega
    have hnl : (pushI rs.dropLast r.a).length ≤ 1000001 := by unfold pushI; split <;> simp <;> omega
    go_cut [2] (fun s2 wx => s2 = .bool false ∧ ∃ R2 d2, RunAt wx g sy st A n k q L ls.length c R2 (pushI (pushI rs.dropLast r.a) (lastI ls)).length d2 ∧ Own wx w0.heap.size 2 1 R2 (pushI (pushI rs.dropLast r.a) (lastI ls)).length d2 (ints (pushI (pushI rs.dropLast r.a) (lastI ls))) ∧ Own wx w0.heap.size 2 1 L ls.length c (ints ls) ∧ (∀ b, blk L = some b → blk R2 ≠ some b) ∧ Blk wx w1.heap.size 229 #[.int .i64 r.a, .int .i64 r.b, .int .i64 r.c] ∧ Below w0.heap.size w0 wx ∧ Fr X w wx ∧ (∀ b, blk R2 = some b → ¬ X b))
    case first =>
      go_region_law
        ((go_simp; first
          | (go_at_call_of 264 (Value.int IntKind.i64 r.a); refine (push_any _ _ _ rs.dropLast _ _ w0.heap.size (or3.drewN 1) y3z (by omega)).mono ?_; rintro e w4 ⟨R2, d2, rfl, or4, hg4, hwh4, _⟩
             have hr4 : RunAt w4 g sy st A n k q L ls.length c R (rs.length - 1) d := (hg4.block g hr3.lt (fun e => hr3.ne_own or3 e.symm)).trans hr3
             have ol4 : Own w4 w0.heap.size 2 1 L ls.length c (ints ls) := ol3.kept (fun b hb _ hlt' => hg4.block b hlt' (fun e => HAP.out b hb e.symm))
             have bx4 : Blk w4 w1.heap.size 229 #[.int .i64 r.a, .int .i64 r.b, .int .i64 r.c] := (hg4.block w1.heap.size hwz (fun e => bx3.ne_own or3 e.symm)).trans bx3
             have y4 : Below w0.heap.size w0 w4 := (or3.drewN 1).below_of (below_drewN y3 1) hg4 y3z
             have e4 : w4.cell? ⟨g, 4, none⟩ = some (.slice L ls.length c) := hr4.cell 4)
          | (go_at_call 265; refine (nearest_any _ _ _ ls _ ol4.rd (by omega)).mono ?_; rintro e w' ⟨rfl, rfl⟩)
          | (go_at_call 265; refine (nearest_any _ _ _ ls _ (ol3.drewN 1).rd (by omega)).mono ?_; rintro e w' ⟨rfl, rfl⟩)
          | (go_at_call_of 264 (Value.int IntKind.i64 (lastI ls)); refine (push_any _ _ _ (pushI rs.dropLast r.a) _ _ w0.heap.size or4 y4.size (by omega)).mono ?_; rintro e w5 ⟨RR, d3, rfl, or5, hg5, hwh5, _⟩
             have hr5 : RunAt w5 g sy st A n k q L ls.length c R (rs.length - 1) d := (hg5.block g hr4.lt (fun e => hr4.ne_own or4 e.symm)).trans hr4
             have e5 : w5.cell? ⟨g, 5, none⟩ = some (.slice R (rs.length - 1) d) := hr5.cell 5
             have f5 := hr5.frozen 5)))
      all_goals
        go_wp2_with fail
        go_meet
        have hL2 : ∀ b, blk L = some b → blk R2 ≠ some b := fun b h5 h6 => by
          rcases hwh4 with h7 | h7
          · rw [h7] at h6; exact HAP.out b h5 h6
          · have h8 : w3.heap.size ≤ b := h7 b h6
            have := ol3.blk_lt b h5; omega
        have ol5 : Own w5 w0.heap.size 2 1 L ls.length c (ints ls) := ol4.kept (fun b hb _ hlt' => hg5.block b hlt' (fun e => hL2 b hb e.symm))
        have hX2 : ∀ b, blk R2 = some b → ¬ X b := fun b h5 h6 => by
          rcases hwh4 with h7 | h7
          · rw [h7] at h5; exact HXR.out b h5 h6
          · have h8 : w3.heap.size ≤ b := h7 b h5
            have h9 := hXt.out b h6
            have := x3.out.size
            omega
        have x4 : Fr X w w4 := (x3.out.drewN 1).grown hg4 HXR.out
        refine ⟨rfl, RR, d3, Blk.set_ hr5 5 _, or5.far (p := ⟨g, 5, none⟩) (hr5.ne_own or5) _, ol5.far (p := ⟨g, 5, none⟩) (hr5.ne_own ol5) _, ?_, ?_, ?_, ?_, ?_⟩
        · intro b h5 h6
          rcases hwh5 with h7 | h7
          · rw [h7] at h6; exact hL2 b h5 h6
          · have h8 : w4.heap.size ≤ b := h7 b h6
            have := ol4.blk_lt b h5; omega
        · have bx5 : Blk w5 w1.heap.size 229 #[.int .i64 r.a, .int .i64 r.b, .int .i64 r.c] := (hg5.block w1.heap.size bx4.lt (fun e => bx4.ne_own or4 e.symm)).trans bx4
          exact bx5.far (p := ⟨g, 5, none⟩) (Ne.symm gb) _
        · exact (or4.below_of y4 hg5 y4.size).setCell (p := ⟨g, 5, none⟩) hg _
        · exact (x4.grown hg5 hX2).set_ (p := ⟨g, 5, none⟩) hXg.out _
        · intro b h5 h6
          rcases hwh5 with h7 | h7
          · rw [h7] at h5; exact hX2 b h5 h6
          · have h8 : w4.heap.size ≤ b := h7 b h5
            have h9 := hXt.out b h6
            have := x4.size
            omega
    case rest =>
      obtain ⟨rfl, R2, d2, hr5, or5, ol5, hap5, bx5, y5, x5', hxr5⟩ := hcut
      have HAP5 := Lib.hid hap5
      have HXR5 := Lib.hid hxr5
      have x5 := Lib.hid x5'
      clear hap5 hxr5 x5' k31 k30 k34 k35
      have m4 : wc.cell? ⟨g, 4, none⟩ = some (.slice L ls.length c) := hr5.cell 4
      have mf4 := hr5.frozen 4
      have olc := ol5.le
      go_wp2_with fail
      refine (pop_any _ _ _ _ (by omega) olc).mono ?_
      rintro e w6' ⟨rfl, rfl⟩
      have hr6 : RunAt (wc.setCell ⟨g, 4, none⟩ (.slice L (ls.length - 1) c)) g sy st A n k q L (ls.length - 1) c R2 (pushI (pushI rs.dropLast r.a) (lastI ls)).length d2 := Blk.set_ hr5 4 _
      have or6 := or5.far (p := ⟨g, 4, none⟩) (hr5.ne_own or5) (.slice L (ls.length - 1) c)
      have ol6 := (ol5.upto (j := ls.length - 1) (by omega)).far (p := ⟨g, 4, none⟩) (hr5.ne_own ol5) (.slice L (ls.length - 1) c)
      rw [ints_take, ← List.dropLast_eq_take] at ol6
      have bx6 := bx5.far (p := ⟨g, 4, none⟩) (Ne.symm gb) (.slice L (ls.length - 1) c)
      have y6 := y5.setCell (p := ⟨g, 4, none⟩) hg (.slice L (ls.length - 1) c)
      have m2 : (wc.setCell ⟨g, 4, none⟩ (.slice L (ls.length - 1) c)).cell? ⟨w1.heap.size, 2, none⟩ = some (.int .i64 r.c) := bx6.cell 2
      have m3 : (wc.setCell ⟨g, 4, none⟩ (.slice L (ls.length - 1) c)).cell? ⟨g, 3, none⟩ = some (.int .i64 q) := hr6.cell 3
      have mf3 := hr6.frozen 3
      have m54 : (wc.setCell ⟨g, 4, none⟩ (.slice L (ls.length - 1) c)).cell? ⟨g, 4, none⟩ = some (.slice L (ls.length - 1) c) := hr6.cell 4
      have m5 : (wc.setCell ⟨g, 4, none⟩ (.slice L (ls.length - 1) c)).cell? ⟨g, 5, none⟩ = some (.slice R2 (pushI (pushI rs.dropLast r.a) (lastI ls)).length d2) := hr6.cell 5
      have hr7 : RunAt ((wc.setCell ⟨g, 4, none⟩ (.slice L (ls.length - 1) c)).setCell ⟨g, 3, none⟩ (.int .i64 r.c)) g sy st A n k r.c L (ls.length - 1) c R2 (pushI (pushI rs.dropLast r.a) (lastI ls)).length d2 := Blk.set_ hr6 3 _
      have ol7 := ol6.far (p := ⟨g, 3, none⟩) (hr6.ne_own ol6) (.int .i64 r.c)
      have or7 := or6.far (p := ⟨g, 3, none⟩) (hr6.ne_own or6) (.int .i64 r.c)
      have y7 := y6.setCell (p := ⟨g, 3, none⟩) hg (.int .i64 r.c)
      have x7 : Hid (Fr X w ((wc.setCell ⟨g, 4, none⟩ (.slice L (ls.length - 1) c)).setCell ⟨g, 3, none⟩ (.int .i64 r.c))) := (x5.out.set_ (p := ⟨g, 4, none⟩) hXg.out _).set_ (p := ⟨g, 3, none⟩) hXg.out _
      have e7 : ls.length - 1 = ls.dropLast.length := by simp
      have E7 := Lib.hid e7
      clear e7
      have n4 : wc.cell? ⟨w1.heap.size, 2, none⟩ = some (.int .i64 r.c) := bx5.cell 2
      have n3 : wc.cell? ⟨g, 3, none⟩ = some (.int .i64 q) := hr5.cell 3
      have nf3 := hr5.frozen 3
      have n5 : wc.cell? ⟨g, 5, none⟩ = some (.slice R2 (pushI (pushI rs.dropLast r.a) (lastI ls)).length d2) := hr5.cell 5
      clear m2 m3 mf3 m54 m5
      go_wp2_with fail
      all_goals go_ret
      all_goals refine ⟨ret_bool ?_, ?_, y7, x7.out⟩
      all_goals rw [HSL.out, HSR.out]
      all_goals first
        | exact ⟨L, c, R2, d2, by rw [← E7.out]; exact hr7, by rw [← E7.out]; exact ol7, or7, HAP5.out, HXL.out, HXR5.out⟩
        | (unfold roomB; rw [← E7.out, decide_eq_true (show ls.length - 1 ≤ 200 by omega)]; simp; done)
        | (unfold roomB; rw [← E7.out, decide_eq_false (show ¬ ls.length - 1 ≤ 200 by omega)]; simp; done)
        | (unfold roomB; rw [← E7.out, decide_eq_true (show ls.length - 1 ≤ 200 by omega)]; simp; omega)

theorem step_any (w0 : World) (g : Nat) (sy st : Int) (A : Option Addr) (n k : Nat) (us : List R3) (q : Int) (ls rs : List Int) (idx : Nat) (r : R3) (w : World) (hs : Sides w w0.heap.size g sy st A n k q ls rs) (hus : S3 w0 A n us) (hb0 : Below w0.heap.size w0 w) (hg : w0.heap.size ≤ g)
    (hll : ls.length ≤ 1000000) (hrl : rs.length ≤ 1000000) (h1 : 0 ≤ q * sy) (h2 : q * sy ≤ 1000000) (h3 : 0 ≤ lastI rs) (h4 : lastI rs ≤ 1000000) (hidx : Hid (atI sy q rs = (idx : Int))) (hlt : idx < n) (hri : Hid (us[idx]? = some r)) (hn : n ≤ 1048576) :
    Calls Try.prog 197 #[.pointer (some ⟨g, 0, none⟩)] w (StepP w0 g sy st A n k r ls rs) := by
  obtain ⟨L, c, R, d, e1, e2, e3, e4⟩ := hs
  exact (step_x (fun _ => False) w0 g sy st A n k us q ls rs idx r w ⟨L, c, R, d, e1, e2, e3, e4, fun _ _ h => h, fun _ _ h => h⟩ (Lib.hid (fun h => h)) (Lib.hid (fun _ h => h.elim)) hus hb0 hg hll hrl h1 h2 h3 h4 hidx hlt hri hn).mono fun _ _ ⟨a, b, c, _⟩ => ⟨a, b.sides, c⟩
end Go.Proofs.Ytbpofkggoolmpaa

/-
  Contracts of impl's runner.config and StepMachine.
-/
namespace Go.Proofs.Ytbpofkggoolmpaa
open Go.RowKit

def NewConf (w : World) (q : Int) (xs ys : List Int) (e : Ending) (w' : World) : Prop :=
  ∃ L c R d, e = .returned (.agg #[.int .i64 q, .slice L xs.length c, .slice R ys.length d]) ∧ Own w' w.heap.size 2 1 L xs.length c (ints xs) ∧ Own w' w.heap.size 2 1 R ys.length d (ints ys) ∧ (∀ b, blk L = some b → blk R ≠ some b) ∧ Below w.heap.size w w'

set_option maxHeartbeats 2000000 in
theorem config_any (g : Nat) (sy st : Int) (A : Option Addr) (n k : Nat) (q : Int) (lo : Nat) (ls rs : List Int) (w : World) (hs : Sides w lo g sy st A n k q ls rs) (hll : ls.length ≤ 1000000) (hrl : rs.length ≤ 1000000) :
    Calls Try.prog 115 #[.pointer (some ⟨g, 0, none⟩)] w (NewConf w q ls.reverse rs.reverse) := by
  obtain ⟨L, c, R, d, hr, ol, or_, _⟩ := hs
  obtain ⟨W, hW⟩ : ∃ W, W = w.alloc (.cells #[.int .i64 0, .slice none 0 0, .slice none 0 0] 50) := ⟨_, rfl⟩
  have b0 : Blk W w.heap.size 50 #[.int .i64 0, .slice none 0 0, .slice none 0 0] := by rw [hW]; exact Blk.new w _ _
  have y0 : Below w.heap.size w W := by rw [hW]; exact (Below.refl _ _).alloc (Nat.le_refl _) _
  have HW := Lib.hid hW
  clear hW
  have hrW : RunAt W g sy st A n k q L ls.length c R rs.length d := Blk.below' hr y0
  have q3 : W.cell? ⟨g, 3, none⟩ = some (.int .i64 q) := hrW.cell 3
  have q4 : W.cell? ⟨g, 4, none⟩ = some (.slice L ls.length c) := hrW.cell 4
  have q5 : W.cell? ⟨g, 5, none⟩ = some (.slice R rs.length d) := hrW.cell 5
  have hgw : g < w.heap.size := hr.lt
  have n1 : ¬ g = w.heap.size := by omega
  have hwW : w.heap.size < W.heap.size := b0.lt
  have slW := ((ol.below y0).drewN 1).rd
  have srW := (or_.below y0).rd
  go_enter Try.func115, Try.ntmps115
  go_wp2_with fail
  rw [← HW.out]
  go_region_held3 (fun w' => w'.cell? ⟨g, 3, none⟩ = some (.int .i64 q) ∧ w'.cell? ⟨g, 4, none⟩ = some (.slice L ls.length c) ∧ w'.cell? ⟨g, 5, none⟩ = some (.slice R rs.length d))
    (first
      | (go_keep; done)
      | (exact ⟨far_set n1 (far_set n1 (far_set n1 ((Blk.below' hrW z3).cell 3))), far_set n1 (far_set n1 (far_set n1 ((Blk.below' hrW z3).cell 4))), far_set n1 (far_set n1 (far_set n1 ((Blk.below' hrW z3).cell 5)))⟩)
      | (exact ⟨(Blk.below' hrW z3).cell 3, (Blk.below' hrW z3).cell 4, (Blk.below' hrW z3).cell 5⟩)
      | (exact ⟨(Blk.below' hrW z2).cell 3, (Blk.below' hrW z2).cell 4, (Blk.below' hrW z2).cell 5⟩))
    (first
      | (go_at_call_of 199 (Value.slice L ls.length c); refine (reversed_any _ _ _ ls _ slW (by omega)).mono ?_; rintro e w2 ⟨L2, cl, rfl, ol2, z2'⟩; have z2 : Below W.heap.size W w2 := below_undrew z2')
      | (go_at_call_of 199 (Value.slice R rs.length d); refine (reversed_any _ _ _ rs _ (SI.below (xs := rs) srW z2) (by omega)).mono ?_; rintro e w3 ⟨R2, cr, rfl, or2, z3'⟩; have z3 : Below W.heap.size W w3 := z2.trans (z3'.mono z2.size)
         have e0 : w3.cell? ⟨w.heap.size, 0, none⟩ = some (.int .i64 0) := (b0.below' z3).cell 0
         have e1 : w3.cell? ⟨w.heap.size, 1, none⟩ = some (.slice none 0 0) := (b0.below' z3).cell 1
         have e2 : w3.cell? ⟨w.heap.size, 2, none⟩ = some (.slice none 0 0) := (b0.below' z3).cell 2
         have f0 := (b0.below' z3).frozen 0
         have f1 := (b0.below' z3).frozen 1
         have f2 := (b0.below' z3).frozen 2))
  go_wp2_with fail
  have d1 : Blk (((w3.setCell ⟨w.heap.size, 0, none⟩ (.int .i64 q)).setCell ⟨w.heap.size, 1, none⟩ (.slice L2 ls.length cl)).setCell ⟨w.heap.size, 2, none⟩ (.slice R2 rs.length cr)) w.heap.size 50 #[.int .i64 q, .slice L2 ls.length cl, .slice R2 rs.length cr] := (((b0.below' z3).set_ 0 _).set_ 1 _).set_ 2 _
  rw [List.length_reverse] at ol2 or2
  have hz2 : W.heap.size ≤ w2.heap.size := z2.size
  have olf : Own (((w3.setCell ⟨w.heap.size, 0, none⟩ (.int .i64 q)).setCell ⟨w.heap.size, 1, none⟩ (.slice L2 ls.length cl)).setCell ⟨w.heap.size, 2, none⟩ (.slice R2 rs.length cr)) W.heap.size 2 1 L2 ls.length cl (ints ls.reverse) :=
    (((Own.below ol2 z3').far (fun e => by have h : W.heap.size ≤ w.heap.size := ol2.blk_ge _ e; omega) _).far (fun e => by have h : W.heap.size ≤ w.heap.size := ol2.blk_ge _ e; omega) _).far (fun e => by have h : W.heap.size ≤ w.heap.size := ol2.blk_ge _ e; omega) _
  have orf : Own (((w3.setCell ⟨w.heap.size, 0, none⟩ (.int .i64 q)).setCell ⟨w.heap.size, 1, none⟩ (.slice L2 ls.length cl)).setCell ⟨w.heap.size, 2, none⟩ (.slice R2 rs.length cr)) w2.heap.size 2 1 R2 rs.length cr (ints rs.reverse) :=
    ((or2.far (fun e => by have h : w2.heap.size ≤ w.heap.size := or2.blk_ge _ e; omega) _).far (fun e => by have h : w2.heap.size ≤ w.heap.size := or2.blk_ge _ e; omega) _).far (fun e => by have h : w2.heap.size ≤ w.heap.size := or2.blk_ge _ e; omega) _
  have yf : Below w.heap.size w (((w3.setCell ⟨w.heap.size, 0, none⟩ (.int .i64 q)).setCell ⟨w.heap.size, 1, none⟩ (.slice L2 ls.length cl)).setCell ⟨w.heap.size, 2, none⟩ (.slice R2 rs.length cr)) := (((y0.trans (z3.mono y0.size)).setCell (Nat.le_refl _) _).setCell (Nat.le_refl _) _).setCell (Nat.le_refl _) _
  generalize ((w3.setCell ⟨w.heap.size, 0, none⟩ (.int .i64 q)).setCell ⟨w.heap.size, 1, none⟩ (.slice L2 ls.length cl)).setCell ⟨w.heap.size, 2, none⟩ (.slice R2 rs.length cr) = wf at *
  have g0 : wf.cell? ⟨w.heap.size, 0, none⟩ = some (.int .i64 q) := d1.cell 0
  have g1 : wf.cell? ⟨w.heap.size, 1, none⟩ = some (.slice L2 ls.length cl) := d1.cell 1
  have g2 : wf.cell? ⟨w.heap.size, 2, none⟩ = some (.slice R2 rs.length cr) := d1.cell 2
  have hres : NewConf w q ls.reverse rs.reverse (.returned (.agg #[.int .i64 q, .slice L2 ls.length cl, .slice R2 rs.length cr])) wf := by
    refine ⟨L2, cl, R2, cr, by rw [List.length_reverse, List.length_reverse], by rw [List.length_reverse]; exact olf.mono (by omega), by rw [List.length_reverse]; exact orf.mono (by omega), fun b h5 h6 => ?_, yf⟩
    have h7 := ol2.blk_lt b h5
    have h8 := or2.blk_ge b h6
    omega
  exact bodyPost_ret (v := .agg #[.int .i64 q, .slice L2 ls.length cl, .slice R2 rs.length cr]) (by simp [results, Try.results115, go_sem, g0, g1, g2]) rfl hres

/-- The rule that a configuration looks at (the sides as they stand in a configuration, the nearest symbols first). -/
def ruleOf (sy : Int) (rs : List R3) (q : Int) (ys : List Int) : R3 := rs.getD (atI sy q ys.reverse).toNat ⟨0, 0, -1⟩
/-- What a step of a machine comes to: a state, two sides, a code. -/
structure Conf where
  q : Int
  xs : List Int
  ys : List Int
def stepC (r : R3) (xs ys : List Int) : Conf := ⟨r.c, (stepL r xs.reverse).reverse, (stepR r xs.reverse ys.reverse).reverse⟩
def roomC (c : Conf) : Bool := roomB c.xs c.ys
def stepMachF (sy st : Int) (rs : List R3) (q : Int) (xs ys : List Int) : Conf × Int :=
  if validConfB sy st rs q xs ys then
    (if isRuleB (ruleOf sy rs q ys) then (if roomC (stepC (ruleOf sy rs q ys) xs ys) then (stepC (ruleOf sy rs q ys) xs ys, 0) else (⟨0, [], []⟩, 5)) else (⟨0, [], []⟩, 6))
  else (⟨0, [], []⟩, 1)

theorem conf_parts {sy st : Int} {rs : List R3} {q : Int} {xs ys : List Int} (h : validConfB sy st rs q xs ys = true) :
    2 ≤ sy ∧ sy ≤ 6 ∧ 1 ≤ st ∧ st ≤ 1000 ∧ (rs.length : Int) = st * sy ∧ 0 ≤ q ∧ q ≤ st - 1 ∧ xs.length ≤ 200 ∧ ys.length ≤ 200 ∧ (∀ x ∈ xs, 0 ≤ x ∧ x ≤ sy - 1) ∧ (∀ y ∈ ys, 0 ≤ y ∧ y ≤ sy - 1) ∧ ∀ r ∈ rs, validRuleB sy st r = true := by
  unfold validConfB at h
  simp only [Bool.and_eq_true] at h
  obtain ⟨hm, hc⟩ := h
  obtain ⟨p1, p2, p3, p4, p5, p6⟩ := machB_parts hm
  unfold confB sideB allIn at hc
  simp only [Bool.and_eq_true, inB_iff, decide_eq_true_eq, List.all_eq_true] at hc
  exact ⟨p1, p2, p3, p4, p5, hc.1.1.1, hc.1.1.2, by omega, by omega, hc.1.2.1.2, hc.2.1.2, p6⟩
theorem lastI_mem {xs : List Int} : lastI xs = 0 ∨ lastI xs ∈ xs := by
  unfold lastI
  rcases List.eq_nil_or_concat xs with rfl | ⟨l, a, rfl⟩
  · exact .inl rfl
  · right; simp
theorem at_parts {sy st q : Int} {ys : List Int} {n : Nat} (h1 : 2 ≤ sy) (h2 : sy ≤ 6) (_h3 : 1 ≤ st) (h4 : st ≤ 1000) (hn : (n : Int) = st * sy) (h5 : 0 ≤ q) (h6 : q ≤ st - 1) (hy : ∀ y ∈ ys, 0 ≤ y ∧ y ≤ sy - 1) :
    0 ≤ q * sy ∧ q * sy ≤ 6000 ∧ 0 ≤ lastI ys ∧ lastI ys ≤ 5 ∧ ∃ idx : Nat, atI sy q ys = (idx : Int) ∧ idx < n := by
  have a1 : 0 ≤ q * sy := Int.mul_nonneg h5 (by omega)
  have a2 : q * sy ≤ (st - 1) * sy := Int.mul_le_mul_of_nonneg_right h6 (by omega)
  have a3 : (st - 1) * sy = st * sy - sy := by rw [Int.sub_mul]; omega
  have a4 : st * sy ≤ 1000 * sy := Int.mul_le_mul_of_nonneg_right h4 (by omega)
  have a5 : 0 ≤ lastI ys ∧ lastI ys ≤ sy - 1 := by
    rcases lastI_mem (xs := ys) with h | h
    · rw [h]; omega
    · exact hy _ h
  refine ⟨a1, by omega, a5.1, by omega, (atI sy q ys).toNat, ?_, ?_⟩
  · unfold atI; omega
  · unfold atI; omega
theorem ruleOf_get {sy q : Int} {rs : List R3} {ys : List Int} {idx : Nat} (h : atI sy q ys.reverse = (idx : Int)) (hlt : idx < rs.length) : rs[idx]? = some (ruleOf sy rs q ys) := by
  unfold ruleOf
  rw [h, Int.toNat_natCast, List.getElem?_eq_getElem hlt]
  simp [List.getElem?_eq_getElem hlt]

/-- A configuration in new memory and a code. -/
def NewConf2 (w : World) (r : Conf × Int) (e : Ending) (w' : World) : Prop :=
  ∃ L c R d, e = .returned (.tuple #[.agg #[.int .i64 r.1.q, .slice L r.1.xs.length c, .slice R r.1.ys.length d], .int .i64 r.2]) ∧ Own w' w.heap.size 2 1 L r.1.xs.length c (ints r.1.xs) ∧ Own w' w.heap.size 2 1 R r.1.ys.length d (ints r.1.ys) ∧ (∀ b, blk L = some b → blk R ≠ some b) ∧ Below w.heap.size w w'
end Go.Proofs.Ytbpofkggoolmpaa

/-
  Contract of impl's StepMachine.
-/
namespace Go.Proofs.Ytbpofkggoolmpaa
open Go.RowKit

theorem newConf2_zero {w wf : World} {k : Int} {r : Conf × Int} (hr : r = (⟨0, [], []⟩, k)) (hz : Below w.heap.size w wf) : NewConf2 w r (.returned (.tuple #[.agg #[.int .i64 0, .slice none 0 0, .slice none 0 0], .int .i64 k])) wf := by
  subst hr
  exact ⟨none, 0, none, 0, rfl, Own.nil, Own.nil, fun b h => by simp [blk] at h, hz⟩

theorem conf_set {w : World} {g : Nat} {a b c : Value} {t : TypeId} (h : Blk w g t #[a, b, c]) (x y z : Value) : Blk (((w.setCell ⟨g, 0, none⟩ x).setCell ⟨g, 1, none⟩ y).setCell ⟨g, 2, none⟩ z) g t #[x, y, z] := ((h.set_ 0 x).set_ 1 y).set_ 2 z
theorem conf_below {w w' : World} {g lo : Nat} (h : Below lo w w') (hg : lo ≤ g) (x y z : Value) : Below lo w (((w'.setCell ⟨g, 0, none⟩ x).setCell ⟨g, 1, none⟩ y).setCell ⟨g, 2, none⟩ z) := ((h.setCell hg _).setCell hg _).setCell hg _
theorem conf_far {w : World} {g lo s n c : Nat} {t : TypeId} {A : Option Addr} {cs : List Value} (h : Own w lo t s A n c cs) (hg : g < lo) (x y z : Value) : Own (((w.setCell ⟨g, 0, none⟩ x).setCell ⟨g, 1, none⟩ y).setCell ⟨g, 2, none⟩ z) lo t s A n c cs := by
  have hb : blk A ≠ some g := fun e => by have := h.blk_ge _ e; omega
  exact ((h.far (p := ⟨g, 0, none⟩) hb _).far (p := ⟨g, 1, none⟩) hb _).far (p := ⟨g, 2, none⟩) hb _

end Go.Proofs.Ytbpofkggoolmpaa

/-
  Contract of the reference's l05Step.
-/
namespace Go.Proofs.Ytbpofkggoolmpaa
open Go.RowKit

def SpecConf (w : World) (r : Conf) (v : Bool) (e : Ending) (w' : World) : Prop :=
  ∃ L c R d, e = .returned (.tuple #[.agg #[.int .i64 r.q, .slice L r.xs.length c, .slice R r.ys.length d], .bool v]) ∧ Own w' w.heap.size 2 1 L r.xs.length c (ints r.xs) ∧ Own w' w.heap.size 2 1 R r.ys.length d (ints r.ys) ∧ (∀ b, blk L = some b → blk R ≠ some b) ∧ Below w.heap.size w w'

def stepS (r : R3) (xs ys : List Int) : Conf :=
  ⟨r.c, if 0 < r.b then trimI (r.a :: xs) else xs.tail, if 0 < r.b then ys.tail else trimI (xs.headD 0 :: trimI (r.a :: ys.tail))⟩

theorem room_eq {xs ys : List Int} {a b : Nat} (h : xs.length = a) (h' : ys.length = b) : roomB xs ys = (decide ((a : Int) ≤ 200) && decide ((b : Int) ≤ 200)) := by
  unfold roomB; subst h; subst h'
  congr 1 <;> (rw [decide_eq_decide]; omega)
theorem trim_len (xs : List Int) : (trimI xs).length ≤ xs.length := by
  unfold trimI; rw [List.length_reverse]
  have := (List.dropWhile_sublist (fun x : Int => x == 0) (l := xs.reverse)).length_le
  simpa using this
theorem trim_good {xs : List Int} (h : xs = [] ∨ lastI xs ≠ 0) : trimI xs = xs := by
  rcases List.eq_nil_or_concat xs with rfl | ⟨l, a, rfl⟩
  · rfl
  · rcases h with h | h
    · simp at h
    · have h' : a ≠ 0 := by simpa [lastI] using h
      have := trim_snoc l (x := a) (by simpa using h')
      simpa using this
theorem trim_push {xs : List Int} (h : xs = [] ∨ lastI xs ≠ 0) (x : Int) : trimI (x :: xs) = (pushI xs.reverse x).reverse := by
  unfold pushI
  by_cases hx : xs = []
  · subst hx
    by_cases h0 : x = 0
    · subst h0; rfl
    · simp [h0]
      exact trim_good (xs := [x]) (.inr (by simpa [lastI] using h0))
  · have h1 : lastI xs ≠ 0 := by rcases h with h | h; exact absurd h hx; exact h
    have h2 : lastI (x :: xs) = lastI xs := by unfold lastI; cases xs with | nil => exact absurd rfl hx | cons y ys => simp
    rw [trim_good (.inr (by rw [h2]; exact h1)), if_neg (by simp [hx])]
    simp
theorem good_tail {xs : List Int} (h : xs = [] ∨ lastI xs ≠ 0) : xs.tail = [] ∨ lastI xs.tail ≠ 0 := by
  cases xs with
  | nil => exact .inl rfl
  | cons x l =>
    cases l with
    | nil => exact .inl rfl
    | cons y l =>
      right
      rcases h with h | h
      · simp at h
      · unfold lastI at h ⊢; simpa using h
theorem good_push {xs : List Int} (h : xs = [] ∨ lastI xs ≠ 0) (x : Int) : (pushI xs.reverse x).reverse = [] ∨ lastI (pushI xs.reverse x).reverse ≠ 0 := by
  unfold pushI
  by_cases hx : xs = []
  · subst hx
    by_cases h0 : x = 0
    · subst h0; exact .inl rfl
    · right; simp [h0, lastI]
  · right
    have h1 : lastI xs ≠ 0 := by rcases h with h | h; exact absurd h hx; exact h
    have h2 : lastI (x :: xs) = lastI xs := by unfold lastI; cases xs with | nil => exact absurd rfl hx | cons y ys => simp
    rw [if_neg (by simp [hx])]
    simp
    rw [h2]; exact h1
theorem rev_dropLast (ys : List Int) : ys.reverse.dropLast.reverse = ys.tail := by cases ys <;> simp
theorem stepS_eq {r : R3} {xs ys : List Int} (hx : xs = [] ∨ lastI xs ≠ 0) (hy : ys = [] ∨ lastI ys ≠ 0) : stepS r xs ys = stepC r xs ys := by
  unfold stepS stepC stepL stepR
  by_cases h : 0 < r.b
  · rw [if_pos h, if_pos h, if_pos h, if_pos h, trim_push hx, rev_dropLast]
  · rw [if_neg h, if_neg h, if_neg h, if_neg h, rev_dropLast, trim_push (good_tail hy), trim_push (good_push (good_tail hy) _), List.reverse_reverse, ← lastI_reverse]
    have : ys.tail.reverse = ys.reverse.dropLast := by rw [← rev_dropLast ys, List.reverse_reverse]
    rw [this]

end Go.Proofs.Ytbpofkggoolmpaa

/-
  Contract of the reference's StepMachine.
-/
namespace Go.Proofs.Ytbpofkggoolmpaa
open Go.RowKit

theorem conf_good {sy st : Int} {rs : List R3} {q : Int} {xs ys : List Int} (h : validConfB sy st rs q xs ys = true) : (xs = [] ∨ lastI xs ≠ 0) ∧ (ys = [] ∨ lastI ys ≠ 0) := by
  unfold validConfB at h
  simp only [Bool.and_eq_true] at h
  have hc := h.2
  unfold confB sideB at hc
  simp only [Bool.and_eq_true, Bool.or_eq_true, decide_eq_true_eq, bne_iff_ne, ne_eq] at hc
  exact ⟨hc.1.2.2, hc.2.2⟩

end Go.Proofs.Ytbpofkggoolmpaa

/-
  Runs of a machine, in plain words: the i-th configuration, runs that are alive, their ends.
-/
namespace Go.Proofs.Ytbpofkggoolmpaa
open Go.RowKit

def haltC (sy : Int) (rs : List R3) (c : Conf) : Bool := !isRuleB (ruleOf sy rs c.q c.ys)
def nextC (sy : Int) (rs : List R3) (c : Conf) : Conf := stepC (ruleOf sy rs c.q c.ys) c.xs c.ys
def itC (sy : Int) (rs : List R3) (c : Conf) : Nat → Conf
  | 0 => c
  | i + 1 => nextC sy rs (itC sy rs c i)
def goodC (sy st : Int) (rs : List R3) (c : Conf) : Prop := validConfB sy st rs c.q c.xs c.ys = true

theorem side_push {sy : Int} {xs : List Int} {x : Int} (hx : ∀ y ∈ xs, 0 ≤ y ∧ y ≤ sy - 1) (h : 0 ≤ x ∧ x ≤ sy - 1) : ∀ y ∈ pushI xs x, 0 ≤ y ∧ y ≤ sy - 1 := by
  unfold pushI
  split
  · exact hx
  · intro y hy
    rcases List.mem_append.1 hy with h1 | h1
    · exact hx y h1
    · rw [List.mem_singleton.1 h1]; exact h
theorem side_of {sy : Int} {xs : List Int} (hl : xs.length ≤ 200) (hx : ∀ y ∈ xs, 0 ≤ y ∧ y ≤ sy - 1) (hg : xs = [] ∨ lastI xs ≠ 0) : sideB xs sy 200 = true := by
  unfold sideB allIn
  simp only [Bool.and_eq_true, decide_eq_true_eq, List.all_eq_true, inB_iff, Bool.or_eq_true, bne_iff_ne, ne_eq]
  exact ⟨⟨by omega, hx⟩, hg⟩
theorem goodC_next {sy st : Int} {rs : List R3} {c : Conf} (h : goodC sy st rs c) (hh : haltC sy rs c = false) (hr : roomC (nextC sy rs c) = true) : goodC sy st rs (nextC sy rs c) := by
  obtain ⟨h1, h2, h3, h4, hn, h5, h6, hx2, hy2, hxm, hym, hrs⟩ := conf_parts h
  obtain ⟨gx, gy⟩ := conf_good h
  have hv : machB sy st rs = true := by unfold goodC validConfB at h; simp only [Bool.and_eq_true] at h; exact h.1
  obtain ⟨_, _, _, _, idx, hidx, hlt⟩ := at_parts (ys := c.ys.reverse) h1 h2 h3 h4 hn h5 h6 (fun y hy => hym y (List.mem_reverse.1 hy))
  have hget := ruleOf_get (rs := rs) (ys := c.ys) hidx hlt
  have hval := hrs _ (List.mem_of_getElem? hget)
  have hru : isRuleB (ruleOf sy rs c.q c.ys) = true := by unfold haltC at hh; simpa using hh
  unfold nextC at hr ⊢
  revert hr hval hru
  generalize ruleOf sy rs c.q c.ys = r
  intro hr hval hru
  unfold validRuleB at hval
  rw [hru] at hval
  simp only [Bool.not_true, Bool.false_or, Bool.and_eq_true, inB_iff] at hval
  obtain ⟨⟨ha, hb⟩, hc⟩ := hval
  unfold roomC roomB at hr
  simp only [Bool.and_eq_true, decide_eq_true_eq] at hr
  have hl0 : 0 ≤ lastI c.xs.reverse ∧ lastI c.xs.reverse ≤ sy - 1 := by
    rcases lastI_mem (xs := c.xs.reverse) with h0 | h0
    · rw [h0]; omega
    · exact hxm _ (List.mem_reverse.1 h0)
  have hxr : ∀ y ∈ c.xs.reverse, 0 ≤ y ∧ y ≤ sy - 1 := fun y hy => hxm y (List.mem_reverse.1 hy)
  have hyr : ∀ y ∈ c.ys.reverse, 0 ≤ y ∧ y ≤ sy - 1 := fun y hy => hym y (List.mem_reverse.1 hy)
  have hyd : ∀ y ∈ c.ys.reverse.dropLast, 0 ≤ y ∧ y ≤ sy - 1 := fun y hy => hyr y (List.dropLast_subset _ hy)
  have hxd : ∀ y ∈ c.xs.reverse.dropLast, 0 ≤ y ∧ y ≤ sy - 1 := fun y hy => hxr y (List.dropLast_subset _ hy)
  have hL : ∀ y ∈ (stepL r c.xs.reverse).reverse, 0 ≤ y ∧ y ≤ sy - 1 := by
    intro y hy
    rw [List.mem_reverse] at hy
    unfold stepL at hy
    split at hy
    · exact side_push hxr ha y hy
    · exact hxd y hy
  have hR : ∀ y ∈ (stepR r c.xs.reverse c.ys.reverse).reverse, 0 ≤ y ∧ y ≤ sy - 1 := by
    intro y hy
    rw [List.mem_reverse] at hy
    unfold stepR at hy
    split at hy
    · exact hyd y hy
    · exact side_push (side_push hyd ha) hl0 y hy
  have hgL : (stepL r c.xs.reverse).reverse = [] ∨ lastI (stepL r c.xs.reverse).reverse ≠ 0 := by
    unfold stepL
    split
    · exact good_push gx _
    · rw [rev_dropLast]; exact good_tail gx
  have hgR : (stepR r c.xs.reverse c.ys.reverse).reverse = [] ∨ lastI (stepR r c.xs.reverse c.ys.reverse).reverse ≠ 0 := by
    unfold stepR
    split
    · rw [rev_dropLast]; exact good_tail gy
    · have g1 := good_tail gy
      have e1 : c.ys.reverse.dropLast = c.ys.tail.reverse := by rw [← rev_dropLast, List.reverse_reverse]
      rw [e1]
      have g2 := good_push g1 r.a
      have e2 : pushI c.ys.tail.reverse r.a = (pushI c.ys.tail.reverse r.a).reverse.reverse := by rw [List.reverse_reverse]
      rw [e2]
      exact good_push g2 _
  unfold goodC validConfB confB
  simp only [Bool.and_eq_true, inB_iff]
  exact ⟨hv, ⟨⟨hc.1, hc.2⟩, side_of hr.1 hL hgL⟩, side_of hr.2 hR hgR⟩

/-- The run makes i steps. -/
def Alive (sy : Int) (rs : List R3) (c : Conf) (i : Nat) : Prop := ∀ j, j < i → haltC sy rs (itC sy rs c j) = false ∧ roomC (itC sy rs c (j + 1)) = true
theorem Alive.zero (sy : Int) (rs : List R3) (c : Conf) : Alive sy rs c 0 := fun j h => absurd h (Nat.not_lt_zero j)
theorem Alive.next {sy : Int} {rs : List R3} {c : Conf} {i : Nat} (h : Alive sy rs c i) (h1 : haltC sy rs (itC sy rs c i) = false) (h2 : roomC (itC sy rs c (i + 1)) = true) : Alive sy rs c (i + 1) := fun j hj => by
  by_cases e : j = i
  · subst e; exact ⟨h1, h2⟩
  · exact h j (by omega)
theorem Alive.good {sy st : Int} {rs : List R3} {c : Conf} {i : Nat} (h : Alive sy rs c i) (hc : goodC sy st rs c) : goodC sy st rs (itC sy rs c i) := by
  induction i with
  | zero => exact hc
  | succ i ih => exact goodC_next (ih (fun j hj => h j (by omega))) (h i (by omega)).1 (h i (by omega)).2
/-- The run ends behind i of at most N steps. -/
def Ended (sy : Int) (rs : List R3) (c : Conf) (N i : Nat) : Prop := i ≤ N ∧ Alive sy rs c i ∧ (i = N ∨ haltC sy rs (itC sy rs c i) = true)
/-- The run has no room for the step behind i steps. -/
def Full (sy : Int) (rs : List R3) (c : Conf) (N i : Nat) : Prop := i < N ∧ Alive sy rs c i ∧ haltC sy rs (itC sy rs c i) = false ∧ roomC (itC sy rs c (i + 1)) = false

/-- What a run comes to: the number of steps, or none without room. -/
def runN (sy : Int) (rs : List R3) : Nat → Conf → Option Nat
  | 0, _ => some 0
  | N + 1, c => if haltC sy rs c then some 0 else if roomC (nextC sy rs c) then (runN sy rs N (nextC sy rs c)).map (· + 1) else none
theorem itC_shift (sy : Int) (rs : List R3) (c : Conf) (i : Nat) : itC sy rs (nextC sy rs c) i = itC sy rs c (i + 1) := by
  induction i with
  | zero => rfl
  | succ i ih => show nextC sy rs (itC sy rs (nextC sy rs c) i) = nextC sy rs (itC sy rs c (i + 1)); rw [ih]
theorem Alive.shift {sy : Int} {rs : List R3} {c : Conf} {i : Nat} (h : Alive sy rs c (i + 1)) : Alive sy rs (nextC sy rs c) i := fun j hj => by
  rw [itC_shift, itC_shift]; exact h (j + 1) (by omega)
theorem runN_ended {sy : Int} {rs : List R3} : ∀ {N : Nat} {c : Conf} {i : Nat}, Ended sy rs c N i → runN sy rs N c = some i := by
  intro N
  induction N with
  | zero => rintro c i ⟨h1, _, _⟩; obtain rfl : i = 0 := by omega
            rfl
  | succ N ih =>
    rintro c i ⟨h1, h2, h3⟩
    cases i with
    | zero =>
      rcases h3 with h3 | h3
      · omega
      · unfold runN; rw [if_pos (show haltC sy rs c = true from h3)]
    | succ i =>
      have h0 := h2 0 (by omega)
      unfold runN
      rw [if_neg (by rw [show haltC sy rs c = false from h0.1]; simp), if_pos (show roomC (nextC sy rs c) = true from h0.2), ih (i := i) ⟨by omega, h2.shift, ?_⟩]
      · rfl
      · rcases h3 with h3 | h3
        · left; omega
        · right; rw [itC_shift]; exact h3
theorem runN_full {sy : Int} {rs : List R3} : ∀ {N : Nat} {c : Conf} {i : Nat}, Full sy rs c N i → runN sy rs N c = none := by
  intro N
  induction N with
  | zero => rintro c i ⟨h1, _⟩; omega
  | succ N ih =>
    rintro c i ⟨h1, h2, h3, h4⟩
    cases i with
    | zero =>
      unfold runN
      rw [if_neg (by rw [show haltC sy rs c = false from h3]; simp), if_neg (by rw [show roomC (nextC sy rs c) = false from h4]; simp)]
    | succ i =>
      have h0 := h2 0 (by omega)
      unfold runN
      rw [if_neg (by rw [show haltC sy rs c = false from h0.1]; simp), if_pos (show roomC (nextC sy rs c) = true from h0.2), ih (i := i) ⟨by omega, h2.shift, by rw [itC_shift]; exact h3, by rw [itC_shift]; exact h4⟩]
      rfl
end Go.Proofs.Ytbpofkggoolmpaa

/-
  A range over a function whose iterator keeps state of its own in cells: the caller's law. No program is in sight.
-/
namespace Go.Proofs.Ytbpofkggoolmpaa
open Go.RowKit

variable {F : Fence} {n : Nat} {P : Program}

/-- The loop's own records: the loop and the deferred calls. -/
def isBook : Obj → Bool
  | .loop .. => true
  | .deferred .. => true
  | _ => false
theorem book_cells {o : Obj} (h : isBook o = true) : o.isCells = false := by cases o <;> first | rfl | cases h
theorem cells_book {o : Obj} (h : o.isCells = true) : isBook o = false := by cases o <;> first | rfl | cases h
/-- The loop's records lie as they lay. -/
structure KeepsBook (W W' : World) : Prop where
  size : W.heap.size ≤ W'.heap.size
  same : ∀ (k : Nat) (o : Obj), W.heap[k]? = some o → isBook o = true → W'.heap[k]? = some o
theorem KeepsBook.of {W W' : World} (h : KeepsOthers W W') : KeepsBook W W' := ⟨h.size, fun k o hk ho => h.same k o hk (book_cells ho)⟩
theorem KeepsBook.refl (W : World) : KeepsBook W W := KeepsBook.of (KeepsOthers.refl W)
theorem KeepsBook.trans {A B C : World} (h : KeepsBook A B) (k : KeepsBook B C) : KeepsBook A C := ⟨Nat.le_trans h.size k.size, fun i o hi ho => k.same i o (h.same i o hi ho) ho⟩
theorem KeepsBook.alloc (W : World) (o : Obj) : KeepsBook W (W.alloc o) := KeepsBook.of (KeepsOthers.alloc W o)
theorem KeepsBook.setCell (W : World) (a : Addr) (v : Value) : KeepsBook W (W.setCell a v) := KeepsBook.of (KeepsOthers.setCell W a v)

/-- The contract of an iterator. J x: where yield is called with x. J' x: behind a round that goes on. Jx c x: behind a round that left by c. B, Bx: the loop's own book-keeping. -/
def SeqC {α : Type} (F : Fence) (n : Nat) (P : Program) (g : Nat) (lb : Array Value) (encs : α → Array Value) (J J' : α → World → Prop) (Jx : Code → α → World → Prop) (Start Fin : World → Prop) (FinX : Code → World → Prop) : Prop :=
  ∀ (l : Nat) (B : World → Prop) (Bx : Code → World → Prop), (∀ W W', B W → KeepsBook W W' → B W') → (∀ c W W', Bx c W → KeepsBook W W' → Bx c W') →
    (∀ x W, J x W → B W → YieldAt F (n - 1) P l (encs x) W fun e W' => (e = .returned (.bool true) ∧ J' x W' ∧ B W') ∨ (e = .returned (.bool false) ∧ ∃ c, Jx c x W' ∧ Bx c W')) →
    ∀ W, Start W → B W → CallsIn F n P g (#[.func (.yield l) #[] #[]] ++ lb) W fun e W' => (∃ v, e = .returned v) ∧ ((Fin W' ∧ B W') ∨ (∃ c, FinX c W' ∧ Bx c W'))

def stPost {α : Type} (J' : α → World → Prop) (Jx : Code → α → World → Prop) (x : α) (W : World) : Exit → Act → World → Prop
  | .normal, _, W' => KeepsBook W W' ∧ J' x W'
  | .ret, _, W' => KeepsBook W W' ∧ Jx .ret x W'
  | .exit id, _, W' => KeepsBook W W' ∧ Jx (.exit id) x W'
  | .goto t, _, W' => KeepsBook W W' ∧ Jx (.goto t) x W'
  | .panic _, _, _ => False
  | .outgrown, _, _ => False

/-- A word that abides a turn of a block that holds no cells. -/
def PutOk (b0 : Nat) (I : World → Prop) : Prop := ∀ (W : World) (l : Nat) (o o' : Obj), I W → b0 ≤ l → W.heap[l]? = some o → isBook o = true → I (W.putObj l o')

theorem keeps_loop {W W' : World} {l : Nat} {o : Obj} (h : KeepsBook W W') (hl : W.heap[l]? = some o) (ho : isBook o = true) : W'.heap[l]? = some o := h.same l o hl ho

theorem wpIn_rangeFunc_st {α : Type} {g : Operand} {ps : Array Tmp} {assign body : Code} {Q : Exit → Act → World → Prop} {a : Act} {w : World}
    (hro : F.round = none) (h1 : 1 ≤ n) {gf : Nat} {lb : Array Value} (hg : a.eval g = .func (.func gf) #[] lb) (hFg : F.fn gf) (eg : ∀ args w, (callFunc gf args).run P w = .ok (.enter gf args) w)
    {encs : α → Array Value} {J J' : α → World → Prop} {Jx : Code → α → World → Prop} {Start Fin : World → Prop} {FinX : Code → World → Prop} (hseq : SeqC F (n - 1) P gf lb encs J J' Jx Start Fin FinX)
    (hps : ∀ x, (encs x).size = ps.size) (hJ : ∀ x, PutOk w.heap.size (J x)) (hJ' : ∀ x, PutOk w.heap.size (J' x)) (hJx : ∀ c x, PutOk w.heap.size (Jx c x)) (hFin : PutOk w.heap.size Fin) (hFinX : ∀ c, PutOk w.heap.size (FinX c))
    (hstart : ∀ r, Start ((w.alloc (.deferred (some []))).alloc (.loop r))) (a₁ : α → Act)
    (hassign : ∀ (l : Nat) (x : α) (W : World) (K : Act → World → Prop), K (a₁ x) W →
      assign.wpIn (F.inRound l) (n - 1 - 1) P (Exit.then K (fun _ _ _ => False)) { tmps := (ps.zip (encs x)).foldl (fun t (p, v) => t.setIfInBounds p v) a.tmps, defers := [] } W)
    (hbody : ∀ (l : Nat) (x : α) (W : World), w.heap.size ≤ l → J x W → body.wpIn (F.inRound l) (n - 1 - 1) P (stPost J' Jx x W) (a₁ x) W)
    (hdone : ∀ (D : Nat) (W : World), w.heap.size ≤ D → Fin W → W.heap[D]? = some (.deferred (some [])) → Q .normal { a with defers := { target := .collected D, args := #[] } :: a.defers } W)
    (hstop : ∀ (D : Nat) (c : Code) (W : World), w.heap.size ≤ D → FinX c W → W.heap[D]? = some (.deferred (some [])) → c.wpIn F n P Q { a with defers := { target := .collected D, args := #[] } :: a.defers } W) :
    (Code.rangeFunc g ps assign body).wpIn F n P Q a w := by
  refine wpIn_rangeFunc ?_
  intro fn hfn
  rw [hro]
  obtain ⟨rec, hrec⟩ : ∃ rec : LoopState → Option Code → Loop, rec = fun st pe => { state := st, pending := pe, fn, tmps := a.tmps, params := ps, assign, body, defers := w.heap.size } := ⟨_, rfl⟩
  obtain ⟨W1, hW1⟩ : ∃ W1, (w.alloc (.deferred (some []))).alloc (.loop (rec .ready none)) = W1 := ⟨_, rfl⟩
  have hL1 : W1.heap[w.heap.size + 1]? = some (.loop (rec .ready none)) := by
    rw [← hW1]; have := World.alloc_heap_new (w.alloc (.deferred (some []))) (.loop (rec .ready none)); rwa [World.size_alloc] at this
  have hK1 : W1.heap[w.heap.size]? = some (.deferred (some [])) := by
    rw [← hW1]; exact (Below.heap_alloc _ _ _ (by simp)).trans (World.alloc_heap_new w _)
  have hS1 : Start W1 := by rw [← hW1]; exact hstart _
  refine ⟨w.heap.size + 1, [{ target := .collected w.heap.size, args := #[] }], W1, { target := .fn (.func gf) lb, args := #[.func (.yield (w.heap.size + 1)) #[] #[]] }, W1, gf,
    #[.func (.yield (w.heap.size + 1)) #[] #[]] ++ lb, W1, ?_, ?_, ?_, ?_, fun _ => h1, ?_⟩
  · rw [← hW1, hrec]; exact run_enterLoop_outer _ _ _ _ _
  · simp only [resolve, hg]
    simp [go_sem]
  · intro f' hf'; simp [Target.leads] at hf'; subst hf'; exact hFg
  · simp [invoke, go_sem, eg]
  · refine (hseq (w.heap.size + 1)
      (fun W => W.heap[w.heap.size + 1]? = some (.loop (rec .ready none)) ∧ W.heap[w.heap.size]? = some (.deferred (some [])))
      (fun c W => W.heap[w.heap.size + 1]? = some (.loop (rec .done (some c))) ∧ W.heap[w.heap.size]? = some (.deferred (some [])))
      (fun W W' h k => ⟨keeps_loop k h.1 rfl, keeps_loop k h.2 rfl⟩) (fun c W W' h k => ⟨keeps_loop k h.1 rfl, keeps_loop k h.2 rfl⟩) ?_ W1 hS1 ⟨hL1, hK1⟩).mono ?_
    · rintro x W hi ⟨hl, hk⟩
      have hlt : w.heap.size + 1 < W.heap.size := (Array.getElem?_eq_some_iff.1 hl).1
      have hy := run_yield (P := P) (args := encs x) hl (by rw [hrec]; exact hps x)
      rw [hrec] at hy
      refine ⟨fn, _, assign, body, hy, roundIn_of_wpIn hfn (hassign _ x W _ ⟨_, run_beginRound hl (by rw [hrec]), ?_⟩)⟩
      have hl2 : (W.putObj (w.heap.size + 1) (.loop { rec .ready none with state := .busy })).heap[w.heap.size + 1]? = some (.loop { rec .ready none with state := .busy }) := World.putObj_heap_same hlt
      have hk2 : (W.putObj (w.heap.size + 1) (.loop { rec .ready none with state := .busy })).heap[w.heap.size]? = some (.deferred (some [])) := (World.putObj_heap_other (by omega)).trans hk
      refine wpIn_mono (hbody _ x _ (by omega) (hJ x _ _ _ _ hi (by omega) hl rfl)) ?_
      have fin : ∀ (jump : Option Code) (W3 : World), KeepsBook (W.putObj (w.heap.size + 1) (.loop { rec .ready none with state := .busy })) W3 →
          (Instr.endRound (w.heap.size + 1) jump).run P W3 = .ok (.bool jump.isNone) (W3.putObj (w.heap.size + 1) (.loop (rec (if jump.isNone then .ready else .done) jump))) ∧
          W3.heap[w.heap.size + 1]? = some (.loop { rec .ready none with state := .busy }) ∧
          (W3.putObj (w.heap.size + 1) (.loop (rec (if jump.isNone then .ready else .done) jump))).heap[w.heap.size + 1]? = some (.loop (rec (if jump.isNone then .ready else .done) jump)) ∧
          (W3.putObj (w.heap.size + 1) (.loop (rec (if jump.isNone then .ready else .done) jump))).heap[w.heap.size]? = some (.deferred (some [])) := fun jump W3 hk3 => by
        have hl3 := hk3.same _ _ hl2 rfl
        have := run_endRound (P := P) jump hl3
        rw [hrec] at this ⊢
        exact ⟨this, by rw [hrec] at hl3; exact hl3, World.putObj_heap_same (Array.getElem?_eq_some_iff.1 hl3).1, (World.putObj_heap_other (by omega)).trans (hk3.same _ _ hk2 rfl)⟩
      rintro e a3 W3 hp
      cases e with
      | normal =>
        obtain ⟨hk3, hi3⟩ := hp
        obtain ⟨hr, hl3, hl4, hk4⟩ := fin none W3 hk3
        exact ⟨_, _, hr, .inl ⟨rfl, hJ' x _ _ _ _ hi3 (by omega) hl3 rfl, hl4, hk4⟩⟩
      | ret =>
        obtain ⟨hk3, hi3⟩ := hp
        obtain ⟨hr, hl3, hl4, hk4⟩ := fin (some .ret) W3 hk3
        exact ⟨_, _, hr, .inr ⟨rfl, .ret, hJx _ x _ _ _ _ hi3 (by omega) hl3 rfl, hl4, hk4⟩⟩
      | exit id =>
        obtain ⟨hk3, hi3⟩ := hp
        obtain ⟨hr, hl3, hl4, hk4⟩ := fin (some (.exit id)) W3 hk3
        exact ⟨_, _, hr, .inr ⟨rfl, .exit id, hJx _ x _ _ _ _ hi3 (by omega) hl3 rfl, hl4, hk4⟩⟩
      | goto t =>
        obtain ⟨hk3, hi3⟩ := hp
        obtain ⟨hr, hl3, hl4, hk4⟩ := fin (some (.goto t)) W3 hk3
        exact ⟨_, _, hr, .inr ⟨rfl, .goto t, hJx _ x _ _ _ _ hi3 (by omega) hl3 rfl, hl4, hk4⟩⟩
      | panic ch => exact hp.elim
      | outgrown => exact hp.elim
    · rintro e W2 ⟨⟨v, rfl⟩, (⟨hi, hl, hk⟩ | ⟨c, hi, hl, hk⟩)⟩
      · exact ⟨none, _, by have := run_endLoop (P := P) hl (by rw [hrec]; simp); rw [hrec] at this; exact this, hdone _ _ (Nat.le_refl _) (hFin _ _ _ _ hi (by omega) hl rfl) ((World.putObj_heap_other (by omega)).trans hk)⟩
      · exact ⟨some c, _, by have := run_endLoop (P := P) hl (by rw [hrec]; simp); rw [hrec] at this; exact this, hstop _ c _ (Nat.le_refl _) (hFinX c _ _ _ _ hi (by omega) hl rfl) ((World.putObj_heap_other (by omega)).trans hk)⟩
end Go.Proofs.Ytbpofkggoolmpaa
