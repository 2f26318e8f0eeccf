/-
  Contracts of impl's runner.config and StepMachine.
-/
import Derived.Test.YthipbeggaeogcaaMachN
namespace Go.Proofs.Ythipbeggaeogcaa
open Go.RowKit

def NewConf (w : World) (q : Int) (xs ys : List Int) (e : Ending) (w' : World) : Prop :=
  ∃ L c R d, e = .returned (.agg #[.int .i64 q, .slice L xs.length c, .slice R ys.length d]) ∧ Own w' w.heap.size 2 1 L xs.length c (ints xs) ∧ Own w' w.heap.size 2 1 R ys.length d (ints ys) ∧ (∀ b, blk L = some b → blk R ≠ some b) ∧ Below w.heap.size w w'

set_option maxHeartbeats 2000000 in
theorem config_any (g : Nat) (sy st : Int) (A : Option Addr) (n k : Nat) (q : Int) (lo : Nat) (ls rs : List Int) (w : World) (hs : Sides w lo g sy st A n k q ls rs) (hll : ls.length ≤ 1000000) (hrl : rs.length ≤ 1000000) :
    Calls Try.prog 249 #[.pointer (some ⟨g, 0, none⟩)] w (NewConf w q ls.reverse rs.reverse) := by
  obtain ⟨L, c, R, d, hr, ol, or_, _⟩ := hs
  obtain ⟨W, hW⟩ : ∃ W, W = w.alloc (.cells #[.int .i64 0, .slice none 0 0, .slice none 0 0] 172) := ⟨_, rfl⟩
  have b0 : Blk W w.heap.size 172 #[.int .i64 0, .slice none 0 0, .slice none 0 0] := by rw [hW]; exact Blk.new w _ _
  have y0 : Below w.heap.size w W := by rw [hW]; exact (Below.refl _ _).alloc (Nat.le_refl _) _
  have HW := Lib.hid hW
  clear hW
  have hrW : RunAt W g sy st A n k q L ls.length c R rs.length d := Blk.below' hr y0
  have q3 : W.cell? ⟨g, 3, none⟩ = some (.int .i64 q) := hrW.cell 3
  have q4 : W.cell? ⟨g, 4, none⟩ = some (.slice L ls.length c) := hrW.cell 4
  have q5 : W.cell? ⟨g, 5, none⟩ = some (.slice R rs.length d) := hrW.cell 5
  have hgw : g < w.heap.size := hr.lt
  have n1 : ¬ g = w.heap.size := by omega
  have hwW : w.heap.size < W.heap.size := b0.lt
  have slW := ((ol.below y0).drewN 1).rd
  have srW := (or_.below y0).rd
  go_enter Try.func249, Try.ntmps249
  go_wp2_with fail
  rw [← HW.out]
  go_region_held3 (fun w' => w'.cell? ⟨g, 3, none⟩ = some (.int .i64 q) ∧ w'.cell? ⟨g, 4, none⟩ = some (.slice L ls.length c) ∧ w'.cell? ⟨g, 5, none⟩ = some (.slice R rs.length d))
    (first
      | (go_keep; done)
      | (exact ⟨far_set n1 (far_set n1 (far_set n1 ((Blk.below' hrW z3).cell 3))), far_set n1 (far_set n1 (far_set n1 ((Blk.below' hrW z3).cell 4))), far_set n1 (far_set n1 (far_set n1 ((Blk.below' hrW z3).cell 5)))⟩)
      | (exact ⟨(Blk.below' hrW z3).cell 3, (Blk.below' hrW z3).cell 4, (Blk.below' hrW z3).cell 5⟩)
      | (exact ⟨(Blk.below' hrW z2).cell 3, (Blk.below' hrW z2).cell 4, (Blk.below' hrW z2).cell 5⟩))
    (first
      | (go_at_call_of 205 (Value.slice L ls.length c); refine (reversed_any _ _ _ ls _ slW (by omega)).mono ?_; rintro e w2 ⟨L2, cl, rfl, ol2, z2'⟩; have z2 : Below W.heap.size W w2 := below_undrew z2')
      | (go_at_call_of 205 (Value.slice R rs.length d); refine (reversed_any _ _ _ rs _ (SI.below (xs := rs) srW z2) (by omega)).mono ?_; rintro e w3 ⟨R2, cr, rfl, or2, z3'⟩; have z3 : Below W.heap.size W w3 := z2.trans (z3'.mono z2.size)
         have e0 : w3.cell? ⟨w.heap.size, 0, none⟩ = some (.int .i64 0) := (b0.below' z3).cell 0
         have e1 : w3.cell? ⟨w.heap.size, 1, none⟩ = some (.slice none 0 0) := (b0.below' z3).cell 1
         have e2 : w3.cell? ⟨w.heap.size, 2, none⟩ = some (.slice none 0 0) := (b0.below' z3).cell 2
         have f0 := (b0.below' z3).frozen 0
         have f1 := (b0.below' z3).frozen 1
         have f2 := (b0.below' z3).frozen 2))
  go_wp2_with fail
  have d1 : Blk (((w3.setCell ⟨w.heap.size, 0, none⟩ (.int .i64 q)).setCell ⟨w.heap.size, 1, none⟩ (.slice L2 ls.length cl)).setCell ⟨w.heap.size, 2, none⟩ (.slice R2 rs.length cr)) w.heap.size 172 #[.int .i64 q, .slice L2 ls.length cl, .slice R2 rs.length cr] := (((b0.below' z3).set_ 0 _).set_ 1 _).set_ 2 _
  rw [List.length_reverse] at ol2 or2
  have hz2 : W.heap.size ≤ w2.heap.size := z2.size
  have olf : Own (((w3.setCell ⟨w.heap.size, 0, none⟩ (.int .i64 q)).setCell ⟨w.heap.size, 1, none⟩ (.slice L2 ls.length cl)).setCell ⟨w.heap.size, 2, none⟩ (.slice R2 rs.length cr)) W.heap.size 2 1 L2 ls.length cl (ints ls.reverse) :=
    (((Own.below ol2 z3').far (fun e => by have h : W.heap.size ≤ w.heap.size := ol2.blk_ge _ e; omega) _).far (fun e => by have h : W.heap.size ≤ w.heap.size := ol2.blk_ge _ e; omega) _).far (fun e => by have h : W.heap.size ≤ w.heap.size := ol2.blk_ge _ e; omega) _
  have orf : Own (((w3.setCell ⟨w.heap.size, 0, none⟩ (.int .i64 q)).setCell ⟨w.heap.size, 1, none⟩ (.slice L2 ls.length cl)).setCell ⟨w.heap.size, 2, none⟩ (.slice R2 rs.length cr)) w2.heap.size 2 1 R2 rs.length cr (ints rs.reverse) :=
    ((or2.far (fun e => by have h : w2.heap.size ≤ w.heap.size := or2.blk_ge _ e; omega) _).far (fun e => by have h : w2.heap.size ≤ w.heap.size := or2.blk_ge _ e; omega) _).far (fun e => by have h : w2.heap.size ≤ w.heap.size := or2.blk_ge _ e; omega) _
  have yf : Below w.heap.size w (((w3.setCell ⟨w.heap.size, 0, none⟩ (.int .i64 q)).setCell ⟨w.heap.size, 1, none⟩ (.slice L2 ls.length cl)).setCell ⟨w.heap.size, 2, none⟩ (.slice R2 rs.length cr)) := (((y0.trans (z3.mono y0.size)).setCell (Nat.le_refl _) _).setCell (Nat.le_refl _) _).setCell (Nat.le_refl _) _
  generalize ((w3.setCell ⟨w.heap.size, 0, none⟩ (.int .i64 q)).setCell ⟨w.heap.size, 1, none⟩ (.slice L2 ls.length cl)).setCell ⟨w.heap.size, 2, none⟩ (.slice R2 rs.length cr) = wf at *
  have g0 : wf.cell? ⟨w.heap.size, 0, none⟩ = some (.int .i64 q) := d1.cell 0
  have g1 : wf.cell? ⟨w.heap.size, 1, none⟩ = some (.slice L2 ls.length cl) := d1.cell 1
  have g2 : wf.cell? ⟨w.heap.size, 2, none⟩ = some (.slice R2 rs.length cr) := d1.cell 2
  have hres : NewConf w q ls.reverse rs.reverse (.returned (.agg #[.int .i64 q, .slice L2 ls.length cl, .slice R2 rs.length cr])) wf := by
    refine ⟨L2, cl, R2, cr, by rw [List.length_reverse, List.length_reverse], by rw [List.length_reverse]; exact olf.mono (by omega), by rw [List.length_reverse]; exact orf.mono (by omega), fun b h5 h6 => ?_, yf⟩
    have h7 := ol2.blk_lt b h5
    have h8 := or2.blk_ge b h6
    omega
  exact bodyPost_ret (v := .agg #[.int .i64 q, .slice L2 ls.length cl, .slice R2 rs.length cr]) (by simp [results, Try.results249, go_sem, g0, g1, g2]) rfl hres

/-- The rule that a configuration looks at (the sides as they stand in a configuration, the nearest symbols first). -/
def ruleOf (sy : Int) (rs : List R3) (q : Int) (ys : List Int) : R3 := rs.getD (atI sy q ys.reverse).toNat ⟨0, 0, -1⟩
/-- What a step of a machine comes to: a state, two sides, a code. -/
structure Conf where
  q : Int
  xs : List Int
  ys : List Int
def stepC (r : R3) (xs ys : List Int) : Conf := ⟨r.c, (stepL r xs.reverse).reverse, (stepR r xs.reverse ys.reverse).reverse⟩
def roomC (c : Conf) : Bool := roomB c.xs c.ys
def stepMachF (sy st : Int) (rs : List R3) (q : Int) (xs ys : List Int) : Conf × Int :=
  if validConfB sy st rs q xs ys then
    (if isRuleB (ruleOf sy rs q ys) then (if roomC (stepC (ruleOf sy rs q ys) xs ys) then (stepC (ruleOf sy rs q ys) xs ys, 0) else (⟨0, [], []⟩, 5)) else (⟨0, [], []⟩, 6))
  else (⟨0, [], []⟩, 1)

theorem conf_parts {sy st : Int} {rs : List R3} {q : Int} {xs ys : List Int} (h : validConfB sy st rs q xs ys = true) :
    2 ≤ sy ∧ sy ≤ 6 ∧ 1 ≤ st ∧ st ≤ 1000 ∧ (rs.length : Int) = st * sy ∧ 0 ≤ q ∧ q ≤ st - 1 ∧ xs.length ≤ 200 ∧ ys.length ≤ 200 ∧ (∀ x ∈ xs, 0 ≤ x ∧ x ≤ sy - 1) ∧ (∀ y ∈ ys, 0 ≤ y ∧ y ≤ sy - 1) ∧ ∀ r ∈ rs, validRuleB sy st r = true := by
  unfold validConfB at h
  simp only [Bool.and_eq_true] at h
  obtain ⟨hm, hc⟩ := h
  obtain ⟨p1, p2, p3, p4, p5, p6⟩ := machB_parts hm
  unfold confB sideB allIn at hc
  simp only [Bool.and_eq_true, inB_iff, decide_eq_true_eq, List.all_eq_true] at hc
  exact ⟨p1, p2, p3, p4, p5, hc.1.1.1, hc.1.1.2, by omega, by omega, hc.1.2.1.2, hc.2.1.2, p6⟩
theorem lastI_mem {xs : List Int} : lastI xs = 0 ∨ lastI xs ∈ xs := by
  unfold lastI
  rcases List.eq_nil_or_concat xs with rfl | ⟨l, a, rfl⟩
  · exact .inl rfl
  · right; simp
theorem at_parts {sy st q : Int} {ys : List Int} {n : Nat} (h1 : 2 ≤ sy) (h2 : sy ≤ 6) (_h3 : 1 ≤ st) (h4 : st ≤ 1000) (hn : (n : Int) = st * sy) (h5 : 0 ≤ q) (h6 : q ≤ st - 1) (hy : ∀ y ∈ ys, 0 ≤ y ∧ y ≤ sy - 1) :
    0 ≤ q * sy ∧ q * sy ≤ 6000 ∧ 0 ≤ lastI ys ∧ lastI ys ≤ 5 ∧ ∃ idx : Nat, atI sy q ys = (idx : Int) ∧ idx < n := by
  have a1 : 0 ≤ q * sy := Int.mul_nonneg h5 (by omega)
  have a2 : q * sy ≤ (st - 1) * sy := Int.mul_le_mul_of_nonneg_right h6 (by omega)
  have a3 : (st - 1) * sy = st * sy - sy := by rw [Int.sub_mul]; omega
  have a4 : st * sy ≤ 1000 * sy := Int.mul_le_mul_of_nonneg_right h4 (by omega)
  have a5 : 0 ≤ lastI ys ∧ lastI ys ≤ sy - 1 := by
    rcases lastI_mem (xs := ys) with h | h
    · rw [h]; omega
    · exact hy _ h
  refine ⟨a1, by omega, a5.1, by omega, (atI sy q ys).toNat, ?_, ?_⟩
  · unfold atI; omega
  · unfold atI; omega
theorem ruleOf_get {sy q : Int} {rs : List R3} {ys : List Int} {idx : Nat} (h : atI sy q ys.reverse = (idx : Int)) (hlt : idx < rs.length) : rs[idx]? = some (ruleOf sy rs q ys) := by
  unfold ruleOf
  rw [h, Int.toNat_natCast, List.getElem?_eq_getElem hlt]
  simp [List.getElem?_eq_getElem hlt]

/-- A configuration in new memory and a code. -/
def NewConf2 (w : World) (r : Conf × Int) (e : Ending) (w' : World) : Prop :=
  ∃ L c R d, e = .returned (.tuple #[.agg #[.int .i64 r.1.q, .slice L r.1.xs.length c, .slice R r.1.ys.length d], .int .i64 r.2]) ∧ Own w' w.heap.size 2 1 L r.1.xs.length c (ints r.1.xs) ∧ Own w' w.heap.size 2 1 R r.1.ys.length d (ints r.1.ys) ∧ (∀ b, blk L = some b → blk R ≠ some b) ∧ Below w.heap.size w w'
end Go.Proofs.Ythipbeggaeogcaa
