/-
  Contracts of impl's runner: rule, halts, pop, push.
-/
import Derived.Test.YthipbeggaeogcaaMachL
namespace Go.Proofs.Ythipbeggaeogcaa
open Go.RowKit

theorem ret_slice {A : Option Addr} {n m c : Nat} (h : n = m) : Ending.returned (.slice A n c) = .returned (.slice A m c) := by rw [h]
theorem ints_snoc (xs : List Int) (x : Int) : ints xs ++ [.int .i64 x] = ints (xs ++ [x]) := by simp [ints]
theorem grown_alloc {w w2 : World} {o : Obj} {row : Option Nat} (h : (w.alloc o).grownBy w2 row) : w.grownBy w2 row :=
  ⟨h.os, h.tape, h.output, Nat.le_trans (by simp) h.size, fun k hk hne => (h.block k (by simp; omega) hne).trans (Below.heap_alloc w o k hk)⟩
theorem far_set {W : World} {p q : Addr} {u v : Value} (hne : ¬ q.block = p.block) (h : W.cell? q = some v) : (W.setCell p u).cell? q = some v :=
  (World.cell?_setCell_other W p q u (fun e => hne (by rw [e]))).trans h

set_option maxHeartbeats 1000000 in
theorem rule_any (g : Nat) (sy st : Int) (A : Option Addr) (n k : Nat) (rs : List R3) (q : Int) (L : Option Addr) (m c : Nat) (R : Option Addr) (l d : Nat) (ys : List Int) (idx : Nat) (r : R3) (w : World) (hr : RunAt w g sy st A n k q L m c R l d) (hrs : S3 w A n rs) (hy : SI w R l ys) (hl : l ≤ 1048576)
    (h1 : 0 ≤ q * sy) (h2 : q * sy ≤ 1000000) (h3 : 0 ≤ lastI ys) (h4 : lastI ys ≤ 1000000) (hidx : Hid (atI sy q ys = (idx : Int))) (hlt : idx < n) (hri : Hid (rs[idx]? = some r)) (_hn : n ≤ 1048576) :
    Calls Try.prog 213 #[.pointer (some ⟨g, 0, none⟩)] w fun e w' => e = .returned (.agg #[.int .i64 r.a, .int .i64 r.b, .int .i64 r.c]) ∧ Below w.heap.size w w' := by
  obtain ⟨W, hW⟩ : ∃ W, W = w.alloc (.cells #[.int .i64 0, .int .i64 0, .int .i64 0] 169) := ⟨_, rfl⟩
  have b0 : Blk W w.heap.size 169 #[.int .i64 0, .int .i64 0, .int .i64 0] := by rw [hW]; exact Blk.new w _ _
  have y0 : Below w.heap.size w W := by rw [hW]; exact (Below.refl _ _).alloc (Nat.le_refl _) _
  have HW := Lib.hid hW
  clear hW
  have hrW : RunAt W g sy st A n k q L m c R l d := Blk.below' hr y0
  obtain ⟨r', b, off, hr', _, rfl, hbl, p0, p1, p2⟩ := (hrs.below y0).pick hlt
  obtain rfl : r = r' := by have e1 := hri.out; have e2 := hr'.out; rw [e1] at e2; simpa using e2
  have c2 : W.cell? ⟨g, 2, none⟩ = some (.slice (some ⟨b, off, none⟩) n k) := hrW.cell 2
  have i1 : (0 : Int) ≤ (idx : Int) := by omega
  have i2 : (idx : Int) < (n : Int) := by omega
  have hbw : b < w.heap.size := by
    obtain ⟨_, b2, o2, _, _, he, hb2, _⟩ := hrs.pick hlt
    simp only [Option.some.injEq, Addr.mk.injEq, and_true] at he
    omega
  have hgw : g < w.heap.size := hr.lt
  have n1 : ¬ g = w.heap.size := by omega
  have n2 : ¬ b = w.heap.size := by omega
  have e0 : W.cell? ⟨w.heap.size, 0, none⟩ = some (.int .i64 0) := b0.cell 0
  have e1 : W.cell? ⟨w.heap.size, 1, none⟩ = some (.int .i64 0) := b0.cell 1
  have e2 : W.cell? ⟨w.heap.size, 2, none⟩ = some (.int .i64 0) := b0.cell 2
  have f0 := b0.frozen 0
  have f1 := b0.frozen 1
  have f2 := b0.frozen 2
  go_enter Try.func213, Try.ntmps213
  go_wp2_with fail
  rw [← HW.out]
  go_region_held3 (fun w' => w'.cell? ⟨g, 2, none⟩ = some (.slice (some ⟨b, off, none⟩) n k) ∧ w'.cell? ⟨b, off + idx * 3, none⟩ = some (.int .i64 r.a) ∧ w'.cell? ⟨b, off + idx * 3 + 1, none⟩ = some (.int .i64 r.b) ∧ w'.cell? ⟨b, off + idx * 3 + 2, none⟩ = some (.int .i64 r.c))
    (first
      | (go_keep; done)
      | (exact ⟨far_set n1 (far_set n1 (far_set n1 c2)), far_set n2 (far_set n2 (far_set n2 p0)), far_set n2 (far_set n2 (far_set n2 p1)), far_set n2 (far_set n2 (far_set n2 p2))⟩))
    (first
      | (go_at_call 181; refine (at_any _ _ _ _ _ _ _ _ _ _ _ _ _ ys _ (hrW.drewN 1) ((hy.below y0).drewN 1) hl h1 h2 h3 h4).mono ?_; rintro e w' ⟨rfl, nq, rfl⟩; rw [hidx.out]))
  go_wp2_with fail
  have d1 : Blk ((((W.drewN (1 + nq)).setCell ⟨w.heap.size, 0, none⟩ (.int .i64 r.a)).setCell ⟨w.heap.size, 1, none⟩ (.int .i64 r.b)).setCell ⟨w.heap.size, 2, none⟩ (.int .i64 r.c)) w.heap.size 169 #[.int .i64 r.a, .int .i64 r.b, .int .i64 r.c] := (((b0.drewN (1 + nq)).set_ 0 _).set_ 1 _).set_ 2 _
  have yf : Below w.heap.size w ((((W.drewN (1 + nq)).setCell ⟨w.heap.size, 0, none⟩ (.int .i64 r.a)).setCell ⟨w.heap.size, 1, none⟩ (.int .i64 r.b)).setCell ⟨w.heap.size, 2, none⟩ (.int .i64 r.c)) := (((below_drewN y0 (1 + nq)).setCell (Nat.le_refl _) _).setCell (Nat.le_refl _) _).setCell (Nat.le_refl _) _
  generalize (((W.drewN (1 + nq)).setCell ⟨w.heap.size, 0, none⟩ (.int .i64 r.a)).setCell ⟨w.heap.size, 1, none⟩ (.int .i64 r.b)).setCell ⟨w.heap.size, 2, none⟩ (.int .i64 r.c) = wf at *
  have g0 : wf.cell? ⟨w.heap.size, 0, none⟩ = some (.int .i64 r.a) := d1.cell 0
  have g1 : wf.cell? ⟨w.heap.size, 1, none⟩ = some (.int .i64 r.b) := d1.cell 1
  have g2 : wf.cell? ⟨w.heap.size, 2, none⟩ = some (.int .i64 r.c) := d1.cell 2
  exact bodyPost_ret (v := .agg #[.int .i64 r.a, .int .i64 r.b, .int .i64 r.c]) (by simp [results, Try.results213, go_sem, g0, g1, g2]) rfl ⟨rfl, yf⟩

set_option maxHeartbeats 1000000 in
theorem halts_any (g : Nat) (sy st : Int) (A : Option Addr) (n k : Nat) (rs : List R3) (q : Int) (L : Option Addr) (m c : Nat) (R : Option Addr) (l d : Nat) (ys : List Int) (idx : Nat) (r : R3) (w : World) (hr : RunAt w g sy st A n k q L m c R l d) (hrs : S3 w A n rs) (hy : SI w R l ys) (hl : l ≤ 1048576)
    (h1 : 0 ≤ q * sy) (h2 : q * sy ≤ 1000000) (h3 : 0 ≤ lastI ys) (h4 : lastI ys ≤ 1000000) (hidx : Hid (atI sy q ys = (idx : Int))) (hlt : idx < n) (hri : Hid (rs[idx]? = some r)) (hn : n ≤ 1048576) :
    Calls Try.prog 207 #[.pointer (some ⟨g, 0, none⟩)] w fun e w' => e = .returned (.bool (!isRuleB r)) ∧ Below w.heap.size w w' := by
  go_enter Try.func207, Try.ntmps207
  go_wp2_with fail
  refine (rule_any _ _ _ _ _ _ rs _ _ _ _ _ _ _ ys idx r _ hr hrs hy hl h1 h2 h3 h4 hidx hlt hri hn).mono ?_
  rintro e w2 ⟨rfl, z2⟩
  go_wp2_with fail
  refine (isRule_any _ _ _ _).mono ?_
  rintro e w3 ⟨rfl, z3⟩
  go_wp2_with fail
  go_ret
  exact ⟨rfl, z2.trans (z3.mono z2.size)⟩

set_option maxHeartbeats 400000 in
theorem pop_any (A : Option Addr) (n c : Nat) (w : World) (hn : n ≤ 1048576) (hc : n ≤ c) :
    Calls Try.prog 226 #[.slice A n c] w fun e w' => e = .returned (.slice A (n - 1) c) ∧ w = w' := by
  by_cases hn0 : n = 0
  · subst hn0
    go_enter Try.func226, Try.ntmps226
    go_wp2
    go_ret
    exact ⟨rfl, rfl⟩
  · have i1 : (0 : Int) ≤ (n : Int) - 1 := by omega
    go_enter Try.func226, Try.ntmps226
    go_wp2
    · go_ret
      exact ⟨rfl, rfl⟩
    · go_ret
      exact ⟨ret_slice (by omega), rfl⟩

/-- A symbol put on a side. -/
def pushI (xs : List Int) (x : Int) : List Int := if x = 0 ∧ xs = [] then xs else xs ++ [x]

def PushP (w : World) (lo : Nat) (A : Option Addr) (n c : Nat) (xs : List Int) (x : Int) (e : Ending) (w' : World) : Prop :=
  ∃ A2 c2, e = .returned (.slice A2 (pushI xs x).length c2) ∧ Own w' lo 2 1 A2 (pushI xs x).length c2 (ints (pushI xs x)) ∧ w.grownBy w' (blk A) ∧ (blk A2 = blk A ∨ ∀ b, blk A2 = some b → w.heap.size ≤ b) ∧ Own w' lo 2 1 A n c (ints xs)

set_option maxHeartbeats 1000000 in
theorem push_any (A : Option Addr) (n c : Nat) (xs : List Int) (x : Int) (w : World) (lo : Nat) (ho : Own w lo 2 1 A n c (ints xs)) (hlo : lo ≤ w.heap.size) (hn : n ≤ 1048576) :
    Calls Try.prog 227 #[.slice A n c, .int .i64 x] w (PushP w lo A n c xs x) := by
  have hl : xs.length = n := by have := ho.1; rw [length_ints] at this; omega
  have HL := Lib.hid hl
  clear hl
  by_cases hx0 : x = 0
  · by_cases hn0 : n = 0
    · have hxe : xs = [] := List.eq_nil_of_length_eq_zero (by rw [HL.out]; exact hn0)
      subst hxe
      subst hx0
      subst hn0
      go_enter Try.func227, Try.ntmps227
      go_wp2
      go_ret
      exact ⟨A, c, rfl, ho, World.grownBy.refl w _, .inl rfl, ho⟩
    · have HP : Hid (pushI xs x = xs ++ [x]) := by
        show _ = _
        unfold pushI; rw [if_neg]; rintro ⟨_, rfl⟩; have := HL.out; simp at this; omega
      have g0 : ((n : Int) == 0) = false := by simp; omega
      have g1 : (x == 0) = true := by simpa using hx0
      have HX0 := Lib.hid hx0
      clear hx0
      go_enter Try.func227, Try.ntmps227
      go_wp2_with (at_builtin; refine wpList_append_Own rfl (.tmp 13) (.tmp 15) rfl elI (lo := lo) rfl (ho.alloc _) rfl (Rd.new1 w (.int .i64 x) _) (by simp [Value.oneCell']) (by omega) (by simp only [maxLen]; omega) (by simp; omega) ?_; intro A2 c2 w2 ho2 hg2 hw2)
      go_ret
      rw [ints_snoc] at ho2
      refine ⟨A2, c2, ?_, ?_, ?_, ?_, hw2.2⟩
      · rw [HP.out, List.length_append, HL.out]; rfl
      · rw [HP.out, List.length_append, HL.out]; exact ho2
      · exact grown_alloc hg2
      · rcases hw2.1 with h | h
        · exact .inl h
        · exact .inr (fun b hb => by rw [h] at hb; simp at hb; omega)
  · have HP : Hid (pushI xs x = xs ++ [x]) := by
      show _ = _
      unfold pushI; rw [if_neg]; rintro ⟨h, _⟩; exact hx0 h
    have g1 : (x == 0) = false := by simpa using hx0
    clear hx0
    go_enter Try.func227, Try.ntmps227
    go_wp2_with (at_builtin; refine wpList_append_Own rfl (.tmp 13) (.tmp 15) rfl elI (lo := lo) rfl (ho.alloc _) rfl (Rd.new1 w (.int .i64 x) _) (by simp [Value.oneCell']) (by omega) (by simp only [maxLen]; omega) (by simp; omega) ?_; intro A2 c2 w2 ho2 hg2 hw2)
    go_ret
    rw [ints_snoc] at ho2
    refine ⟨A2, c2, ?_, ?_, ?_, ?_, hw2.2⟩
    · rw [HP.out, List.length_append, HL.out]; rfl
    · rw [HP.out, List.length_append, HL.out]; exact ho2
    · exact grown_alloc hg2
    · rcases hw2.1 with h | h
      · exact .inl h
      · exact .inr (fun b hb => by rw [h] at hb; simp at hb; omega)
end Go.Proofs.Ythipbeggaeogcaa
