/-
  Contracts of impl's runner: rule, halts, pop, push.
-/
import Derived.Test.YtbpofkggoolmpaaPkMeasures2
namespace Go.Proofs.Ytbpofkggoolmpaa
open Go.RowKit

theorem ret_slice {A : Option Addr} {n m c : Nat} (h : n = m) : Ending.returned (.slice A n c) = .returned (.slice A m c) := by rw [h]
theorem ints_snoc (xs : List Int) (x : Int) : ints xs ++ [.int .i64 x] = ints (xs ++ [x]) := by simp [ints]
theorem grown_alloc {w w2 : World} {o : Obj} {row : Option Nat} (h : (w.alloc o).grownBy w2 row) : w.grownBy w2 row :=
  ⟨h.os, h.tape, h.output, Nat.le_trans (by simp) h.size, fun k hk hne => (h.block k (by simp; omega) hne).trans (Below.heap_alloc w o k hk)⟩
theorem far_set {W : World} {p q : Addr} {u v : Value} (hne : ¬ q.block = p.block) (h : W.cell? q = some v) : (W.setCell p u).cell? q = some v :=
  (World.cell?_setCell_other W p q u (fun e => hne (by rw [e]))).trans h

set_option maxHeartbeats 1000000 in
theorem rule_any (g : Nat) (sy st : Int) (A : Option Addr) (n k : Nat) (rs : List R3) (q : Int) (L : Option Addr) (m c : Nat) (R : Option Addr) (l d : Nat) (ys : List Int) (idx : Nat) (r : R3) (w : World) (hr : RunAt w g sy st A n k q L m c R l d) (hrs : S3 w A n rs) (hy : SI w R l ys) (hl : l ≤ 1048576)
    (h1 : 0 ≤ q * sy) (h2 : q * sy ≤ 1000000) (h3 : 0 ≤ lastI ys) (h4 : lastI ys ≤ 1000000) (hidx : Hid (atI sy q ys = (idx : Int))) (hlt : idx < n) (hri : Hid (rs[idx]? = some r)) (_hn : n ≤ 1048576) :
    Calls Try.prog 196 #[.pointer (some ⟨g, 0, none⟩)] w fun e w' => e = .returned (.agg #[.int .i64 r.a, .int .i64 r.b, .int .i64 r.c]) ∧ Below w.heap.size w w' := by
  obtain ⟨W, hW⟩ : ∃ W, W = w.alloc (.cells #[.int .i64 0, .int .i64 0, .int .i64 0] 229) := ⟨_, rfl⟩
  have b0 : Blk W w.heap.size 229 #[.int .i64 0, .int .i64 0, .int .i64 0] := by rw [hW]; exact Blk.new w _ _
  have y0 : Below w.heap.size w W := by rw [hW]; exact (Below.refl _ _).alloc (Nat.le_refl _) _
  have HW := Lib.hid hW
  clear hW
  have hrW : RunAt W g sy st A n k q L m c R l d := Blk.below' hr y0
  obtain ⟨r', b, off, hr', _, rfl, hbl, p0, p1, p2⟩ := (hrs.below y0).pick hlt
  obtain rfl : r = r' := by have e1 := hri.out; have e2 := hr'.out; rw [e1] at e2; simpa using e2
  have c2 : W.cell? ⟨g, 2, none⟩ = some (.slice (some ⟨b, off, none⟩) n k) := hrW.cell 2
  have i1 : (0 : Int) ≤ (idx : Int) := by omega
  have i2 : (idx : Int) < (n : Int) := by omega
  have hbw : b < w.heap.size := by
    obtain ⟨_, b2, o2, _, _, he, hb2, _⟩ := hrs.pick hlt
    simp only [Option.some.injEq, Addr.mk.injEq, and_true] at he
    omega
  have hgw : g < w.heap.size := hr.lt
  have n1 : ¬ g = w.heap.size := by omega
  have n2 : ¬ b = w.heap.size := by omega
  have e0 : W.cell? ⟨w.heap.size, 0, none⟩ = some (.int .i64 0) := b0.cell 0
  have e1 : W.cell? ⟨w.heap.size, 1, none⟩ = some (.int .i64 0) := b0.cell 1
  have e2 : W.cell? ⟨w.heap.size, 2, none⟩ = some (.int .i64 0) := b0.cell 2
  have f0 := b0.frozen 0
  have f1 := b0.frozen 1
  have f2 := b0.frozen 2
  go_enter Try.func196, Try.ntmps196
  go_wp2_with fail
  rw [← HW.out]
  go_region_held3 (fun w' => w'.cell? ⟨g, 2, none⟩ = some (.slice (some ⟨b, off, none⟩) n k) ∧ w'.cell? ⟨b, off + idx * 3, none⟩ = some (.int .i64 r.a) ∧ w'.cell? ⟨b, off + idx * 3 + 1, none⟩ = some (.int .i64 r.b) ∧ w'.cell? ⟨b, off + idx * 3 + 2, none⟩ = some (.int .i64 r.c))
    (first
      | (go_keep; done)
      | (exact ⟨far_set n1 (far_set n1 (far_set n1 c2)), far_set n2 (far_set n2 (far_set n2 p0)), far_set n2 (far_set n2 (far_set n2 p1)), far_set n2 (far_set n2 (far_set n2 p2))⟩))
    (first
      | (go_at_call 262; refine (at_any _ _ _ _ _ _ _ _ _ _ _ _ _ ys _ (hrW.drewN 1) ((hy.below y0).drewN 1) hl h1 h2 h3 h4).mono ?_; rintro e w' ⟨rfl, nq, rfl⟩; rw [hidx.out]))
  go_wp2_with fail
  have d1 : Blk ((((W.drewN (1 + nq)).setCell ⟨w.heap.size, 0, none⟩ (.int .i64 r.a)).setCell ⟨w.heap.size, 1, none⟩ (.int .i64 r.b)).setCell ⟨w.heap.size, 2, none⟩ (.int .i64 r.c)) w.heap.size 229 #[.int .i64 r.a, .int .i64 r.b, .int .i64 r.c] := (((b0.drewN (1 + nq)).set_ 0 _).set_ 1 _).set_ 2 _
  have yf : Below w.heap.size w ((((W.drewN (1 + nq)).setCell ⟨w.heap.size, 0, none⟩ (.int .i64 r.a)).setCell ⟨w.heap.size, 1, none⟩ (.int .i64 r.b)).setCell ⟨w.heap.size, 2, none⟩ (.int .i64 r.c)) := (((below_drewN y0 (1 + nq)).setCell (Nat.le_refl _) _).setCell (Nat.le_refl _) _).setCell (Nat.le_refl _) _
  generalize (((W.drewN (1 + nq)).setCell ⟨w.heap.size, 0, none⟩ (.int .i64 r.a)).setCell ⟨w.heap.size, 1, none⟩ (.int .i64 r.b)).setCell ⟨w.heap.size, 2, none⟩ (.int .i64 r.c) = wf at *
  have g0 : wf.cell? ⟨w.heap.size, 0, none⟩ = some (.int .i64 r.a) := d1.cell 0
  have g1 : wf.cell? ⟨w.heap.size, 1, none⟩ = some (.int .i64 r.b) := d1.cell 1
  have g2 : wf.cell? ⟨w.heap.size, 2, none⟩ = some (.int .i64 r.c) := d1.cell 2
  exact bodyPost_ret (v := .agg #[.int .i64 r.a, .int .i64 r.b, .int .i64 r.c]) (by simp [results, Try.results196, go_sem, g0, g1, g2]) rfl ⟨rfl, yf⟩

set_option maxHeartbeats 1000000 in
theorem halts_any (g : Nat) (sy st : Int) (A : Option Addr) (n k : Nat) (rs : List R3) (q : Int) (L : Option Addr) (m c : Nat) (R : Option Addr) (l d : Nat) (ys : List Int) (idx : Nat) (r : R3) (w : World) (hr : RunAt w g sy st A n k q L m c R l d) (hrs : S3 w A n rs) (hy : SI w R l ys) (hl : l ≤ 1048576)
    (h1 : 0 ≤ q * sy) (h2 : q * sy ≤ 1000000) (h3 : 0 ≤ lastI ys) (h4 : lastI ys ≤ 1000000) (hidx : Hid (atI sy q ys = (idx : Int))) (hlt : idx < n) (hri : Hid (rs[idx]? = some r)) (hn : n ≤ 1048576) :
    Calls Try.prog 195 #[.pointer (some ⟨g, 0, none⟩)] w fun e w' => e = .returned (.bool (!isRuleB r)) ∧ Below w.heap.size w w' := by
  go_enter Try.func195, Try.ntmps195
  go_wp2_with fail
  refine (rule_any _ _ _ _ _ _ rs _ _ _ _ _ _ _ ys idx r _ hr hrs hy hl h1 h2 h3 h4 hidx hlt hri hn).mono ?_
  rintro e w2 ⟨rfl, z2⟩
  go_wp2_with fail
  refine (isRule_any _ _ _ _).mono ?_
  rintro e w3 ⟨rfl, z3⟩
  go_wp2_with fail
  go_ret
  exact ⟨rfl, z2.trans (z3.mono z2.size)⟩

set_option maxHeartbeats 400000 in
theorem pop_any (A : Option Addr) (n c : Nat) (w : World) (hn : n ≤ 1048576) (hc : n ≤ c) :
    Calls Try.prog 263 #[.slice A n c] w fun e w' => e = .returned (.slice A (n - 1) c) ∧ w = w' := by
  by_cases hn0 : n = 0
  · subst hn0
    go_enter Try.func263, Try.ntmps263
    go_wp2
    go_ret
    exact ⟨rfl, rfl⟩
  · have i1 : (0 : Int) ≤ (n : Int) - 1 := by omega
    go_enter Try.func263, Try.ntmps263
    go_wp2
    · go_ret
      exact ⟨rfl, rfl⟩
    · go_ret
      exact ⟨ret_slice (by omega), rfl⟩

/-- A symbol put on a side. -/
def pushI (xs : List Int) (x : Int) : List Int := if x = 0 ∧ xs = [] then xs else xs ++ [x]

def PushP (w : World) (lo : Nat) (A : Option Addr) (n c : Nat) (xs : List Int) (x : Int) (e : Ending) (w' : World) : Prop :=
  ∃ A2 c2, e = .returned (.slice A2 (pushI xs x).length c2) ∧ Own w' lo 2 1 A2 (pushI xs x).length c2 (ints (pushI xs x)) ∧ w.grownBy w' (blk A) ∧ (blk A2 = blk A ∨ ∀ b, blk A2 = some b → w.heap.size ≤ b) ∧ Own w' lo 2 1 A n c (ints xs)

set_option maxHeartbeats 1000000 in
theorem push_any (A : Option Addr) (n c : Nat) (xs : List Int) (x : Int) (w : World) (lo : Nat) (ho : Own w lo 2 1 A n c (ints xs)) (hlo : lo ≤ w.heap.size) (hn : n ≤ 1048576) :
    Calls Try.prog 264 #[.slice A n c, .int .i64 x] w (PushP w lo A n c xs x) := by
  have hl : xs.length = n := by have := ho.1; rw [length_ints] at this; omega
  have HL := Lib.hid hl
  clear hl
  by_cases hx0 : x = 0
  · by_cases hn0 : n = 0
    · have hxe : xs = [] := List.eq_nil_of_length_eq_zero (by rw [HL.out]; exact hn0)
      subst hxe
      subst hx0
      subst hn0
      go_enter Try.func264, Try.ntmps264
      go_wp2
      go_ret
      exact ⟨A, c, rfl, ho, World.grownBy.refl w _, .inl rfl, ho⟩
    · have HP : Hid (pushI xs x = xs ++ [x]) := by
        show _ = _
        unfold pushI; rw [if_neg]; rintro ⟨_, rfl⟩; have := HL.out; simp at this; omega
      have g0 : ((n : Int) == 0) = false := by simp; omega
      have g1 : (x == 0) = true := by simpa using hx0
      have HX0 := Lib.hid hx0
      clear hx0
      go_enter Try.func264, Try.ntmps264
      go_wp2_with (at_builtin; refine wpList_append_Own rfl (.tmp 13) (.tmp 15) rfl elI (lo := lo) rfl (ho.alloc _) rfl (Rd.new1 w (.int .i64 x) _) (by simp [Value.oneCell']) (by omega) (by simp only [maxLen]; omega) (by simp; omega) ?_; intro A2 c2 w2 ho2 hg2 hw2)
      go_ret
      rw [ints_snoc] at ho2
      refine ⟨A2, c2, ?_, ?_, ?_, ?_, hw2.2⟩
      · rw [HP.out, List.length_append, HL.out]; rfl
      · rw [HP.out, List.length_append, HL.out]; exact ho2
      · exact grown_alloc hg2
      · rcases hw2.1 with h | h
        · exact .inl h
        · exact .inr (fun b hb => by rw [h] at hb; simp at hb; omega)
  · have HP : Hid (pushI xs x = xs ++ [x]) := by
      show _ = _
      unfold pushI; rw [if_neg]; rintro ⟨h, _⟩; exact hx0 h
    have g1 : (x == 0) = false := by simpa using hx0
    clear hx0
    go_enter Try.func264, Try.ntmps264
    go_wp2_with (at_builtin; refine wpList_append_Own rfl (.tmp 13) (.tmp 15) rfl elI (lo := lo) rfl (ho.alloc _) rfl (Rd.new1 w (.int .i64 x) _) (by simp [Value.oneCell']) (by omega) (by simp only [maxLen]; omega) (by simp; omega) ?_; intro A2 c2 w2 ho2 hg2 hw2)
    go_ret
    rw [ints_snoc] at ho2
    refine ⟨A2, c2, ?_, ?_, ?_, ?_, hw2.2⟩
    · rw [HP.out, List.length_append, HL.out]; rfl
    · rw [HP.out, List.length_append, HL.out]; exact ho2
    · exact grown_alloc hg2
    · rcases hw2.1 with h | h
      · exact .inl h
      · exact .inr (fun b hb => by rw [h] at hb; simp at hb; omega)
end Go.Proofs.Ytbpofkggoolmpaa

/-
  Contracts of the reference's functions on configurations: l05Head, l05At, l05Halts, l05Rest, l05Trim, l05Push.
-/
namespace Go.Proofs.Ytbpofkggoolmpaa
open Go.RowKit

theorem lastI_reverse (ys : List Int) : ys.headD 0 = lastI ys.reverse := by
  unfold lastI; cases ys <;> simp

theorem isRuleB_r (r : R3) : isRuleB r = !((r.a == 0) && (r.b == 0) && (r.c == -1)) := isRuleB_eq r.a r.b r.c

end Go.Proofs.Ytbpofkggoolmpaa

/-
  Contracts of the reference's functions on sides: l05Rest, l05Trim, l05Push.
-/
namespace Go.Proofs.Ytbpofkggoolmpaa
open Go.RowKit

theorem rest_si {w : World} {A A' : Option Addr} {n : Nat} {xs : List Int} (h : SI w A n xs) (hn : 0 < n) (hA : 1 < n → ∀ b off, A = some ⟨b, off, none⟩ → A' = some ⟨b, off + 1, none⟩) : SI w A' (n - 1) xs.tail := by
  have hl := h.len
  have := Rd.cut h (i := 1) (j := n) (by omega) (Nat.le_refl _) (A' := A') hA
  rw [ints_take, ints_drop, List.take_of_length_le (by omega), List.drop_one] at this
  exact this

/-- A side without the zeros at its end. -/
def trimI (xs : List Int) : List Int := (xs.reverse.dropWhile (· == 0)).reverse
theorem trim_snoc0 (xs : List Int) : trimI (xs ++ [0]) = trimI xs := by simp [trimI]
theorem trim_snoc (xs : List Int) {x : Int} (h : (x == 0) = false) : trimI (xs ++ [x]) = xs ++ [x] := by simp [trimI, h]
theorem take_pred {xs : List Int} {k : Nat} (hk : 0 < k) (hl : k ≤ xs.length) : xs.take k = xs.take (k - 1) ++ [nth xs (k - 1)] := by
  rw [nth_eq xs (k - 1) (by omega), ← List.take_succ_eq_append_getElem (by omega), show k - 1 + 1 = k from by omega]
theorem trim_next {xs : List Int} {k : Nat} (hk : 0 < k) (hl : k ≤ xs.length) (h : (nth xs (k - 1) == 0) = true) (he : trimI (xs.take k) = trimI xs) : trimI (xs.take (k - 1)) = trimI xs := by
  rw [take_pred hk hl] at he
  rw [beq_iff_eq] at h
  rw [h, trim_snoc0] at he
  exact he
theorem trim_stop {xs : List Int} {k : Nat} (hk : 0 < k) (hl : k ≤ xs.length) (h : (nth xs (k - 1) == 0) = false) (he : trimI (xs.take k) = trimI xs) : xs.take k = trimI xs := by
  rw [take_pred hk hl] at he ⊢
  rw [trim_snoc _ h] at he
  exact he

set_option maxHeartbeats 1000000 in
theorem l05Trim_any (A : Option Addr) (n c : Nat) (xs : List Int) (w : World) (hx : SI w A n xs) (hn : n ≤ 1048576) (hcap : n ≤ c) :
    Calls Try.prog 108 #[.slice A n c] w (NewI w (trimI xs)) := by
  have HL := Lib.hid hx.len
  have hcut : ∀ k, k ≤ n → SI w A k (xs.take k) := fun k hk => by
    have := Rd.cut hx (i := 0) (j := k) (by omega) hk (A' := A) (fun _ b off e => by rw [e]; rfl)
    rw [ints_take] at this
    exact this
  have HC := Lib.hid hcut
  clear hcut
  go_enter Try.func108, Try.ntmps108
  go_wp2
  go_loop [3] (fun i => ∃ k : Nat, k ≤ n ∧ i = .int .i64 k ∧ Hid (trimI (xs.take k) = trimI xs)) (fun i => (intOf i).toNat)
  case atStart => exact ⟨n, by omega, rfl, by show _ = _; rw [List.take_of_length_le (by rw [HL.out]; omega)]⟩
  case round =>
    obtain ⟨k, hk, rfl, he⟩ := hrel
    have hkc : k ≤ c := by omega
    by_cases hk0 : k = 0
    · subst hk0
      have HT : Hid (trimI xs = []) := by
        show _ = _
        rw [← he.out]; rfl
      go_wp2_with fail
      refine (l00Own_any _ _ _ [] _ SI.nil (by omega)).mono ?_
      rintro e w2 ⟨A2, c2, rfl, o2, z2⟩
      go_wp2_with fail
      go_ret
      exact ⟨A2, c2, by rw [HT.out]; rfl, by rw [HT.out]; exact o2, z2⟩
    · have i0 : (0 : Int) < (k : Int) := by omega
      have i00 : decide ((k : Int) > 0) = true := by simp; omega
      have i1 : (0 : Int) ≤ (k : Int) - 1 := by omega
      have i2 : ((k : Int) - 1).toNat = k - 1 := by omega
      obtain ⟨b, off, rfl, _, hc⟩ := hx.at_ (k := k - 1) (by omega)
      rw [← nth_eq] at hc
      cases hz : (nth xs (k - 1) == 0)
      · have HZ := Lib.hid hz
        have HT := Lib.hid (trim_stop (by omega) (by rw [HL.out]; exact hk) HZ.out he.out)
        go_wp2_with fail
        · refine (l00Own_any _ _ _ (xs.take k) _ (HC.out k hk) (by omega)).mono ?_
          rintro e w2 ⟨A2, c2, rfl, o2, z2⟩
          go_wp2_with fail
          go_ret
          exact ⟨A2, c2, ret_slice (by rw [← HT.out]; simp), by rw [← HT.out]; exact o2, z2⟩
        · omega
      · have HZ := Lib.hid hz
        go_wp2_with fail
        · exact ⟨⟨k - 1, by omega, by go_num, trim_next (by omega) (by rw [HL.out]; exact hk) HZ.out he.out⟩, by simp [intOf]; omega⟩
        · omega

end Go.Proofs.Ytbpofkggoolmpaa

/-
  Contract of impl's runner: step.
-/
namespace Go.Proofs.Ytbpofkggoolmpaa
open Go.RowKit

/-- What a step makes of the two sides (the nearest symbols last). -/
def stepL (r : R3) (ls : List Int) : List Int := if 0 < r.b then pushI ls r.a else ls.dropLast
def stepR (r : R3) (ls rs : List Int) : List Int := if 0 < r.b then rs.dropLast else pushI (pushI rs.dropLast r.a) (lastI ls)
def roomB (ls rs : List Int) : Bool := decide (ls.length ≤ 200) && decide (rs.length ≤ 200)

/-- A runner with its sides. -/
def Sides (w : World) (lo g : Nat) (sy st : Int) (A : Option Addr) (n k : Nat) (q : Int) (ls rs : List Int) : Prop :=
  ∃ L c R d, RunAt w g sy st A n k q L ls.length c R rs.length d ∧ Own w lo 2 1 L ls.length c (ints ls) ∧ Own w lo 2 1 R rs.length d (ints rs) ∧ (∀ b, blk L = some b → blk R ≠ some b)

theorem RunAt.ne_own {w : World} {g : Nat} {sy st : Int} {A : Option Addr} {n k : Nat} {q : Int} {L : Option Addr} {m c : Nat} {R : Option Addr} {l d : Nat} {lo s n' c' : Nat} {X : Option Addr} {cs : List Value} (h : RunAt w g sy st A n k q L m c R l d) (h' : Own w lo 2 s X n' c' cs) : blk X ≠ some g := by
  intro hb
  rcases h'.2 with ⟨rfl, _⟩ | ⟨b, off, cur, rfl, _, hg, _⟩
  · simp [blk] at hb
  · simp [blk] at hb; subst hb
    unfold RunAt Blk at h
    rw [hg] at h
    simp at h
theorem Blk.ne_own {w : World} {g : Nat} {cs : Array Value} {lo s n' c' : Nat} {X : Option Addr} {xs : List Value} (h : Blk w g 229 cs) (h' : Own w lo 2 s X n' c' xs) : blk X ≠ some g := by
  intro hb
  rcases h'.2 with ⟨rfl, _⟩ | ⟨b, off, cur, rfl, _, hg, _⟩
  · simp [blk] at hb
  · simp [blk] at hb; subst hb
    unfold Blk at h
    rw [hg] at h
    simp at h
theorem dropLast_ints (xs : List Int) : (ints xs).take ((ints xs).length - 1) = ints xs.dropLast := by rw [length_ints, ints_take, List.dropLast_eq_take]
theorem Own.upto {w : World} {lo n c j : Nat} {e : TypeId} {A : Option Addr} {cs : List Value} (h : Own w lo e 1 A n c cs) (hj : j ≤ n) : Own w lo e 1 A j c (cs.take j) := by
  have := h.cut (i := 0) (j := j) (Nat.zero_le _) hj (A' := A) (fun h => h) (fun b off hA => .inl (by rw [hA]; rfl))
  simpa using this

/-- A frame: the blocks of X lie as they lay. -/
structure Fr (X : Nat → Prop) (w w' : World) : Prop where
  size : w.heap.size ≤ w'.heap.size
  same : ∀ b, X b → b < w.heap.size → w'.heap[b]? = w.heap[b]?
section
variable {X : Nat → Prop} {w w1 w2 : World}
theorem Fr.refl (X : Nat → Prop) (w : World) : Fr X w w := ⟨Nat.le_refl _, fun _ _ _ => rfl⟩
theorem Fr.trans (h : Fr X w w1) (k : Fr X w1 w2) : Fr X w w2 := ⟨Nat.le_trans h.size k.size, fun b hb hlt => (k.same b hb (by have := h.size; omega)).trans (h.same b hb hlt)⟩
theorem Fr.of_below (z : Below w.heap.size w w1) : Fr X w w1 := ⟨z.size, fun b _ hlt => z.block b hlt⟩
theorem Fr.below (h : Fr X w w1) (z : Below w1.heap.size w1 w2) : Fr X w w2 := h.trans (Fr.of_below z)
theorem Fr.drewN (h : Fr X w w1) (q : Nat) : Fr X w (w1.drewN q) := ⟨h.size, h.same⟩
theorem Fr.set_ (h : Fr X w w1) {p : Addr} (hp : ¬ X p.block) (u : Value) : Fr X w (w1.setCell p u) :=
  ⟨by have := h.size; simpa [World.setCell] using this, fun b hb hlt => (Below.heap_setCell w1 p u b (fun e => hp (e ▸ hb))).trans (h.same b hb hlt)⟩
theorem Fr.grown {row : Option Nat} (h : Fr X w w1) (hg : w1.grownBy w2 row) (hr : ∀ b, row = some b → ¬ X b) : Fr X w w2 :=
  ⟨Nat.le_trans h.size hg.size, fun b hb hlt => (hg.block b (by have := h.size; omega) (fun e => hr b e.symm hb)).trans (h.same b hb hlt)⟩
end

/-- A runner with its sides, apart from the blocks of X. -/
def SidesX (X : Nat → Prop) (w : World) (lo g : Nat) (sy st : Int) (A : Option Addr) (n k : Nat) (q : Int) (ls rs : List Int) : Prop :=
  ∃ L c R d, RunAt w g sy st A n k q L ls.length c R rs.length d ∧ Own w lo 2 1 L ls.length c (ints ls) ∧ Own w lo 2 1 R rs.length d (ints rs) ∧ (∀ b, blk L = some b → blk R ≠ some b) ∧ (∀ b, blk L = some b → ¬ X b) ∧ (∀ b, blk R = some b → ¬ X b)
theorem SidesX.sides {X : Nat → Prop} {w : World} {lo g : Nat} {sy st : Int} {A : Option Addr} {n k : Nat} {q : Int} {ls rs : List Int} (h : SidesX X w lo g sy st A n k q ls rs) : Sides w lo g sy st A n k q ls rs := by
  obtain ⟨L, c, R, d, h1, h2, h3, h4, _, _⟩ := h
  exact ⟨L, c, R, d, h1, h2, h3, h4⟩

def StepX (X : Nat → Prop) (w w0 : World) (g : Nat) (sy st : Int) (A : Option Addr) (n k : Nat) (r : R3) (ls rs : List Int) (e : Ending) (w' : World) : Prop :=
  e = .returned (.bool (roomB (stepL r ls) (stepR r ls rs))) ∧ SidesX X w' w0.heap.size g sy st A n k r.c (stepL r ls) (stepR r ls rs) ∧ Below w0.heap.size w0 w' ∧ Fr X w w'
def StepP (w0 : World) (g : Nat) (sy st : Int) (A : Option Addr) (n k : Nat) (r : R3) (ls rs : List Int) (e : Ending) (w' : World) : Prop :=
  e = .returned (.bool (roomB (stepL r ls) (stepR r ls rs))) ∧ Sides w' w0.heap.size g sy st A n k r.c (stepL r ls) (stepR r ls rs) ∧ Below w0.heap.size w0 w'

set_option maxHeartbeats 2000000 in
theorem step_x (X : Nat → Prop) (w0 : World) (g : Nat) (sy st : Int) (A : Option Addr) (n k : Nat) (us : List R3) (q : Int) (ls rs : List Int) (idx : Nat) (r : R3) (w : World) (hs : SidesX X w w0.heap.size g sy st A n k q ls rs) (hXg : Hid (¬ X g)) (hXt : Hid (∀ b, X b → b < w.heap.size)) (hus : S3 w0 A n us) (hb0 : Below w0.heap.size w0 w) (hg : w0.heap.size ≤ g)
    (hll : ls.length ≤ 1000000) (hrl : rs.length ≤ 1000000) (h1 : 0 ≤ q * sy) (h2 : q * sy ≤ 1000000) (h3 : 0 ≤ lastI rs) (h4 : lastI rs ≤ 1000000) (hidx : Hid (atI sy q rs = (idx : Int))) (hlt : idx < n) (hri : Hid (us[idx]? = some r)) (hn : n ≤ 1048576) :
    Calls Try.prog 197 #[.pointer (some ⟨g, 0, none⟩)] w (StepX X w w0 g sy st A n k r ls rs) := by
  obtain ⟨L, c, R, d, hr, ol, or_, hap, hXl, hXr⟩ := hs
  have HAP := Lib.hid hap
  have HXL := Lib.hid hXl
  have HXR := Lib.hid hXr
  clear hap hXl hXr
  have hgw : g < w.heap.size := hr.lt
  go_enter Try.func197, Try.ntmps197
  go_wp2_with fail
  refine (rule_any _ _ _ _ _ _ us _ _ _ _ _ _ _ rs idx r _ hr (hus.below hb0) or_.rd (by omega) h1 h2 h3 h4 hidx hlt hri hn).mono ?_
  rintro e w1 ⟨rfl, z1⟩
  have hr1 : RunAt w1 g sy st A n k q L ls.length c R rs.length d := Blk.below' hr z1
  have ol1 := ol.below z1
  have or1 := or_.below z1
  obtain ⟨w2, hw2⟩ : ∃ w2, w2 = w1.alloc (.cells #[.int .i64 r.a, .int .i64 r.b, .int .i64 r.c] 229) := ⟨_, rfl⟩
  have bx : Blk w2 w1.heap.size 229 #[.int .i64 r.a, .int .i64 r.b, .int .i64 r.c] := by rw [hw2]; exact Blk.new w1 _ _
  have z2 : Below w1.heap.size w1 w2 := by rw [hw2]; exact (Below.refl _ _).alloc (Nat.le_refl _) _
  have hr2 : RunAt w2 g sy st A n k q L ls.length c R rs.length d := Blk.below' hr1 z2
  have ol2 := ol1.below z2
  have or2 := or1.below z2
  have y2 : Below w0.heap.size w0 w2 := (hb0.trans (z1.mono hb0.size)).trans (z2.mono (hb0.trans (z1.mono hb0.size)).size)
  have x2 : Hid (Fr X w w2) := ((Fr.refl X w).below z1).below z2
  have HW2 := Lib.hid hw2
  clear hw2
  have k5 : w2.cell? ⟨g, 5, none⟩ = some (.slice R rs.length d) := hr2.cell 5
  rw [HW2.out] at k5
  go_wp2_with fail
  rw [← HW2.out] at k5 ⊢
  clear HW2 hr1 ol1 or1 hr ol or_
  have or2c := or2.le
  refine (pop_any _ _ _ _ (by omega) or2c).mono ?_
  rintro e w2' ⟨rfl, rfl⟩
  have kf := hr2.frozen 5
  have hr3 : RunAt (w2.setCell ⟨g, 5, none⟩ (.slice R (rs.length - 1) d)) g sy st A n k q L ls.length c R (rs.length - 1) d := Blk.set_ hr2 5 _
  have ol3 := ol2.far (p := ⟨g, 5, none⟩) (hr2.ne_own ol2) (.slice R (rs.length - 1) d)
  have or3 := (or2.upto (j := rs.length - 1) (by omega)).far (p := ⟨g, 5, none⟩) (hr2.ne_own or2) (.slice R (rs.length - 1) d)
  rw [ints_take, ← List.dropLast_eq_take] at or3
  have gb : g ≠ w1.heap.size := by have := z1.size; omega
  have bx3 := bx.far (p := ⟨g, 5, none⟩) (Ne.symm gb) (.slice R (rs.length - 1) d)
  have y3 := y2.setCell (p := ⟨g, 5, none⟩) hg (.slice R (rs.length - 1) d)
  have x3 : Hid (Fr X w (w2.setCell ⟨g, 5, none⟩ (.slice R (rs.length - 1) d))) := x2.out.set_ (p := ⟨g, 5, none⟩) hXg.out _
  have s3 : (w2.setCell ⟨g, 5, none⟩ (.slice R (rs.length - 1) d)).heap.size = w2.heap.size := by simp [World.setCell]
  obtain ⟨w3, hw3⟩ : ∃ w3, w3 = w2.setCell ⟨g, 5, none⟩ (.slice R (rs.length - 1) d) := ⟨_, rfl⟩
  rw [← hw3] at hr3 ol3 or3 bx3 y3 s3 x3
  have HW3 := Lib.hid hw3
  clear hw3
  have k31 : w3.cell? ⟨w1.heap.size, 1, none⟩ = some (.int .i64 r.b) := bx3.cell 1
  have k30 : w3.cell? ⟨w1.heap.size, 0, none⟩ = some (.int .i64 r.a) := bx3.cell 0
  have k34 : w3.cell? ⟨g, 4, none⟩ = some (.slice L ls.length c) := hr3.cell 4
  have k35 : w3.cell? ⟨g, 5, none⟩ = some (.slice R (rs.length - 1) d) := hr3.cell 5
  have kq := k31
  rw [HW3.out] at kq
  have hwz : w1.heap.size < w3.heap.size := bx3.lt
  have S3z := Lib.hid s3
  clear s3
  have y3z : w0.heap.size ≤ w3.heap.size := y3.size
  by_cases hmv : 0 < r.b
  · go_upto_region 4 with fail
    rw [← HW3.out]
    clear kq k5 kf
    go_cut [2] (fun s2 wx => s2 = .bool false ∧ ∃ L2 c2, RunAt wx g sy st A n k q L2 (pushI ls r.a).length c2 R (rs.length - 1) d ∧ Own wx w0.heap.size 2 1 L2 (pushI ls r.a).length c2 (ints (pushI ls r.a)) ∧ Own wx w0.heap.size 2 1 R (rs.length - 1) d (ints rs.dropLast) ∧ (∀ b, blk L2 = some b → blk R ≠ some b) ∧ Blk wx w1.heap.size 229 #[.int .i64 r.a, .int .i64 r.b, .int .i64 r.c] ∧ Below w0.heap.size w0 wx ∧ Fr X w wx ∧ (∀ b, blk L2 = some b → ¬ X b))
    case first =>
      go_region_law
        ((go_simp; go_at_call 264; refine (push_any _ _ _ ls _ _ w0.heap.size (ol3.drewN 1) y3z (by omega)).mono ?_; rintro e w4 ⟨L2, c2, rfl, ol4, hg4, hwh4, _⟩
          have hr4 : RunAt w4 g sy st A n k q L ls.length c R (rs.length - 1) d := (hg4.block g hr3.lt (fun e => hr3.ne_own ol3 e.symm)).trans hr3
          have e4 : w4.cell? ⟨g, 4, none⟩ = some (.slice L ls.length c) := hr4.cell 4
          have f4 := hr4.frozen 4))
      all_goals
        go_wp2_with fail
        go_meet
        refine ⟨rfl, L2, c2, Blk.set_ hr4 4 _, ol4.far (p := ⟨g, 4, none⟩) (hr4.ne_own ol4) _, ?_, ?_, ?_, ?_, ?_, ?_⟩
        · have or4 : Own w4 w0.heap.size 2 1 R (rs.length - 1) d (ints rs.dropLast) := or3.kept (fun b hb _ hlt' => hg4.block b hlt' (fun e => HAP.out b e.symm hb))
          exact or4.far (p := ⟨g, 4, none⟩) (hr4.ne_own or4) _
        · intro b h5 h6
          rcases hwh4 with h7 | h7
          · rw [h7] at h5; exact HAP.out b h5 h6
          · have h8 : w3.heap.size ≤ b := h7 b h5; have := or3.blk_lt b h6; omega
        · have bx4 : Blk w4 w1.heap.size 229 #[.int .i64 r.a, .int .i64 r.b, .int .i64 r.c] := (hg4.block w1.heap.size hwz (fun e => bx3.ne_own ol3 e.symm)).trans bx3
          exact bx4.far (p := ⟨g, 4, none⟩) (Ne.symm gb) _
        · exact ((ol3.drewN 1).below_of (below_drewN y3 1) hg4 y3z).setCell (p := ⟨g, 4, none⟩) hg _
        · exact ((x3.out.drewN 1).grown hg4 HXL.out).set_ (p := ⟨g, 4, none⟩) hXg.out _
        · intro b h5 h6
          rcases hwh4 with h7 | h7
          · rw [h7] at h5; exact HXL.out b h5 h6
          · have h8 : w3.heap.size ≤ b := h7 b h5
            have h9 := hXt.out b h6
            have := x3.out.size
            omega
    case rest =>
      obtain ⟨rfl, L2, c2, hr5, ol5, or5, hap5, bx5, y5, x5', hxl5⟩ := hcut
      have HAP5 := Lib.hid hap5
      have HXL5 := Lib.hid hxl5
      have x5 := Lib.hid x5'
      clear hap5 hxl5 x5' k31 k30 k34 k35
      have HSL : Hid (stepL r ls = pushI ls r.a) := by show _ = _; unfold stepL; rw [if_pos hmv]
      have HSR : Hid (stepR r ls rs = rs.dropLast) := by show _ = _; unfold stepR; rw [if_pos hmv]
      have m2 : wc.cell? ⟨w1.heap.size, 2, none⟩ = some (.int .i64 r.c) := bx5.cell 2
      have m3 : wc.cell? ⟨g, 3, none⟩ = some (.int .i64 q) := hr5.cell 3
      have mf := hr5.frozen 3
      have m4 : wc.cell? ⟨g, 4, none⟩ = some (.slice L2 (pushI ls r.a).length c2) := hr5.cell 4
      have m5 : wc.cell? ⟨g, 5, none⟩ = some (.slice R (rs.length - 1) d) := hr5.cell 5
      have hr6 : RunAt (wc.setCell ⟨g, 3, none⟩ (.int .i64 r.c)) g sy st A n k r.c L2 (pushI ls r.a).length c2 R (rs.length - 1) d := Blk.set_ hr5 3 _
      have ol6 := ol5.far (p := ⟨g, 3, none⟩) (hr5.ne_own ol5) (.int .i64 r.c)
      have or6 := or5.far (p := ⟨g, 3, none⟩) (hr5.ne_own or5) (.int .i64 r.c)
      have y6 := y5.setCell (p := ⟨g, 3, none⟩) hg (.int .i64 r.c)
      have x6 : Hid (Fr X w (wc.setCell ⟨g, 3, none⟩ (.int .i64 r.c))) := x5.out.set_ (p := ⟨g, 3, none⟩) hXg.out _
      have e6 : rs.length - 1 = rs.dropLast.length := by simp
      rw [e6] at hr6 or6
      have E6 := Lib.hid e6
      clear e6
      go_wp2_with fail
      all_goals go_ret
      all_goals refine ⟨ret_bool ?_, ?_, y6, x6.out⟩
      all_goals rw [HSL.out, HSR.out]
      all_goals first
        | exact ⟨L2, c2, R, d, hr6, ol6, or6, HAP5.out, HXL5.out, HXR.out⟩
        | (unfold roomB; rw [← E6.out, decide_eq_true (show (pushI ls r.a).length ≤ 200 by omega)]; simp; done)
        | (unfold roomB; rw [decide_eq_false (show ¬ (pushI ls r.a).length ≤ 200 by omega)]; simp; done)
        | (unfold roomB; rw [← E6.out, decide_eq_true (show (pushI ls r.a).length ≤ 200 by omega)]; simp; omega)
  · go_upto_region 5 with fail
    rw [← HW3.out]
    clear kq k5 kf
    have HSL : Hid (stepL r ls = ls.dropLast) := by show _ = _; unfold stepL; rw [if_neg (by omega)]
    have HSR : Hid (stepR r ls rs = pushI (pushI rs.dropLast r.a) (lastI ls)) := by show _ = _; unfold stepR; rw [if_neg (by omega)]
    have e6 : rs.length - 1 = rs.dropLast.length := by simp
    have E6 := Lib.hid e6
    clear e6
    have hdl : rs.dropLast.length ≤ 1000000 := by simp; omega
    have hnl : (pushI rs.dropLast r.a).length ≤ 1000001 := by unfold pushI; split <;> simp <;> omega
    go_cut [2] (fun s2 wx => s2 = .bool false ∧ ∃ R2 d2, RunAt wx g sy st A n k q L ls.length c R2 (pushI (pushI rs.dropLast r.a) (lastI ls)).length d2 ∧ Own wx w0.heap.size 2 1 R2 (pushI (pushI rs.dropLast r.a) (lastI ls)).length d2 (ints (pushI (pushI rs.dropLast r.a) (lastI ls))) ∧ Own wx w0.heap.size 2 1 L ls.length c (ints ls) ∧ (∀ b, blk L = some b → blk R2 ≠ some b) ∧ Blk wx w1.heap.size 229 #[.int .i64 r.a, .int .i64 r.b, .int .i64 r.c] ∧ Below w0.heap.size w0 wx ∧ Fr X w wx ∧ (∀ b, blk R2 = some b → ¬ X b))
    case first =>
      go_region_law
        ((go_simp; first
          | (go_at_call_of 264 (Value.int IntKind.i64 r.a); refine (push_any _ _ _ rs.dropLast _ _ w0.heap.size (or3.drewN 1) y3z (by omega)).mono ?_; rintro e w4 ⟨R2, d2, rfl, or4, hg4, hwh4, _⟩
             have hr4 : RunAt w4 g sy st A n k q L ls.length c R (rs.length - 1) d := (hg4.block g hr3.lt (fun e => hr3.ne_own or3 e.symm)).trans hr3
             have ol4 : Own w4 w0.heap.size 2 1 L ls.length c (ints ls) := ol3.kept (fun b hb _ hlt' => hg4.block b hlt' (fun e => HAP.out b hb e.symm))
             have bx4 : Blk w4 w1.heap.size 229 #[.int .i64 r.a, .int .i64 r.b, .int .i64 r.c] := (hg4.block w1.heap.size hwz (fun e => bx3.ne_own or3 e.symm)).trans bx3
             have y4 : Below w0.heap.size w0 w4 := (or3.drewN 1).below_of (below_drewN y3 1) hg4 y3z
             have e4 : w4.cell? ⟨g, 4, none⟩ = some (.slice L ls.length c) := hr4.cell 4)
          | (go_at_call 265; refine (nearest_any _ _ _ ls _ ol4.rd (by omega)).mono ?_; rintro e w' ⟨rfl, rfl⟩)
          | (go_at_call 265; refine (nearest_any _ _ _ ls _ (ol3.drewN 1).rd (by omega)).mono ?_; rintro e w' ⟨rfl, rfl⟩)
          | (go_at_call_of 264 (Value.int IntKind.i64 (lastI ls)); refine (push_any _ _ _ (pushI rs.dropLast r.a) _ _ w0.heap.size or4 y4.size (by omega)).mono ?_; rintro e w5 ⟨RR, d3, rfl, or5, hg5, hwh5, _⟩
             have hr5 : RunAt w5 g sy st A n k q L ls.length c R (rs.length - 1) d := (hg5.block g hr4.lt (fun e => hr4.ne_own or4 e.symm)).trans hr4
             have e5 : w5.cell? ⟨g, 5, none⟩ = some (.slice R (rs.length - 1) d) := hr5.cell 5
             have f5 := hr5.frozen 5)))
      all_goals
        go_wp2_with fail
        go_meet
        have hL2 : ∀ b, blk L = some b → blk R2 ≠ some b := fun b h5 h6 => by
          rcases hwh4 with h7 | h7
          · rw [h7] at h6; exact HAP.out b h5 h6
          · have h8 : w3.heap.size ≤ b := h7 b h6
            have := ol3.blk_lt b h5; omega
        have ol5 : Own w5 w0.heap.size 2 1 L ls.length c (ints ls) := ol4.kept (fun b hb _ hlt' => hg5.block b hlt' (fun e => hL2 b hb e.symm))
        have hX2 : ∀ b, blk R2 = some b → ¬ X b := fun b h5 h6 => by
          rcases hwh4 with h7 | h7
          · rw [h7] at h5; exact HXR.out b h5 h6
          · have h8 : w3.heap.size ≤ b := h7 b h5
            have h9 := hXt.out b h6
            have := x3.out.size
            omega
        have x4 : Fr X w w4 := (x3.out.drewN 1).grown hg4 HXR.out
        refine ⟨rfl, RR, d3, Blk.set_ hr5 5 _, or5.far (p := ⟨g, 5, none⟩) (hr5.ne_own or5) _, ol5.far (p := ⟨g, 5, none⟩) (hr5.ne_own ol5) _, ?_, ?_, ?_, ?_, ?_⟩
        · intro b h5 h6
          rcases hwh5 with h7 | h7
          · rw [h7] at h6; exact hL2 b h5 h6
          · have h8 : w4.heap.size ≤ b := h7 b h6
            have := ol4.blk_lt b h5; omega
        · have bx5 : Blk w5 w1.heap.size 229 #[.int .i64 r.a, .int .i64 r.b, .int .i64 r.c] := (hg5.block w1.heap.size bx4.lt (fun e => bx4.ne_own or4 e.symm)).trans bx4
          exact bx5.far (p := ⟨g, 5, none⟩) (Ne.symm gb) _
        · exact (or4.below_of y4 hg5 y4.size).setCell (p := ⟨g, 5, none⟩) hg _
        · exact (x4.grown hg5 hX2).set_ (p := ⟨g, 5, none⟩) hXg.out _
        · intro b h5 h6
          rcases hwh5 with h7 | h7
          · rw [h7] at h5; exact hX2 b h5 h6
          · have h8 : w4.heap.size ≤ b := h7 b h5
            have h9 := hXt.out b h6
            have := x4.size
            omega
    case rest =>
      obtain ⟨rfl, R2, d2, hr5, or5, ol5, hap5, bx5, y5, x5', hxr5⟩ := hcut
      have HAP5 := Lib.hid hap5
      have HXR5 := Lib.hid hxr5
      have x5 := Lib.hid x5'
      clear hap5 hxr5 x5' k31 k30 k34 k35
      have m4 : wc.cell? ⟨g, 4, none⟩ = some (.slice L ls.length c) := hr5.cell 4
      have mf4 := hr5.frozen 4
      have olc := ol5.le
      go_wp2_with fail
      refine (pop_any _ _ _ _ (by omega) olc).mono ?_
      rintro e w6' ⟨rfl, rfl⟩
      have hr6 : RunAt (wc.setCell ⟨g, 4, none⟩ (.slice L (ls.length - 1) c)) g sy st A n k q L (ls.length - 1) c R2 (pushI (pushI rs.dropLast r.a) (lastI ls)).length d2 := Blk.set_ hr5 4 _
      have or6 := or5.far (p := ⟨g, 4, none⟩) (hr5.ne_own or5) (.slice L (ls.length - 1) c)
      have ol6 := (ol5.upto (j := ls.length - 1) (by omega)).far (p := ⟨g, 4, none⟩) (hr5.ne_own ol5) (.slice L (ls.length - 1) c)
      rw [ints_take, ← List.dropLast_eq_take] at ol6
      have bx6 := bx5.far (p := ⟨g, 4, none⟩) (Ne.symm gb) (.slice L (ls.length - 1) c)
      have y6 := y5.setCell (p := ⟨g, 4, none⟩) hg (.slice L (ls.length - 1) c)
      have m2 : (wc.setCell ⟨g, 4, none⟩ (.slice L (ls.length - 1) c)).cell? ⟨w1.heap.size, 2, none⟩ = some (.int .i64 r.c) := bx6.cell 2
      have m3 : (wc.setCell ⟨g, 4, none⟩ (.slice L (ls.length - 1) c)).cell? ⟨g, 3, none⟩ = some (.int .i64 q) := hr6.cell 3
      have mf3 := hr6.frozen 3
      have m54 : (wc.setCell ⟨g, 4, none⟩ (.slice L (ls.length - 1) c)).cell? ⟨g, 4, none⟩ = some (.slice L (ls.length - 1) c) := hr6.cell 4
      have m5 : (wc.setCell ⟨g, 4, none⟩ (.slice L (ls.length - 1) c)).cell? ⟨g, 5, none⟩ = some (.slice R2 (pushI (pushI rs.dropLast r.a) (lastI ls)).length d2) := hr6.cell 5
      have hr7 : RunAt ((wc.setCell ⟨g, 4, none⟩ (.slice L (ls.length - 1) c)).setCell ⟨g, 3, none⟩ (.int .i64 r.c)) g sy st A n k r.c L (ls.length - 1) c R2 (pushI (pushI rs.dropLast r.a) (lastI ls)).length d2 := Blk.set_ hr6 3 _
      have ol7 := ol6.far (p := ⟨g, 3, none⟩) (hr6.ne_own ol6) (.int .i64 r.c)
      have or7 := or6.far (p := ⟨g, 3, none⟩) (hr6.ne_own or6) (.int .i64 r.c)
      have y7 := y6.setCell (p := ⟨g, 3, none⟩) hg (.int .i64 r.c)
      have x7 : Hid (Fr X w ((wc.setCell ⟨g, 4, none⟩ (.slice L (ls.length - 1) c)).setCell ⟨g, 3, none⟩ (.int .i64 r.c))) := (x5.out.set_ (p := ⟨g, 4, none⟩) hXg.out _).set_ (p := ⟨g, 3, none⟩) hXg.out _
      have e7 : ls.length - 1 = ls.dropLast.length := by simp
      have E7 := Lib.hid e7
      clear e7
      have n4 : wc.cell? ⟨w1.heap.size, 2, none⟩ = some (.int .i64 r.c) := bx5.cell 2
      have n3 : wc.cell? ⟨g, 3, none⟩ = some (.int .i64 q) := hr5.cell 3
      have nf3 := hr5.frozen 3
      have n5 : wc.cell? ⟨g, 5, none⟩ = some (.slice R2 (pushI (pushI rs.dropLast r.a) (lastI ls)).length d2) := hr5.cell 5
      clear m2 m3 mf3 m54 m5
      go_wp2_with fail
      all_goals go_ret
      all_goals refine ⟨ret_bool ?_, ?_, y7, x7.out⟩
      all_goals rw [HSL.out, HSR.out]
      all_goals first
        | exact ⟨L, c, R2, d2, by rw [← E7.out]; exact hr7, by rw [← E7.out]; exact ol7, or7, HAP5.out, HXL.out, HXR5.out⟩
        | (unfold roomB; rw [← E7.out, decide_eq_true (show ls.length - 1 ≤ 200 by omega)]; simp; done)
        | (unfold roomB; rw [← E7.out, decide_eq_false (show ¬ ls.length - 1 ≤ 200 by omega)]; simp; done)
        | (unfold roomB; rw [← E7.out, decide_eq_true (show ls.length - 1 ≤ 200 by omega)]; simp; omega)

theorem step_any (w0 : World) (g : Nat) (sy st : Int) (A : Option Addr) (n k : Nat) (us : List R3) (q : Int) (ls rs : List Int) (idx : Nat) (r : R3) (w : World) (hs : Sides w w0.heap.size g sy st A n k q ls rs) (hus : S3 w0 A n us) (hb0 : Below w0.heap.size w0 w) (hg : w0.heap.size ≤ g)
    (hll : ls.length ≤ 1000000) (hrl : rs.length ≤ 1000000) (h1 : 0 ≤ q * sy) (h2 : q * sy ≤ 1000000) (h3 : 0 ≤ lastI rs) (h4 : lastI rs ≤ 1000000) (hidx : Hid (atI sy q rs = (idx : Int))) (hlt : idx < n) (hri : Hid (us[idx]? = some r)) (hn : n ≤ 1048576) :
    Calls Try.prog 197 #[.pointer (some ⟨g, 0, none⟩)] w (StepP w0 g sy st A n k r ls rs) := by
  obtain ⟨L, c, R, d, e1, e2, e3, e4⟩ := hs
  exact (step_x (fun _ => False) w0 g sy st A n k us q ls rs idx r w ⟨L, c, R, d, e1, e2, e3, e4, fun _ _ h => h, fun _ _ h => h⟩ (Lib.hid (fun h => h)) (Lib.hid (fun _ h => h.elim)) hus hb0 hg hll hrl h1 h2 h3 h4 hidx hlt hri hn).mono fun _ _ ⟨a, b, c, _⟩ => ⟨a, b.sides, c⟩
end Go.Proofs.Ytbpofkggoolmpaa

/-
  Contracts of impl's runner.config and StepMachine.
-/
namespace Go.Proofs.Ytbpofkggoolmpaa
open Go.RowKit

def NewConf (w : World) (q : Int) (xs ys : List Int) (e : Ending) (w' : World) : Prop :=
  ∃ L c R d, e = .returned (.agg #[.int .i64 q, .slice L xs.length c, .slice R ys.length d]) ∧ Own w' w.heap.size 2 1 L xs.length c (ints xs) ∧ Own w' w.heap.size 2 1 R ys.length d (ints ys) ∧ (∀ b, blk L = some b → blk R ≠ some b) ∧ Below w.heap.size w w'

set_option maxHeartbeats 2000000 in
theorem config_any (g : Nat) (sy st : Int) (A : Option Addr) (n k : Nat) (q : Int) (lo : Nat) (ls rs : List Int) (w : World) (hs : Sides w lo g sy st A n k q ls rs) (hll : ls.length ≤ 1000000) (hrl : rs.length ≤ 1000000) :
    Calls Try.prog 115 #[.pointer (some ⟨g, 0, none⟩)] w (NewConf w q ls.reverse rs.reverse) := by
  obtain ⟨L, c, R, d, hr, ol, or_, _⟩ := hs
  obtain ⟨W, hW⟩ : ∃ W, W = w.alloc (.cells #[.int .i64 0, .slice none 0 0, .slice none 0 0] 50) := ⟨_, rfl⟩
  have b0 : Blk W w.heap.size 50 #[.int .i64 0, .slice none 0 0, .slice none 0 0] := by rw [hW]; exact Blk.new w _ _
  have y0 : Below w.heap.size w W := by rw [hW]; exact (Below.refl _ _).alloc (Nat.le_refl _) _
  have HW := Lib.hid hW
  clear hW
  have hrW : RunAt W g sy st A n k q L ls.length c R rs.length d := Blk.below' hr y0
  have q3 : W.cell? ⟨g, 3, none⟩ = some (.int .i64 q) := hrW.cell 3
  have q4 : W.cell? ⟨g, 4, none⟩ = some (.slice L ls.length c) := hrW.cell 4
  have q5 : W.cell? ⟨g, 5, none⟩ = some (.slice R rs.length d) := hrW.cell 5
  have hgw : g < w.heap.size := hr.lt
  have n1 : ¬ g = w.heap.size := by omega
  have hwW : w.heap.size < W.heap.size := b0.lt
  have slW := ((ol.below y0).drewN 1).rd
  have srW := (or_.below y0).rd
  go_enter Try.func115, Try.ntmps115
  go_wp2_with fail
  rw [← HW.out]
  go_region_held3 (fun w' => w'.cell? ⟨g, 3, none⟩ = some (.int .i64 q) ∧ w'.cell? ⟨g, 4, none⟩ = some (.slice L ls.length c) ∧ w'.cell? ⟨g, 5, none⟩ = some (.slice R rs.length d))
    (first
      | (go_keep; done)
      | (exact ⟨far_set n1 (far_set n1 (far_set n1 ((Blk.below' hrW z3).cell 3))), far_set n1 (far_set n1 (far_set n1 ((Blk.below' hrW z3).cell 4))), far_set n1 (far_set n1 (far_set n1 ((Blk.below' hrW z3).cell 5)))⟩)
      | (exact ⟨(Blk.below' hrW z3).cell 3, (Blk.below' hrW z3).cell 4, (Blk.below' hrW z3).cell 5⟩)
      | (exact ⟨(Blk.below' hrW z2).cell 3, (Blk.below' hrW z2).cell 4, (Blk.below' hrW z2).cell 5⟩))
    (first
      | (go_at_call_of 199 (Value.slice L ls.length c); refine (reversed_any _ _ _ ls _ slW (by omega)).mono ?_; rintro e w2 ⟨L2, cl, rfl, ol2, z2'⟩; have z2 : Below W.heap.size W w2 := below_undrew z2')
      | (go_at_call_of 199 (Value.slice R rs.length d); refine (reversed_any _ _ _ rs _ (SI.below (xs := rs) srW z2) (by omega)).mono ?_; rintro e w3 ⟨R2, cr, rfl, or2, z3'⟩; have z3 : Below W.heap.size W w3 := z2.trans (z3'.mono z2.size)
         have e0 : w3.cell? ⟨w.heap.size, 0, none⟩ = some (.int .i64 0) := (b0.below' z3).cell 0
         have e1 : w3.cell? ⟨w.heap.size, 1, none⟩ = some (.slice none 0 0) := (b0.below' z3).cell 1
         have e2 : w3.cell? ⟨w.heap.size, 2, none⟩ = some (.slice none 0 0) := (b0.below' z3).cell 2
         have f0 := (b0.below' z3).frozen 0
         have f1 := (b0.below' z3).frozen 1
         have f2 := (b0.below' z3).frozen 2))
  go_wp2_with fail
  have d1 : Blk (((w3.setCell ⟨w.heap.size, 0, none⟩ (.int .i64 q)).setCell ⟨w.heap.size, 1, none⟩ (.slice L2 ls.length cl)).setCell ⟨w.heap.size, 2, none⟩ (.slice R2 rs.length cr)) w.heap.size 50 #[.int .i64 q, .slice L2 ls.length cl, .slice R2 rs.length cr] := (((b0.below' z3).set_ 0 _).set_ 1 _).set_ 2 _
  rw [List.length_reverse] at ol2 or2
  have hz2 : W.heap.size ≤ w2.heap.size := z2.size
  have olf : Own (((w3.setCell ⟨w.heap.size, 0, none⟩ (.int .i64 q)).setCell ⟨w.heap.size, 1, none⟩ (.slice L2 ls.length cl)).setCell ⟨w.heap.size, 2, none⟩ (.slice R2 rs.length cr)) W.heap.size 2 1 L2 ls.length cl (ints ls.reverse) :=
    (((Own.below ol2 z3').far (fun e => by have h : W.heap.size ≤ w.heap.size := ol2.blk_ge _ e; omega) _).far (fun e => by have h : W.heap.size ≤ w.heap.size := ol2.blk_ge _ e; omega) _).far (fun e => by have h : W.heap.size ≤ w.heap.size := ol2.blk_ge _ e; omega) _
  have orf : Own (((w3.setCell ⟨w.heap.size, 0, none⟩ (.int .i64 q)).setCell ⟨w.heap.size, 1, none⟩ (.slice L2 ls.length cl)).setCell ⟨w.heap.size, 2, none⟩ (.slice R2 rs.length cr)) w2.heap.size 2 1 R2 rs.length cr (ints rs.reverse) :=
    ((or2.far (fun e => by have h : w2.heap.size ≤ w.heap.size := or2.blk_ge _ e; omega) _).far (fun e => by have h : w2.heap.size ≤ w.heap.size := or2.blk_ge _ e; omega) _).far (fun e => by have h : w2.heap.size ≤ w.heap.size := or2.blk_ge _ e; omega) _
  have yf : Below w.heap.size w (((w3.setCell ⟨w.heap.size, 0, none⟩ (.int .i64 q)).setCell ⟨w.heap.size, 1, none⟩ (.slice L2 ls.length cl)).setCell ⟨w.heap.size, 2, none⟩ (.slice R2 rs.length cr)) := (((y0.trans (z3.mono y0.size)).setCell (Nat.le_refl _) _).setCell (Nat.le_refl _) _).setCell (Nat.le_refl _) _
  generalize ((w3.setCell ⟨w.heap.size, 0, none⟩ (.int .i64 q)).setCell ⟨w.heap.size, 1, none⟩ (.slice L2 ls.length cl)).setCell ⟨w.heap.size, 2, none⟩ (.slice R2 rs.length cr) = wf at *
  have g0 : wf.cell? ⟨w.heap.size, 0, none⟩ = some (.int .i64 q) := d1.cell 0
  have g1 : wf.cell? ⟨w.heap.size, 1, none⟩ = some (.slice L2 ls.length cl) := d1.cell 1
  have g2 : wf.cell? ⟨w.heap.size, 2, none⟩ = some (.slice R2 rs.length cr) := d1.cell 2
  have hres : NewConf w q ls.reverse rs.reverse (.returned (.agg #[.int .i64 q, .slice L2 ls.length cl, .slice R2 rs.length cr])) wf := by
    refine ⟨L2, cl, R2, cr, by rw [List.length_reverse, List.length_reverse], by rw [List.length_reverse]; exact olf.mono (by omega), by rw [List.length_reverse]; exact orf.mono (by omega), fun b h5 h6 => ?_, yf⟩
    have h7 := ol2.blk_lt b h5
    have h8 := or2.blk_ge b h6
    omega
  exact bodyPost_ret (v := .agg #[.int .i64 q, .slice L2 ls.length cl, .slice R2 rs.length cr]) (by simp [results, Try.results115, go_sem, g0, g1, g2]) rfl hres

/-- The rule that a configuration looks at (the sides as they stand in a configuration, the nearest symbols first). -/
def ruleOf (sy : Int) (rs : List R3) (q : Int) (ys : List Int) : R3 := rs.getD (atI sy q ys.reverse).toNat ⟨0, 0, -1⟩
/-- What a step of a machine comes to: a state, two sides, a code. -/
structure Conf where
  q : Int
  xs : List Int
  ys : List Int
def stepC (r : R3) (xs ys : List Int) : Conf := ⟨r.c, (stepL r xs.reverse).reverse, (stepR r xs.reverse ys.reverse).reverse⟩
def roomC (c : Conf) : Bool := roomB c.xs c.ys
def stepMachF (sy st : Int) (rs : List R3) (q : Int) (xs ys : List Int) : Conf × Int :=
  if validConfB sy st rs q xs ys then
    (if isRuleB (ruleOf sy rs q ys) then (if roomC (stepC (ruleOf sy rs q ys) xs ys) then (stepC (ruleOf sy rs q ys) xs ys, 0) else (⟨0, [], []⟩, 5)) else (⟨0, [], []⟩, 6))
  else (⟨0, [], []⟩, 1)

theorem conf_parts {sy st : Int} {rs : List R3} {q : Int} {xs ys : List Int} (h : validConfB sy st rs q xs ys = true) :
    2 ≤ sy ∧ sy ≤ 6 ∧ 1 ≤ st ∧ st ≤ 1000 ∧ (rs.length : Int) = st * sy ∧ 0 ≤ q ∧ q ≤ st - 1 ∧ xs.length ≤ 200 ∧ ys.length ≤ 200 ∧ (∀ x ∈ xs, 0 ≤ x ∧ x ≤ sy - 1) ∧ (∀ y ∈ ys, 0 ≤ y ∧ y ≤ sy - 1) ∧ ∀ r ∈ rs, validRuleB sy st r = true := by
  unfold validConfB at h
  simp only [Bool.and_eq_true] at h
  obtain ⟨hm, hc⟩ := h
  obtain ⟨p1, p2, p3, p4, p5, p6⟩ := machB_parts hm
  unfold confB sideB allIn at hc
  simp only [Bool.and_eq_true, inB_iff, decide_eq_true_eq, List.all_eq_true] at hc
  exact ⟨p1, p2, p3, p4, p5, hc.1.1.1, hc.1.1.2, by omega, by omega, hc.1.2.1.2, hc.2.1.2, p6⟩
theorem lastI_mem {xs : List Int} : lastI xs = 0 ∨ lastI xs ∈ xs := by
  unfold lastI
  rcases List.eq_nil_or_concat xs with rfl | ⟨l, a, rfl⟩
  · exact .inl rfl
  · right; simp
theorem at_parts {sy st q : Int} {ys : List Int} {n : Nat} (h1 : 2 ≤ sy) (h2 : sy ≤ 6) (_h3 : 1 ≤ st) (h4 : st ≤ 1000) (hn : (n : Int) = st * sy) (h5 : 0 ≤ q) (h6 : q ≤ st - 1) (hy : ∀ y ∈ ys, 0 ≤ y ∧ y ≤ sy - 1) :
    0 ≤ q * sy ∧ q * sy ≤ 6000 ∧ 0 ≤ lastI ys ∧ lastI ys ≤ 5 ∧ ∃ idx : Nat, atI sy q ys = (idx : Int) ∧ idx < n := by
  have a1 : 0 ≤ q * sy := Int.mul_nonneg h5 (by omega)
  have a2 : q * sy ≤ (st - 1) * sy := Int.mul_le_mul_of_nonneg_right h6 (by omega)
  have a3 : (st - 1) * sy = st * sy - sy := by rw [Int.sub_mul]; omega
  have a4 : st * sy ≤ 1000 * sy := Int.mul_le_mul_of_nonneg_right h4 (by omega)
  have a5 : 0 ≤ lastI ys ∧ lastI ys ≤ sy - 1 := by
    rcases lastI_mem (xs := ys) with h | h
    · rw [h]; omega
    · exact hy _ h
  refine ⟨a1, by omega, a5.1, by omega, (atI sy q ys).toNat, ?_, ?_⟩
  · unfold atI; omega
  · unfold atI; omega
theorem ruleOf_get {sy q : Int} {rs : List R3} {ys : List Int} {idx : Nat} (h : atI sy q ys.reverse = (idx : Int)) (hlt : idx < rs.length) : rs[idx]? = some (ruleOf sy rs q ys) := by
  unfold ruleOf
  rw [h, Int.toNat_natCast, List.getElem?_eq_getElem hlt]
  simp [List.getElem?_eq_getElem hlt]

/-- A configuration in new memory and a code. -/
def NewConf2 (w : World) (r : Conf × Int) (e : Ending) (w' : World) : Prop :=
  ∃ L c R d, e = .returned (.tuple #[.agg #[.int .i64 r.1.q, .slice L r.1.xs.length c, .slice R r.1.ys.length d], .int .i64 r.2]) ∧ Own w' w.heap.size 2 1 L r.1.xs.length c (ints r.1.xs) ∧ Own w' w.heap.size 2 1 R r.1.ys.length d (ints r.1.ys) ∧ (∀ b, blk L = some b → blk R ≠ some b) ∧ Below w.heap.size w w'
end Go.Proofs.Ytbpofkggoolmpaa

/-
  Contract of impl's StepMachine.
-/
namespace Go.Proofs.Ytbpofkggoolmpaa
open Go.RowKit

theorem newConf2_zero {w wf : World} {k : Int} {r : Conf × Int} (hr : r = (⟨0, [], []⟩, k)) (hz : Below w.heap.size w wf) : NewConf2 w r (.returned (.tuple #[.agg #[.int .i64 0, .slice none 0 0, .slice none 0 0], .int .i64 k])) wf := by
  subst hr
  exact ⟨none, 0, none, 0, rfl, Own.nil, Own.nil, fun b h => by simp [blk] at h, hz⟩

theorem conf_set {w : World} {g : Nat} {a b c : Value} {t : TypeId} (h : Blk w g t #[a, b, c]) (x y z : Value) : Blk (((w.setCell ⟨g, 0, none⟩ x).setCell ⟨g, 1, none⟩ y).setCell ⟨g, 2, none⟩ z) g t #[x, y, z] := ((h.set_ 0 x).set_ 1 y).set_ 2 z
theorem conf_below {w w' : World} {g lo : Nat} (h : Below lo w w') (hg : lo ≤ g) (x y z : Value) : Below lo w (((w'.setCell ⟨g, 0, none⟩ x).setCell ⟨g, 1, none⟩ y).setCell ⟨g, 2, none⟩ z) := ((h.setCell hg _).setCell hg _).setCell hg _
theorem conf_far {w : World} {g lo s n c : Nat} {t : TypeId} {A : Option Addr} {cs : List Value} (h : Own w lo t s A n c cs) (hg : g < lo) (x y z : Value) : Own (((w.setCell ⟨g, 0, none⟩ x).setCell ⟨g, 1, none⟩ y).setCell ⟨g, 2, none⟩ z) lo t s A n c cs := by
  have hb : blk A ≠ some g := fun e => by have := h.blk_ge _ e; omega
  exact ((h.far (p := ⟨g, 0, none⟩) hb _).far (p := ⟨g, 1, none⟩) hb _).far (p := ⟨g, 2, none⟩) hb _

end Go.Proofs.Ytbpofkggoolmpaa

/-
  Contract of the reference's l05Step.
-/
namespace Go.Proofs.Ytbpofkggoolmpaa
open Go.RowKit

def SpecConf (w : World) (r : Conf) (v : Bool) (e : Ending) (w' : World) : Prop :=
  ∃ L c R d, e = .returned (.tuple #[.agg #[.int .i64 r.q, .slice L r.xs.length c, .slice R r.ys.length d], .bool v]) ∧ Own w' w.heap.size 2 1 L r.xs.length c (ints r.xs) ∧ Own w' w.heap.size 2 1 R r.ys.length d (ints r.ys) ∧ (∀ b, blk L = some b → blk R ≠ some b) ∧ Below w.heap.size w w'

def stepS (r : R3) (xs ys : List Int) : Conf :=
  ⟨r.c, if 0 < r.b then trimI (r.a :: xs) else xs.tail, if 0 < r.b then ys.tail else trimI (xs.headD 0 :: trimI (r.a :: ys.tail))⟩

theorem room_eq {xs ys : List Int} {a b : Nat} (h : xs.length = a) (h' : ys.length = b) : roomB xs ys = (decide ((a : Int) ≤ 200) && decide ((b : Int) ≤ 200)) := by
  unfold roomB; subst h; subst h'
  congr 1 <;> (rw [decide_eq_decide]; omega)
theorem trim_len (xs : List Int) : (trimI xs).length ≤ xs.length := by
  unfold trimI; rw [List.length_reverse]
  have := (List.dropWhile_sublist (fun x : Int => x == 0) (l := xs.reverse)).length_le
  simpa using this
theorem trim_good {xs : List Int} (h : xs = [] ∨ lastI xs ≠ 0) : trimI xs = xs := by
  rcases List.eq_nil_or_concat xs with rfl | ⟨l, a, rfl⟩
  · rfl
  · rcases h with h | h
    · simp at h
    · have h' : a ≠ 0 := by simpa [lastI] using h
      have := trim_snoc l (x := a) (by simpa using h')
      simpa using this
theorem trim_push {xs : List Int} (h : xs = [] ∨ lastI xs ≠ 0) (x : Int) : trimI (x :: xs) = (pushI xs.reverse x).reverse := by
  unfold pushI
  by_cases hx : xs = []
  · subst hx
    by_cases h0 : x = 0
    · subst h0; rfl
    · simp [h0]
      exact trim_good (xs := [x]) (.inr (by simpa [lastI] using h0))
  · have h1 : lastI xs ≠ 0 := by rcases h with h | h; exact absurd h hx; exact h
    have h2 : lastI (x :: xs) = lastI xs := by unfold lastI; cases xs with | nil => exact absurd rfl hx | cons y ys => simp
    rw [trim_good (.inr (by rw [h2]; exact h1)), if_neg (by simp [hx])]
    simp
theorem good_tail {xs : List Int} (h : xs = [] ∨ lastI xs ≠ 0) : xs.tail = [] ∨ lastI xs.tail ≠ 0 := by
  cases xs with
  | nil => exact .inl rfl
  | cons x l =>
    cases l with
    | nil => exact .inl rfl
    | cons y l =>
      right
      rcases h with h | h
      · simp at h
      · unfold lastI at h ⊢; simpa using h
theorem good_push {xs : List Int} (h : xs = [] ∨ lastI xs ≠ 0) (x : Int) : (pushI xs.reverse x).reverse = [] ∨ lastI (pushI xs.reverse x).reverse ≠ 0 := by
  unfold pushI
  by_cases hx : xs = []
  · subst hx
    by_cases h0 : x = 0
    · subst h0; exact .inl rfl
    · right; simp [h0, lastI]
  · right
    have h1 : lastI xs ≠ 0 := by rcases h with h | h; exact absurd h hx; exact h
    have h2 : lastI (x :: xs) = lastI xs := by unfold lastI; cases xs with | nil => exact absurd rfl hx | cons y ys => simp
    rw [if_neg (by simp [hx])]
    simp
    rw [h2]; exact h1
theorem rev_dropLast (ys : List Int) : ys.reverse.dropLast.reverse = ys.tail := by cases ys <;> simp
theorem stepS_eq {r : R3} {xs ys : List Int} (hx : xs = [] ∨ lastI xs ≠ 0) (hy : ys = [] ∨ lastI ys ≠ 0) : stepS r xs ys = stepC r xs ys := by
  unfold stepS stepC stepL stepR
  by_cases h : 0 < r.b
  · rw [if_pos h, if_pos h, if_pos h, if_pos h, trim_push hx, rev_dropLast]
  · rw [if_neg h, if_neg h, if_neg h, if_neg h, rev_dropLast, trim_push (good_tail hy), trim_push (good_push (good_tail hy) _), List.reverse_reverse, ← lastI_reverse]
    have : ys.tail.reverse = ys.reverse.dropLast := by rw [← rev_dropLast ys, List.reverse_reverse]
    rw [this]

end Go.Proofs.Ytbpofkggoolmpaa

/-
  Contract of the reference's StepMachine.
-/
namespace Go.Proofs.Ytbpofkggoolmpaa
open Go.RowKit

theorem conf_good {sy st : Int} {rs : List R3} {q : Int} {xs ys : List Int} (h : validConfB sy st rs q xs ys = true) : (xs = [] ∨ lastI xs ≠ 0) ∧ (ys = [] ∨ lastI ys ≠ 0) := by
  unfold validConfB at h
  simp only [Bool.and_eq_true] at h
  have hc := h.2
  unfold confB sideB at hc
  simp only [Bool.and_eq_true, Bool.or_eq_true, decide_eq_true_eq, bne_iff_ne, ne_eq] at hc
  exact ⟨hc.1.2.2, hc.2.2⟩

end Go.Proofs.Ytbpofkggoolmpaa
