/-
  The reference's draws of expressions: l22Var, l22DrawExpr, B10Expr.
-/
import Derived.Test.YtfheepjfpgiaoaaEsI
import Derived.Test.YtfheepjfpgiaoaaBrP
import Derived.Test.YtfheepjfpgiaoaaAmong
import Derived.Test.YtfheepjfpgiaoaaDrawWd
namespace Go.Proofs.Ytfheepjfpgiaoaa
open Go.RowKit

/-- Expression elements in new memory. -/
def NewX (w : World) (rs : List R2) (e : Ending) (w' : World) : Prop := ∃ A c, e = .returned (.slice A rs.length c) ∧ Own w' w.heap.size 118 2 A rs.length c (cells2 rs) ∧ Below w.heap.size w w'
set_option maxHeartbeats 1000000 in
theorem l22Var_any (k : Int) (w : World) : Calls Try.prog 158 #[.int .i64 k] w (NewX w [⟨1, k⟩]) := by
  go_enter Try.func158, Try.ntmps158
  go_wp2_with fail
  go_ret
  exact ⟨_, 1, rfl, Own.lit w #[.int .i64 1, .int .i64 k] _ 1 2 w.heap.size rfl (by simp [maxLen]) (Nat.le_refl _), (Below.refl _ _).alloc (Nat.le_refl _) _⟩
theorem low_ok : ∀ {e : Ex}, e.low → e.ok
  | .nil, _ => trivial
  | .var v, h => by have : v < 4 := h; show v < 6; omega
  | .cons a b, h => ⟨low_ok h.1, low_ok h.2⟩
  | .hd a, h => low_ok (e := a) h
  | .tl a, h => low_ok (e := a) h
  | .same a b, h => ⟨low_ok h.1, low_ok h.2⟩
/-- An expression was drawn. -/
def DrewX (b : Nat) (A : Option Addr) (n c T M : Nat) (w : World) (e : Ending) (w' : World) : Prop :=
  ∃ D d ex, e = .returned (.slice D (Ex.len ex) d) ∧ Own w' w.heap.size 118 2 D ex.len d (cells2 ex.enc) ∧ ex.len ≤ M ∧ Hid ex.low ∧ Src b A n c T w' ∧ Kb b w w'
def unE (x : Int) (e : Ex) : Ex := if x = 3 then .hd e else .tl e
def biE (x : Int) (a b : Ex) : Ex := if x = 2 then .cons a b else .same a b
theorem unE_enc {x : Int} (h : x = 3 ∨ x = 4) (e : Ex) : (unE x e).enc = ⟨x, 0⟩ :: e.enc ∧ (unE x e).len = 1 + e.len ∧ (e.low → (unE x e).low) := by
  rcases h with rfl | rfl <;> exact ⟨rfl, rfl, fun h => h⟩
theorem biE_enc {x : Int} (h : x = 2 ∨ x = 5) (a b : Ex) : (biE x a b).enc = ⟨x, 0⟩ :: (a.enc ++ b.enc) ∧ (biE x a b).len = 1 + a.len + b.len ∧ (a.low → b.low → (biE x a b).low) := by
  rcases h with rfl | rfl <;> exact ⟨rfl, rfl, fun h k => ⟨h, k⟩⟩
theorem seven_rd (w : World) : SI (w.alloc (.cells #[.int .i64 2, .int .i64 2, .int .i64 3, .int .i64 3, .int .i64 4, .int .i64 4, .int .i64 5] 2)) (some ⟨w.heap.size, 0, none⟩) 7 [2, 2, 3, 3, 4, 4, 5] :=
  (Own.lit w #[.int .i64 2, .int .i64 2, .int .i64 3, .int .i64 3, .int .i64 4, .int .i64 4, .int .i64 5] 2 7 1 w.heap.size rfl (by simp [maxLen]) (Nat.le_refl _)).rd
set_option maxRecDepth 100000 in
set_option maxHeartbeats 800000 in
theorem drawExpr_any (b : Nat) (A : Option Addr) (n c : Nat) (xs : List Int) (hn : n ≤ 9223372036854775807) (hA : ∀ k, blk A = some k → k ≠ b) : ∀ (m T : Nat) (w : World), 1 ≤ m → m ≤ 40 → SBy w A n xs → Src b A n c T w → b < w.heap.size → T + 100 * m ≤ 800000000 →
    Calls Try.prog 79 #[.pointer (some ⟨b, 0, none⟩), .int .i64 (m : Int)] w (DrewX b A n c (T + (8 * m - 4)) (2 * m - 1) w) := by
  intro m
  induction m using Nat.strongRecOn with
  | _ m ih =>
  intro T w hm1 hm40 hx hs hb hT
  have HX := Lib.hid hx
  have HA := Lib.hid hA
  have HS := Lib.hid hs
  have HI : Hid (∀ (k T : Nat) (w : World), k < m → 1 ≤ k → SBy w A n xs → Src b A n c T w → b < w.heap.size → T + 100 * k ≤ 800000000 → Calls Try.prog 79 #[.pointer (some ⟨b, 0, none⟩), .int .i64 (k : Int)] w (DrewX b A n c (T + (8 * k - 4)) (2 * k - 1) w)) := Lib.hid (fun k T w h1 h2 h3 h4 h5 h6 => ih k h1 T w h2 (by omega) h3 h4 h5 (by omega))
  clear hx hA hs ih
  by_cases h1 : m = 1
  · subst h1
    go_enter Try.func79, Try.ntmps79
    go_wp2_with fail
    refine (one_any b A n c T xs 3 _ HX.out HA.out HS.out (by omega) hn (by omega) (by omega)).mono ?_
    rintro e1 w1 ⟨y, rfl, hs1, hk1⟩
    have HS1 := Lib.hid hs1
    have HK1 := Lib.hid hk1
    have HX1 := Lib.hid (HX.out.kb hk1 HA.out)
    clear hs1 hk1
    cases y with
    | true =>
      go_wp2_with fail
      go_ret
      have z : Below w1.heap.size w1 (w1.alloc (.cells #[.int .i64 0, .int .i64 0] 118)) := (Below.refl _ _).alloc (Nat.le_refl _) _
      exact ⟨_, 1, .nil, rfl, Own.lit w1 #[.int .i64 0, .int .i64 0] _ 1 2 w.heap.size rfl (by simp [maxLen]) HK1.out.size, Nat.le_refl _, Lib.hid trivial, (HS1.out.below z).le (by omega), HK1.out.trans (Kb.of_below z)⟩
    | false =>
      go_wp2_with fail
      refine (pick_any b A n c (T + 2) xs 3 _ HX1.out HA.out HS1.out (by omega) hn (by omega) (by omega)).mono ?_
      rintro e2 w2 ⟨y, rfl, hy0, hy1, hs2, hk2⟩
      have HS2 := Lib.hid hs2
      have HK2 := Lib.hid (HK1.out.trans hk2)
      obtain ⟨v, rfl⟩ : ∃ v : Nat, y = (v : Int) := ⟨y.toNat, by omega⟩
      have HV : Hid (v < 4) := Lib.hid (by omega)
      clear hs2 hk2 hy0 hy1
      go_wp2_with (go_at_call 158; refine (l22Var_any _ _).mono ?_; rintro e3 w3 ⟨D, d, rfl, o3, z3⟩)
      go_ret
      exact ⟨D, d, .var v, rfl, o3.mono HK2.out.size, by show 1 ≤ _; omega, HV, (HS2.out.below z3).le (by omega), HK2.out.trans (Kb.of_below z3)⟩
  have i1 : ¬ ((m : Int) ≤ 1) := by omega
  obtain ⟨W1, hW_⟩ : ∃ W_, W_ = w.alloc (.cells #[.int .i64 2, .int .i64 2, .int .i64 3, .int .i64 3, .int .i64 4, .int .i64 4, .int .i64 5] 2) := ⟨_, rfl⟩
  have b1 : Blk W1 w.heap.size 2 #[.int .i64 2, .int .i64 2, .int .i64 3, .int .i64 3, .int .i64 4, .int .i64 4, .int .i64 5] := by rw [hW_]; exact Blk.new w _ _
  have z1 : Below w.heap.size w W1 := by rw [hW_]; exact (Below.refl _ _).alloc (Nat.le_refl _) _
  have HW1 := Lib.hid hW_
  clear hW_
  have HL : Hid (SI W1 (some ⟨w.heap.size, 0, none⟩) 7 [2, 2, 3, 3, 4, 4, 5]) := Lib.hid (by rw [HW1.out]; exact seven_rd w)
  have HAM := Lib.hid (among_any b A n c T xs (some ⟨w.heap.size, 0, none⟩) 7 7 _ W1 (HX.out.below z1) HA.out (HS.out.below z1) (by omega) hn HL.out (fun k hk => by simp [blk] at hk; omega) (by omega) (by omega))
  have HK0 : Hid (Kb b w W1) := Lib.hid (Kb.of_below z1)
  have HX1 := Lib.hid (HX.out.below z1)
  clear z1 b1 HL
  go_enter Try.func79, Try.ntmps79
  go_upto_region 6 with (rw [← HW1.out]; refine HAM.out.mono ?_; rintro e1 w1 ⟨x, rfl, hxm, hs1, hk1⟩)
  have HX2 := Lib.hid (HX1.out.kb hk1 HA.out)
  have HS2 := Lib.hid hs1
  have HK2 := Lib.hid (HK0.out.trans hk1)
  clear hs1 hk1 HAM HX1 HK0 HW1
  have hxc : (x = 3 ∨ x = 4) ∨ (x = 2 ∨ x = 5) := by simp at hxm; omega
  obtain ⟨W2, hW_⟩ : ∃ W_, W_ = w1.alloc (.cells #[.int .i64 x, .int .i64 0] 118) := ⟨_, rfl⟩
  have b2 : Blk W2 w1.heap.size 118 #[.int .i64 x, .int .i64 0] := by rw [hW_]; exact Blk.new w1 _ _
  have z2 : Below w1.heap.size w1 W2 := by rw [hW_]; exact (Below.refl _ _).alloc (Nat.le_refl _) _
  have HW2 := Lib.hid hW_
  clear hW_
  have HO2 : Hid (Own W2 w.heap.size 118 2 (some ⟨w1.heap.size, 0, none⟩) 1 1 (cells2 [⟨x, 0⟩])) := Lib.hid (by rw [HW2.out]; exact Own.lit w1 #[.int .i64 x, .int .i64 0] _ 1 2 w.heap.size rfl (by simp [maxLen]) HK2.out.size)
  have HX3 := Lib.hid (HX2.out.below z2)
  have HS3 := Lib.hid (HS2.out.below z2)
  have HK3 := Lib.hid (HK2.out.trans (Kb.of_below z2))
  have hb3 : b < W2.heap.size := Nat.lt_of_lt_of_le hb HK3.out.size
  clear z2 b2 HX2 HS2 HK2 hxm
  go_upto_region 7 with fail
  rw [← HW2.out]
  clear HW2
  rcases hxc with hun | hbi
  · have hfe : fE ⟨x, 0⟩ = 1 := by rcases hun with rfl | rfl <;> rfl
    have HMA : Hid (Calls Try.prog 160 #[.int .i64 x] W2 fun e w' => e = .returned (.int .i64 1) ∧ W2 = w') := Lib.hid (by have h := l22Many_any x 0 W2; rw [hfe] at h; exact h)
    have HUN := Lib.hid hun
    have i2 : IntKind.i64.wrap ((m : Int) - 1) = ((m - 1 : Nat) : Int) := by rw [IntWalk.i64_in _ (by omega)]; omega
    clear hun hfe
    go_wp2_with (go_at_call 160; refine HMA.out.mono ?_; rintro e w' ⟨rfl, rfl⟩)
    refine (HI.out (m - 1) (T + 2) W2 (by omega) (by omega) HX3.out HS3.out hb3 (by omega)).mono ?_
    rintro e4 w4 ⟨D, d, ex, rfl, o4, hex, HLO, hs4, hk4⟩
    have HO4 := Lib.hid (hk4.own' HO2.out hb)
    have HS4 := Lib.hid hs4
    have HK4 := Lib.hid (HK3.out.trans hk4)
    have HR4 := Lib.hid o4.rd
    have hsz := HK4.out.size
    clear o4 hs4 hk4
    go_wp2_with (at_builtin; refine wpList_append_Own rfl (.tmp 26) (.tmp 30) rfl elEx (lo := w.heap.size) rfl HO4.out rfl HR4.out (cells2_one _) (by omega) (by simp only [maxLen]; omega) hsz ?_; intro A5 c5 w5 o5 hg5 _; have HO5 := Lib.hid o5; have HG5 := Lib.hid hg5)
    go_ret
    obtain ⟨u1, u2, u3⟩ := unE_enc HUN.out ex
    have hk5 : Kb b w w5 := HK4.out.grown HO4.out (Nat.le_refl _) HG5.out
    refine ⟨A5, c5, unE x ex, by rw [u2]; rfl, ?_, by omega, Lib.hid (u3 HLO.out), (HS4.out.more HO4.out hb HG5.out).le (by omega), hk5⟩
    have h := HO5.out
    rw [cells2_append] at h
    rw [u2, u1]; exact h
  · have hfe : fE ⟨x, 0⟩ = 2 := by rcases hbi with rfl | rfl <;> rfl
    have HMA : Hid (Calls Try.prog 160 #[.int .i64 x] W2 fun e w' => e = .returned (.int .i64 2) ∧ W2 = w') := Lib.hid (by have h := l22Many_any x 0 W2; rw [hfe] at h; exact h)
    have HBI := Lib.hid hbi
    have i2 : IntKind.i64.wrap ((m : Int) - 1) = ((m - 1 : Nat) : Int) := by rw [IntWalk.i64_in _ (by omega)]; omega
    obtain ⟨m1, hm1⟩ : ∃ m1, m1 = m - 1 := ⟨_, rfl⟩
    rw [← hm1] at i2
    have HM1 := Lib.hid hm1
    have hm1b : m1 ≤ 40 := by omega
    clear hbi hfe hm1
    go_upto_region 9 with (go_at_call 160; refine HMA.out.mono ?_; rintro e w' ⟨rfl, rfl⟩)
    go_wp2_with fail
    refine (pick_any b A n c (T + 2) xs (m1 : Int) _ HX3.out HA.out HS3.out (by omega) hn (by omega) (by omega)).mono ?_
    rintro e4 w4 ⟨y, rfl, hy0, hy1, hs4, hk4⟩
    obtain ⟨l, hl⟩ : ∃ l : Nat, (l : Int) = 1 + y := ⟨(1 + y).toNat, by omega⟩
    have hlm : l < m := by have := HM1.out; omega
    have hl1 : 1 ≤ l := by omega
    have i3 : IntKind.i64.wrap (1 + y) = (l : Int) := by rw [IntWalk.i64_in _ (by omega)]; omega
    have HX4 := Lib.hid (HX3.out.kb hk4 HA.out)
    have HO4 := Lib.hid (hk4.own' HO2.out hb)
    have HS4 := Lib.hid hs4
    have HK4 := Lib.hid (HK3.out.trans hk4)
    have hb4 : b < w4.heap.size := Nat.lt_of_lt_of_le hb HK4.out.size
    clear hs4 hk4 hl hy0 hy1 HX3 HS3 HK3 HO2
    go_upto_region 10 with fail
    go_wp2_with fail
    refine (HI.out l (T + 2 + 2) w4 hlm hl1 HX4.out HS4.out hb4 (by omega)).mono ?_
    rintro e5 w5 ⟨D, d, ex, rfl, o5, hex, HLO, hs5, hk5⟩
    have HX5 := Lib.hid (HX4.out.kb hk5 HA.out)
    have HO5 := Lib.hid (hk5.own' HO4.out hb)
    have HS5 := Lib.hid hs5
    have HK5 := Lib.hid (HK4.out.trans hk5)
    have HR5 := Lib.hid o5.rd
    have hsz := HK5.out.size
    clear o5 hs5 hk5 HX4 HS4 HK4 HO4
    go_upto_region 11 with (at_builtin; refine wpList_append_Own rfl (.tmp 37) (.tmp 40) rfl elEx (lo := w.heap.size) rfl HO5.out rfl HR5.out (cells2_one _) (by omega) (by simp only [maxLen]; omega) hsz ?_; intro A6 c6 w6 o6 hg6 _)
    have HX6 := Lib.hid (HX.out.kb (HK5.out.grown HO5.out (Nat.le_refl _) hg6) HA.out)
    have HS6 := Lib.hid (HS5.out.more HO5.out hb hg6)
    have HK6 : Hid (Kb b w w6) := Lib.hid (HK5.out.grown HO5.out (Nat.le_refl _) hg6)
    have HO6 := Lib.hid o6
    have hb6 : b < w6.heap.size := Nat.lt_of_lt_of_le hb HK6.out.size
    have i4 : IntKind.i64.wrap ((m : Int) - (l : Int)) = ((m - l : Nat) : Int) := by rw [IntWalk.i64_in _ (by omega)]; omega
    clear o6 hg6 HX5 HS5 HK5 HO5
    go_wp2_with fail
    refine (HI.out (m - l) (T + 2 + 2 + (8 * l - 4)) w6 (by omega) (by omega) HX6.out HS6.out hb6 (by omega)).mono ?_
    rintro e7 w7 ⟨D2, d2, ex2, rfl, o7, hex2, HLO2, hs7, hk7⟩
    have HO7 := Lib.hid (hk7.own' HO6.out hb)
    have HS7 := Lib.hid hs7
    have HK7 := Lib.hid (HK6.out.trans hk7)
    have HR7 := Lib.hid o7.rd
    have hsz7 := HK7.out.size
    clear o7 hs7 hk7 HX6 HS6 HK6 HO6
    go_wp2_with (at_builtin; refine wpList_append_Own rfl (.tmp 42) (.tmp 47) rfl elEx (lo := w.heap.size) rfl HO7.out rfl HR7.out (cells2_one _) (by omega) (by simp only [maxLen]; omega) hsz7 ?_; intro A8 c8 w8 o8 hg8 _; have HO8 := Lib.hid o8; have HG8 := Lib.hid hg8)
    go_ret
    obtain ⟨u1, u2, u3⟩ := biE_enc HBI.out ex ex2
    have hk8 : Kb b w w8 := HK7.out.grown HO7.out (Nat.le_refl _) HG8.out
    refine ⟨A8, c8, biE x ex ex2, by rw [u2]; rfl, ?_, by omega, Lib.hid (u3 HLO.out HLO2.out), (HS7.out.more HO7.out hb HG8.out).le (by omega), hk8⟩
    have h := HO8.out
    rw [cells2_append, cells2_append] at h
    rw [u2, u1]; simpa using h
/-- An expression was drawn from the bytes. -/
def DrewE (w : World) (e : Ending) (w' : World) : Prop :=
  ∃ D d ex, e = .returned (.slice D (Ex.len ex) d) ∧ Own w' w.heap.size 118 2 D ex.len d (cells2 ex.enc) ∧ ex.len ≤ 9 ∧ Hid ex.low ∧ Below w.heap.size w w'
set_option maxHeartbeats 1000000 in
theorem b10Expr_any (A : Option Addr) (n c : Nat) (xs : List Int) (w : World) (hx : SBy w A n xs) (hA : ∀ k, blk A = some k → k < w.heap.size) (hn : n ≤ 9223372036854775807) : Calls Try.prog 21 #[.slice A n c] w (DrewE w) := by
  have HX := Lib.hid hx
  obtain ⟨g, hg⟩ : ∃ g, w.heap.size = g := ⟨_, rfl⟩
  have HA : Hid (∀ k, blk A = some k → k ≠ g) := Lib.hid (fun k hk => by have := hA k hk; omega)
  have HF := Lib.hid (from_any A n c w)
  have HG := Lib.hid hg
  rw [hg] at HF
  clear hx hA hg
  go_enter Try.func21, Try.ntmps21
  go_wp2_with fail
  refine HF.out.mono ?_
  rintro e w0 ⟨rfl, hs0, z0⟩
  have hgl : g < w0.heap.size := by obtain ⟨_, _, _, _, _, h⟩ := hs0; exact h.lt
  have HZ0 : Hid (Below g w w0) := Lib.hid z0
  have HX0 := Lib.hid (HX.out.below (by rw [HG.out]; exact z0))
  have HS0 := Lib.hid hs0
  clear hs0 z0 HF
  go_wp2_with fail
  refine (pick_any g A n c 0 xs 5 _ HX0.out HA.out HS0.out (by omega) hn (by omega) (by omega)).mono ?_
  rintro e2 w2 ⟨y, rfl, hy0, hy1, hs2, hk2⟩
  obtain ⟨m, hm⟩ : ∃ m : Nat, (m : Int) = 1 + y := ⟨(1 + y).toNat, by omega⟩
  have i1 : IntKind.i64.wrap (1 + y) = (m : Int) := by rw [IntWalk.i64_in _ (by omega)]; omega
  have hm1 : 1 ≤ m := by omega
  have hm5 : m ≤ 5 := by omega
  have HX2 := Lib.hid (HX0.out.kb hk2 HA.out)
  have HS2 := Lib.hid hs2
  have HK2 := Lib.hid hk2
  have hg2 : g < w2.heap.size := Nat.lt_of_lt_of_le hgl hk2.size
  clear hm hy0 hy1 hs2 hk2
  go_wp2_with (go_at_call 79; refine (drawExpr_any g A n c xs hn HA.out m _ _ hm1 (by omega) HX2.out HS2.out hg2 (by omega)).mono ?_; rintro e3 w3 ⟨D, d, ex, rfl, o3, h3, HLO, hs3, hk3⟩)
  go_ret
  have hk := HK2.out.trans hk3
  have hw := HK2.out.size
  have hz := HZ0.out.size
  exact ⟨D, d, ex, rfl, o3.mono (by omega), by omega, HLO, by have h := hk.below (w := w) (by rw [HG.out]; exact HZ0.out) (by rw [HG.out]; exact Nat.le_refl _); exact h⟩
end Go.Proofs.Ytfheepjfpgiaoaa
