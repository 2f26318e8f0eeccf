/-
  Slices of rows that grow.
-/
import Derived.Test.YtbpofkggoolmpaaPkMeasures0
import Derived.Test.YtbpofkggoolmpaaPkMeasures2
import Derived.Test.YtbpofkggoolmpaaPkMeasures3
import Derived.Test.YtbpofkggoolmpaaPkMeasures4
import Derived.Test.YtbpofkggoolmpaaPkMeasures5
import Derived.Test.YtbpofkggoolmpaaPkMeasures8
import Derived.Test.YtbpofkggoolmpaaPkMeasures10
import Derived.Deep.DeepCutAuto
namespace Go.Proofs.Ytbpofkggoolmpaa
open Go.RowKit

theorem OII.snoc {wa w w2 : World} {lo n c c2 k : Nat} {e2 e1 : TypeId} {A A2 : Option Addr} {ts : List Sl} {u : Sl} (h : OII wa lo e2 e1 A n c ts) (hw : OII w lo e2 e1 A n c ts) (hs : Own w2 lo e2 1 A2 (n + 1) c2 (ts.map Sl.val ++ [u.val])) (hg : w.grownBy w2 (blk A))
    (hu : Own w k e1 1 u.A u.xs.length u.c (ints u.xs)) (hk : wa.heap.size ≤ k) (hlk : lo ≤ k) (hne : e1 ≠ e2) : OII w2 lo e2 e1 A2 (n + 1) c2 (ts ++ [u]) := by
  have far : ∀ {B : Option Addr} {m d lo' : Nat} {xs : List Value}, Own w lo' e1 1 B m d xs → Own w2 lo' e1 1 B m d xs := fun ho => ho.grown hg (fun g hgA hb => Own.blk_ne hw.1 ho (fun he => hne he.symm) g hgA hb)
  refine ⟨by simpa using hs, fun t ht => ?_, Apt.snoc h.2.2 (fun t ht b hb hb' => ?_)⟩
  · rcases List.mem_append.1 ht with h1 | h1
    · exact far (hw.2.1 t h1)
    · rw [List.mem_singleton.1 h1]; exact (far hu).mono hlk
  · have h1 := (h.2.1 t ht).blk_lt b hb
    have h2 := hu.blk_ge b hb'
    omega
theorem OII.len {w : World} {lo n c : Nat} {e2 e1 : TypeId} {A : Option Addr} {ts : List Sl} (h : OII w lo e2 e1 A n c ts) : ts.length = n := by have := h.1.1; simp at this; omega
/-- The blocks of a slice of rows. -/
def OIIB (A : Option Addr) (ts : List Sl) (b : Nat) : Prop := blk A = some b ∨ ∃ t ∈ ts, blk t.A = some b
theorem OII.keptB {w w' : World} {lo n c : Nat} {e2 e1 : TypeId} {A : Option Addr} {ts : List Sl} (h : OII w lo e2 e1 A n c ts) (hk : ∀ b, OIIB A ts b → w'.heap[b]? = w.heap[b]?) : OII w' lo e2 e1 A n c ts :=
  ⟨h.1.kept (fun b hb _ _ => hk b (.inl hb)), fun t ht => (h.2.1 t ht).kept (fun b hb _ _ => hk b (.inr ⟨t, ht, hb⟩)), h.2.2⟩
theorem OII.blkB {w : World} {lo n c : Nat} {e2 e1 : TypeId} {A : Option Addr} {ts : List Sl} (h : OII w lo e2 e1 A n c ts) : ∀ b, OIIB A ts b → lo ≤ b ∧ b < w.heap.size := by
  rintro b (hb | ⟨t, ht, hb⟩)
  · exact ⟨h.1.blk_ge b hb, h.1.blk_lt b hb⟩
  · exact ⟨(h.2.1 t ht).blk_ge b hb, (h.2.1 t ht).blk_lt b hb⟩
theorem Blk.aptt {w : World} {g : Nat} {t e : TypeId} {cur : Array Value} {lo n c s : Nat} {A : Option Addr} {cs : List Value} (h : Blk w g t cur) (h' : Own w lo e s A n c cs) (hne : t ≠ e) : blk A ≠ some g := by
  intro hb
  rcases h'.2 with ⟨rfl, _⟩ | ⟨b, off, cur2, rfl, _, hg, _⟩
  · simp [blk] at hb
  · simp [blk] at hb; subst hb
    unfold Blk at h
    rw [hg] at h
    simp at h
    exact hne h.2.symm
theorem Blk.growt {w w2 : World} {g : Nat} {t e : TypeId} {cur : Array Value} {lo n c s : Nat} {A : Option Addr} {cs : List Value} (h : Blk w g t cur) (h' : Own w lo e s A n c cs) (hg : w.grownBy w2 (blk A)) (hne : t ≠ e) : Blk w2 g t cur :=
  (hg.block g h.lt (fun e => h.aptt h' hne e.symm)).trans h
theorem OII.set_box {w : World} {lo n c g i : Nat} {t e2 e1 : TypeId} {cur : Array Value} {A : Option Addr} {ts : List Sl} (h : OII w lo e2 e1 A n c ts) (hb : Blk w g t cur) (h1 : t ≠ e2) (h2 : t ≠ e1) (u : Value) : OII (w.setCell ⟨g, i, none⟩ u) lo e2 e1 A n c ts :=
  ⟨h.1.far (p := ⟨g, i, none⟩) (hb.aptt h.1 h1) u, fun x hx => (h.2.1 x hx).far (p := ⟨g, i, none⟩) (hb.aptt (h.2.1 x hx) h2) u, h.2.2⟩
theorem OII.nil {w : World} {lo c : Nat} {e2 e1 : TypeId} {A : Option Addr} (h : Own w lo e2 1 A 0 c []) : OII w lo e2 e1 A 0 c [] := ⟨h, by simp, List.Pairwise.nil⟩
theorem OII.one {w : World} {lo c : Nat} {e2 e1 : TypeId} {A : Option Addr} {u : Sl} (h : Own w lo e2 1 A 1 c [u.val]) (hu : Own w lo e1 1 u.A u.xs.length u.c (ints u.xs)) : OII w lo e2 e1 A 1 c [u] := ⟨by simpa using h, by simpa using hu, List.pairwise_singleton _ _⟩
end Go.Proofs.Ytbpofkggoolmpaa

/-
  The reference's l05DrawSize: a machine of some size.
-/
namespace Go.Proofs.Ytbpofkggoolmpaa
open Go.RowKit

theorem rd_rule3 (w : World) (r : R3) : Rd (w.alloc (.cells #[.int .i64 r.a, .int .i64 r.b, .int .i64 r.c] 229)) 3 (some ⟨w.heap.size, 0, none⟩) 1 [.int .i64 r.a, .int .i64 r.b, .int .i64 r.c] := by
  refine ⟨rfl, fun h => ⟨w.heap.size, 0, rfl, fun k hk => ?_⟩⟩
  have hb := Blk.new w 229 #[.int .i64 r.a, .int .i64 r.b, .int .i64 r.c]
  have hk3 : k < 3 := hk
  rcases k with _ | _ | _ | k
  · exact hb.cell 0
  · exact hb.cell 1
  · exact hb.cell 2
  · omega
theorem cells3_more (xs : List R3) (r : R3) : cells3 xs ++ [.int .i64 r.a, .int .i64 r.b, .int .i64 r.c] = cells3 (xs ++ [r]) := by simp [cells3, R3.cells]
theorem Kb.set_up {b : Nat} {a W : World} (h : Kb b a W) {p : Addr} (hp : a.heap.size ≤ p.block) (u : Value) : Kb b a (W.setCell p u) :=
  ⟨h.os, h.tape, h.output, by simpa [World.setCell] using h.size, fun k hk hy => (Below.heap_setCell W p u k (by omega)).trans (h.block k hk hy)⟩
theorem Src.keepB {b : Nat} {A : Option Addr} {n c T : Nat} {W W' : World} (h : Src b A n c T W) (k : W'.heap[b]? = W.heap[b]?) : Src b A n c T W' := by
  obtain ⟨a, s, h1, h2, h3, h4⟩ := h
  exact ⟨a, s, h1, h2, h3, k.trans h4⟩
theorem Src.lt {b : Nat} {A : Option Addr} {n c T : Nat} {W : World} (h : Src b A n c T W) : b < W.heap.size := by
  obtain ⟨a, s, h1, h2, h3, h4⟩ := h
  exact h4.lt
theorem Src.grown' {b lo s n0 c0 : Nat} {e : TypeId} {E : Option Addr} {xs : List Value} {A : Option Addr} {n c T : Nat} {W W' : World} (h : Src b A n c T W) (ho : Own W lo e s E n0 c0 xs) (hb : b < lo) (hg : W.grownBy W' (blk E)) : Src b A n c T W' :=
  h.keepB (hg.block b h.lt (fun e => by have := ho.blk_ge b e.symm; omega))
/-- A machine of some size was drawn. -/
def DrewM (b : Nat) (A : Option Addr) (n c T : Nat) (sy st : Int) (w : World) (e : Ending) (w' : World) : Prop :=
  ∃ R rc rs, e = .returned (.agg #[.int .i64 sy, .int .i64 st, .slice R rs.length rc]) ∧ Own w' w.heap.size 229 3 R rs.length rc (cells3 rs) ∧ machB sy st rs = true ∧ Src b A n c T w' ∧ Kb b w w'
theorem drawn_valid {sy st a d c : Int} (ha0 : 0 ≤ a) (ha1 : a < sy) (hd : d = 0 ∨ d = 1) (hc0 : 0 ≤ c) (hc1 : c < st) : validRuleB sy st ⟨a, 2 * d - 1, c⟩ = true := by
  unfold validRuleB
  have h1 : inB a 0 (sy - 1) = true := (inB_iff _ _ _).2 (by omega)
  have h2 : inB c 0 (st - 1) = true := (inB_iff _ _ _).2 (by omega)
  rw [h1, h2]
  rcases hd with rfl | rfl <;> simp
theorem none_valid (sy st : Int) : validRuleB sy st ⟨0, 0, -1⟩ = true := by
  unfold validRuleB isRuleB; simp
set_option maxRecDepth 100000 in
set_option maxHeartbeats 8000000 in
theorem drawSize_any (b : Nat) (A : Option Addr) (n c T : Nat) (xs : List Int) (sy st : Int) (w : World) (hx : SB w A n xs) (hA : ∀ k, blk A = some k → k ≠ b) (hs : Src b A n c T w) (hb : b < w.heap.size) (hT : T ≤ 1000000) (hn : n ≤ 9223372036854775807) (h1 : 2 ≤ sy) (h2 : sy ≤ 6) (h3 : 1 ≤ st) (h4 : st ≤ 50) :
    Calls Try.prog 106 #[.pointer (some ⟨b, 0, none⟩), .int .i64 sy, .int .i64 st] w (DrewM b A n c (T + 3000) sy st w) := by
  have HX := Lib.hid hx
  have HA := Lib.hid hA
  have HSY := Lib.hid (⟨h1, h2, h3, h4⟩ : 2 ≤ sy ∧ sy ≤ 6 ∧ 1 ≤ st ∧ st ≤ 50)
  obtain ⟨N, hN⟩ : ∃ N : Nat, sy * st = (N : Int) := ⟨(sy * st).toNat, by have := Int.mul_nonneg (show 0 ≤ sy by omega) (show 0 ≤ st by omega); omega⟩
  have hN2 : N ≤ 300 := by have := Int.mul_le_mul h2 h4 (by omega) (by omega); omega
  have HN := Lib.hid hN
  have iN : IntKind.i64.wrap (sy * st) = (N : Int) := by rw [hN]; exact IntWalk.i64_in _ (by omega)
  obtain ⟨V, hW_⟩ : ∃ W, W = (w.alloc (.cells #[.int .i64 0, .int .i64 0, .slice none 0 0] 36)).alloc (.cells #[.int .i64 sy, .int .i64 st, .slice none 0 0] 36) := ⟨_, rfl⟩
  have s_1 : (w.alloc (.cells #[.int .i64 0, .int .i64 0, .slice none 0 0] 36)).heap.size = w.heap.size + 1 := by simp
  have c0 : Blk V w.heap.size 36 #[.int .i64 0, .int .i64 0, .slice none 0 0] := by rw [hW_]; exact (Blk.new w _ _).alloc _
  have c1 : Blk V (w.heap.size + 1) 36 #[.int .i64 sy, .int .i64 st, .slice none 0 0] := by rw [hW_, ← s_1]; exact Blk.new _ _ _
  have y0 : Below w.heap.size w V := by rw [hW_]; exact ((Below.refl _ _).alloc (Nat.le_refl _) _).alloc (by simp) _
  have HV := Lib.hid hW_
  clear hW_ s_1
  have HS0 := Lib.hid (hs.below y0)
  have HK0 : Hid (Kb b w V) := Lib.hid (Kb.of_below y0)
  have HC0 := Lib.hid c0
  clear hx hA hs hN y0 c0
  go_enter Try.func106, Try.ntmps106
  go_upto_region 2 with fail
  rw [← HV.out]
  go_wp2_with fail
  go_loopw [8] (fun i wr => ∃ (j : Nat) (R : Option Addr) (rc : Nat) (rs : List R3), j ≤ N ∧ i = .int .i64 (j : Int) ∧ Hid (rs.length + j = N) ∧ Hid (Blk wr (w.heap.size + 1) 36 #[.int .i64 sy, .int .i64 st, .slice R rs.length rc]) ∧ Hid (Own wr w.heap.size 229 3 R rs.length rc (cells3 rs)) ∧ Hid (∀ r ∈ rs, validRuleB sy st r = true) ∧ Hid (Src b A n c (T + 8 * rs.length) wr) ∧ Hid (Kb b w wr) ∧ Hid (Blk wr w.heap.size 36 #[.int .i64 0, .int .i64 0, .slice none 0 0])) (fun i _ => (intOf i).toNat)
  case atStart => exact ⟨N, none, 0, [], Nat.le_refl _, rfl, Lib.hid (by simp), Lib.hid c1, Lib.hid Own.nil, Lib.hid (by simp), HS0, HK0, HC0⟩
  case round =>
    obtain ⟨j, R, rc, rs, hj, rfl, HL, HB, HO, HV, HS, HK, HC⟩ := hrel
    rename World => W0
    clear c1 HS0 HK0 HC0 iN
    have hrl : rs.length ≤ 300 := by have := HL.out; omega
    by_cases hj0 : 0 < j
    · have HX0 := Lib.hid (HX.out.kb HK.out HA.out)
      go_wp2_with fail
      refine (pick_any b A n c (T + 8 * rs.length) xs sy _ HX0.out HA.out HS.out (by omega) hn (by omega) (by omega)).mono ?_
      rintro e1 w1 ⟨x1, rfl, hx10, hx11, hs1, hk1⟩
      have HX1 := Lib.hid (HX0.out.kb hk1 HA.out)
      go_wp2_with fail
      refine (pick_any b A n c (T + 8 * rs.length + 2) xs 2 _ HX1.out HA.out hs1 (by omega) hn (by omega) (by omega)).mono ?_
      rintro e2 w2 ⟨x2, rfl, hx20, hx21, hs2, hk2⟩
      have HX2 := Lib.hid (HX1.out.kb hk2 HA.out)
      go_wp2_with fail
      refine (pick_any b A n c (T + 8 * rs.length + 2 + 2) xs st _ HX2.out HA.out hs2 (by omega) hn (by omega) (by omega)).mono ?_
      rintro e3 w3 ⟨x3, rfl, hx30, hx31, hs3, hk3⟩
      have HX3 := Lib.hid (HX2.out.kb hk3 HA.out)
      have hk03 := (hk1.trans hk2).trans hk3
      have HK03 := Lib.hid hk03
      have HVR : Hid (validRuleB sy st ⟨x1, 2 * x2 - 1, x3⟩ = true) := Lib.hid (drawn_valid hx10 (by omega) (by omega) hx30 (by omega))
      have HS3 := Lib.hid hs3
      have HMW : Hid (w.heap.size + 1 < W0.heap.size) := Lib.hid HB.out.lt
      have HSZ : Hid (W0.heap.size ≤ w3.heap.size) := Lib.hid HK03.out.size
      have HR3 : Hid (∀ x, blk R = some x → x < w3.heap.size) := Lib.hid (fun x hx => Nat.lt_of_lt_of_le (HO.out.blk_lt x hx) HK03.out.size)
      obtain ⟨W4, hW_⟩ : ∃ W_, W_ = w3.alloc (.cells #[.int .i64 x1, .int .i64 (2 * x2 - 1), .int .i64 x3] 229) := ⟨_, rfl⟩
      have b4 : Blk W4 w3.heap.size 229 #[.int .i64 x1, .int .i64 (2 * x2 - 1), .int .i64 x3] := by rw [hW_]; exact Blk.new w3 _ _
      have z4 : Below w3.heap.size w3 W4 := by rw [hW_]; exact (Below.refl _ _).alloc (Nat.le_refl _) _
      have HW4 := Lib.hid hW_
      clear hW_
      have HX4 := Lib.hid (HX3.out.below z4)
      have HS4 := Lib.hid (HS3.out.below z4)
      have HK04 := Lib.hid (HK03.out.trans (Kb.of_below z4))
      have HB4 := Lib.hid b4
      clear hs1 hs2 hs3 hk1 hk2 hk3 hk03 HX0 HX1 HX2 HX3 HS3 HK03 z4 b4
      go_upto_region 6 with fail
      rw [← HW4.out]
      go_wp2_with fail
      refine (one_any b A n c (T + 8 * rs.length + 2 + 2 + 2) xs 7 _ HX4.out HA.out HS4.out (by omega) hn (by omega) (by omega)).mono ?_
      rintro e6 w6 ⟨y, rfl, hs6, hk6⟩
      have HBR : Hid (b < w3.heap.size) := Lib.hid (by have := HSZ.out; have := HMW.out; omega)
      have HB6 := Lib.hid (hk6.blk_ HB4.out (by have := HBR.out; omega))
      have HK6 := Lib.hid (HK04.out.trans hk6)
      have HS6 := Lib.hid hs6
      clear hs6 hk6 HB4 HK04 HS4 HX4 HW4 hx10 hx11 hx20 hx21 hx30 hx31
      cases y
      rotate_left
      go_upto_region 8 with (go_at_call 193; refine (l05None_any _).mono ?_; rintro e w7 ⟨rfl, z7⟩; have hb7 := HB6.out.below' z7; have k0 : w7.cell? ⟨w3.heap.size, 0, none⟩ = some (.int .i64 x1) := hb7.cell 0; have k1 : w7.cell? ⟨w3.heap.size, 1, none⟩ = some (.int .i64 (2 * x2 - 1)) := hb7.cell 1; have k2 : w7.cell? ⟨w3.heap.size, 2, none⟩ = some (.int .i64 x3) := hb7.cell 2; have f0 := hb7.frozen 0; have f1 := hb7.frozen 1; have f2 := hb7.frozen 2)
      obtain ⟨V, hV⟩ : ∃ V, V = ((w7.setCell ⟨w3.heap.size, 0, none⟩ (.int .i64 0)).setCell ⟨w3.heap.size, 1, none⟩ (.int .i64 0)).setCell ⟨w3.heap.size, 2, none⟩ (.int .i64 (-1)) := ⟨_, rfl⟩
      rw [← hV]
      obtain ⟨r, hVr, hVB, hVS, hVK⟩ : ∃ r : R3, validRuleB sy st r = true ∧ Blk V w3.heap.size 229 #[.int .i64 r.a, .int .i64 r.b, .int .i64 r.c] ∧ Src b A n c (T + 8 * rs.length + 8) V ∧ Kb b W0 V := by
        have k : Kb w3.heap.size w7 V := by rw [hV]; exact (((Kb.refl _ _).set_ 0 _).set_ 1 _).set_ 2 _
        refine ⟨⟨0, 0, -1⟩, none_valid sy st, by rw [hV]; exact ((hb7.set_ 0 _).set_ 1 _).set_ 2 _, (HS6.out.below z7).keepB (k.block b (HS6.out.below z7).lt (by have := HBR.out; omega)), ?_⟩
        have h7 := HK6.out.trans (Kb.of_below (b := b) z7)
        have h3 := HSZ.out
        rw [hV]
        exact ((h7.set_up (p := ⟨w3.heap.size, 0, none⟩) h3 _).set_up (p := ⟨w3.heap.size, 1, none⟩) h3 _).set_up (p := ⟨w3.heap.size, 2, none⟩) h3 _
      clear hV hb7 k0 k1 k2 f0 f1 f2 z7 HB6 HK6 HS6
      rotate_left
      go_upto_region 8 with fail
      obtain ⟨V, hV⟩ : ∃ V, V = w6 := ⟨_, rfl⟩
      rw [← hV] at HB6 HK6 HS6 ⊢
      obtain ⟨r, hVr, hVB, hVS, hVK⟩ : ∃ r : R3, validRuleB sy st r = true ∧ Blk V w3.heap.size 229 #[.int .i64 r.a, .int .i64 r.b, .int .i64 r.c] ∧ Src b A n c (T + 8 * rs.length + 8) V ∧ Kb b W0 V :=
        ⟨⟨x1, 2 * x2 - 1, x3⟩, HVR.out, HB6.out, HS6.out, HK6.out⟩
      clear hV HB6 HK6 HS6
      all_goals
        have hBV := hVK.blk_ HB.out (by omega)
        have hOV := hVK.own' HO.out hb
        have hCV := hVK.blk_ HC.out (by omega)
        have HKV := Lib.hid (HK.out.trans hVK)
        have HCV := Lib.hid hCV
        have HSV := Lib.hid hVS
        have HVr := Lib.hid hVr
        have HBV := Lib.hid hBV
        have u0 : V.cell? ⟨(w.heap.size + 1), 0, none⟩ = some (.int .i64 sy) := hBV.cell 0
        have u1 : V.cell? ⟨(w.heap.size + 1), 1, none⟩ = some (.int .i64 st) := hBV.cell 1
        have u2 : V.cell? ⟨(w.heap.size + 1), 2, none⟩ = some (.slice R rs.length rc) := hBV.cell 2
        have v0 : V.cell? ⟨w3.heap.size, 0, none⟩ = some (.int .i64 r.a) := hVB.cell 0
        have v1 : V.cell? ⟨w3.heap.size, 1, none⟩ = some (.int .i64 r.b) := hVB.cell 1
        have v2 : V.cell? ⟨w3.heap.size, 2, none⟩ = some (.int .i64 r.c) := hVB.cell 2
        have hVW : w.heap.size ≤ V.heap.size := by have := hBV.lt; omega
        clear hVK hVS hVr hCV hBV hVB
        go_wp2_with (at_builtin; refine wpList_append_Own rfl (.tmp 35) (.tmp 37) rfl elR (lo := w.heap.size) rfl (hOV.alloc _) rfl (rd_rule3 V r) (by simp [Value.oneCell']) (by omega) (by simp only [maxLen]; omega) (by simp; omega) ?_; intro A5 c5 W5 o5 hg5 hw5; have hB5 : Blk W5 (w.heap.size + 1) 36 #[.int .i64 sy, .int .i64 st, .slice R rs.length rc] := Blk.growt (HBV.out.alloc _) (hOV.alloc _) hg5 (by decide); have m2 : W5.cell? ⟨w.heap.size + 1, 2, none⟩ = some (.slice R rs.length rc) := hB5.cell 2; have f2 := hB5.frozen 2)
        obtain ⟨W6, hW6⟩ : ∃ W6, W6 = W5.setCell ⟨w.heap.size + 1, 2, none⟩ (.slice A5 (rs.length + 1) c5) := ⟨_, rfl⟩
        rw [← hW6]
        have k6 : Kb (w.heap.size + 1) W5 W6 := by rw [hW6]; exact (Kb.refl _ _).set_ 2 _
        have hB6 : Blk W6 (w.heap.size + 1) 36 #[.int .i64 sy, .int .i64 st, .slice A5 (rs.length + 1) c5] := by rw [hW6]; exact hB5.set_ 2 _
        have hO6 : Own W6 w.heap.size 229 3 A5 (rs.length + 1) c5 (cells3 (rs ++ [r])) := k6.own (by rw [← cells3_more]; exact o5) (Blk.aptt hB5 o5 (by decide))
        have hS5 : Src b A n c (T + 8 * rs.length + 8) W5 := (HSV.out.alloc _).grown' (hOV.alloc _) hb hg5
        have hS6 : Src b A n c (T + 8 * rs.length + 8) W6 := hS5.keepB (k6.block b hS5.lt (by omega))
        have hK6 : Kb b w W6 := by rw [hW6]; exact ((HKV.out.alloc _).grown (hOV.alloc _) (Nat.le_refl _) hg5).set_up (p := ⟨w.heap.size + 1, 2, none⟩) (Nat.le_succ _) _
        have hC6 : Blk W6 w.heap.size 36 #[.int .i64 0, .int .i64 0, .slice none 0 0] := k6.blk_ (Blk.growt (HCV.out.alloc _) (hOV.alloc _) hg5 (by decide)) (by omega)
        have hlen : (rs ++ [r]).length = rs.length + 1 := by simp
        exact ⟨⟨j - 1, A5, c5, rs ++ [r], by omega, by go_num, Lib.hid (by rw [hlen]; have := HL.out; omega), by rw [hlen]; exact Lib.hid hB6, by rw [hlen]; exact Lib.hid hO6, Lib.hid (fun x hx => by
          rcases List.mem_append.1 hx with h | h
          · exact HV.out x h
          · rw [List.mem_singleton.1 h]; exact HVr.out), Lib.hid (by rw [hlen]; exact hS6.le (by omega)), Lib.hid hK6, Lib.hid hC6⟩, by simp [intOf]; omega⟩
    · obtain rfl : j = 0 := by omega
      have hB := HB.out
      have u0 : W0.cell? ⟨(w.heap.size + 1), 0, none⟩ = some (.int .i64 sy) := hB.cell 0
      have u1 : W0.cell? ⟨(w.heap.size + 1), 1, none⟩ = some (.int .i64 st) := hB.cell 1
      have u2 : W0.cell? ⟨(w.heap.size + 1), 2, none⟩ = some (.slice R rs.length rc) := hB.cell 2
      have hC := HC.out
      have v0 : W0.cell? ⟨w.heap.size, 0, none⟩ = some (.int .i64 0) := hC.cell 0
      have v1 : W0.cell? ⟨w.heap.size, 1, none⟩ = some (.int .i64 0) := hC.cell 1
      have v2 : W0.cell? ⟨w.heap.size, 2, none⟩ = some (.slice none 0 0) := hC.cell 2
      have f0 := hC.frozen 0
      have f1 := hC.frozen 1
      have f2 := hC.frozen 2
      have HD := Lib.hid (((hC.set_ 0 (.int .i64 sy)).set_ 1 (.int .i64 st)).set_ 2 (.slice R rs.length rc))
      have HDR : Hid (DrewM b A n c (T + 3000) sy st w (.returned (.agg #[.int .i64 sy, .int .i64 st, .slice R rs.length rc])) (((W0.setCell ⟨w.heap.size, 0, none⟩ (.int .i64 sy)).setCell ⟨w.heap.size, 1, none⟩ (.int .i64 st)).setCell ⟨w.heap.size, 2, none⟩ (.slice R rs.length rc))) := Lib.hid (by
        have k : Kb w.heap.size W0 (((W0.setCell ⟨w.heap.size, 0, none⟩ (.int .i64 sy)).setCell ⟨w.heap.size, 1, none⟩ (.int .i64 st)).setCell ⟨w.heap.size, 2, none⟩ (.slice R rs.length rc)) := (((Kb.refl _ _).set_ 0 _).set_ 1 _).set_ 2 _
        have hm : machB sy st rs = true := by
          obtain ⟨a1, a2, a3, a4⟩ := HSY.out
          unfold machB
          have e1 : (rs.length : Int) = st * sy := by rw [Int.mul_comm, HN.out]; have := HL.out; omega
          rw [(inB_iff _ _ _).2 ⟨a1, a2⟩, (inB_iff _ _ _).2 ⟨a3, by omega⟩, decide_eq_true e1, List.all_eq_true.2 HV.out]; rfl
        refine ⟨R, rc, rs, rfl, ?_, hm, ?_, ?_⟩
        · exact k.own HO.out (Blk.aptt hC HO.out (by decide))
        · exact (HS.out.keepB (k.block b HS.out.lt (by omega))).le (by have := HL.out; omega)
        · exact ((HK.out.set_up (p := ⟨w.heap.size, 0, none⟩) (Nat.le_refl _) _).set_up (p := ⟨w.heap.size, 1, none⟩) (Nat.le_refl _) _).set_up (p := ⟨w.heap.size, 2, none⟩) (Nat.le_refl _) _)
      clear hC hB
      go_wp2_with fail
      have d1 := HD.out
      exact bodyPost_ret (v := .agg #[.int .i64 sy, .int .i64 st, .slice R rs.length rc]) (by simp [results, Try.results106, go_sem, d1.cell 0, d1.cell 1, d1.cell 2]) rfl HDR.out
end Go.Proofs.Ytbpofkggoolmpaa

/-
  The first row with a property. No program is in sight.
-/
namespace Go.Proofs.Ytbpofkggoolmpaa
open Go.RowKit

def firstB (p : List Int → Bool) (xss : List (List Int)) : Int := match xss.findIdx? p with | some k => k | none => -1
theorem firstB_at {p : List Int → Bool} {ts : List Sl} {t : Sl} {k : Nat} (hT : ts[k]? = some t) (h : p t.xs = true) (he : ((nums ts).take k).any p = false) : (k : Int) = firstB p (nums ts) := by
  unfold firstB
  obtain ⟨hk, rfl⟩ := List.getElem?_eq_some_iff.1 hT
  have : (nums ts).findIdx? p = some k := by
    rw [List.findIdx?_eq_some_iff_getElem]
    refine ⟨by simpa [nums] using hk, by simpa [nums] using h, fun j hj => ?_⟩
    rw [List.any_eq_false] at he
    have := he ((nums ts)[j]'(by simp [nums]; omega)) (by rw [List.mem_take_iff_getElem]; exact ⟨j, by simp [nums]; omega, rfl⟩)
    simpa using this
  rw [this]
theorem firstB_none {p : List Int → Bool} {ts : List Sl} {k n : Nat} (hk : n ≤ k) (hl : ts.length = n) (he : ((nums ts).take k).any p = false) : -1 = firstB p (nums ts) := by
  unfold firstB
  rw [List.take_of_length_le (by simp [nums]; omega)] at he
  have : (nums ts).findIdx? p = none := by
    rw [List.findIdx?_eq_none_iff]
    intro x hx
    rw [List.any_eq_false] at he
    simpa using he x hx
  rw [this]
theorem firstB_next {p : List Int → Bool} {ts : List Sl} {t : Sl} {k : Nat} (hT : ts[k]? = some t) (h : p t.xs = false) (he : ((nums ts).take k).any p = false) : ((nums ts).take (k + 1)).any p = false := by
  obtain ⟨hk, rfl⟩ := List.getElem?_eq_some_iff.1 hT
  rw [List.take_succ_eq_append_getElem (by simpa [nums] using hk), List.any_append, he]
  simpa [nums] using h
theorem firstB_ge (p : List Int → Bool) (xss : List (List Int)) : decide (0 ≤ firstB p xss) = xss.any p := by
  unfold firstB
  cases h : xss.findIdx? p with
  | some k =>
    obtain ⟨hk, hp, _⟩ := List.findIdx?_eq_some_iff_getElem.1 h
    have : xss.any p = true := List.any_eq_true.2 ⟨_, List.getElem_mem hk, hp⟩
    rw [this]; simp
  | none =>
    have : xss.any p = false := by rw [List.any_eq_false]; intro x hx; simpa using List.findIdx?_eq_none_iff.1 h x hx
    rw [this]; simp
end Go.Proofs.Ytbpofkggoolmpaa

/-
  Contracts of the reference's l05OwnConfig, l05Halts, l05Step in the words of a configuration, and of l05Run.
-/
namespace Go.Proofs.Ytbpofkggoolmpaa
open Go.RowKit

/-- A configuration in a block, with its sides. -/
def ConfC (w : World) (lo f : Nat) (c : Conf) : Prop :=
  ∃ L a R d, Blk w f 50 #[.int .i64 c.q, .slice L c.xs.length a, .slice R c.ys.length d] ∧ Own w lo 2 1 L c.xs.length a (ints c.xs) ∧ Own w lo 2 1 R c.ys.length d (ints c.ys) ∧ (∀ b, blk L = some b → blk R ≠ some b)
theorem ConfC.below {w w' : World} {lo f : Nat} {c : Conf} (h : ConfC w lo f c) (z : Below w.heap.size w w') : ConfC w' lo f c := by
  obtain ⟨L, a, R, d, h1, h2, h3, h4⟩ := h
  exact ⟨L, a, R, d, h1.below' z, h2.below z, h3.below z, h4⟩
theorem ConfC.drewN {w : World} {lo f : Nat} {c : Conf} (h : ConfC w lo f c) (q : Nat) : ConfC (w.drewN q) lo f c := h

theorem ConfC.set3 {w : World} {lo f : Nat} {cs : Array Value} {a0 b0 c0 : Value} {c : Conf} {L R : Option Addr} {a d : Nat} (hcs : cs = #[a0, b0, c0]) (hb : Blk w f 50 cs) (h2 : Own w lo 2 1 L c.xs.length a (ints c.xs)) (h3 : Own w lo 2 1 R c.ys.length d (ints c.ys)) (h4 : ∀ b, blk L = some b → blk R ≠ some b) :
    ConfC (((w.setCell ⟨f, 0, none⟩ (.int .i64 c.q)).setCell ⟨f, 1, none⟩ (.slice L c.xs.length a)).setCell ⟨f, 2, none⟩ (.slice R c.ys.length d)) lo f c := by
  subst hcs
  have e : ∀ {X : Option Addr} {n' c' : Nat} {xs : List Value}, Own w lo 2 1 X n' c' xs → blk X ≠ some f := by
    intro X n' c' xs h hbk
    rcases h.2 with ⟨rfl, _⟩ | ⟨b, off, cur, rfl, _, hg, _⟩
    · simp [blk] at hbk
    · simp [blk] at hbk; subst hbk
      unfold Blk at hb
      rw [hg] at hb
      simp at hb
  exact ⟨L, a, R, d, conf_set hb _ _ _, ((h2.far (p := ⟨f, 0, none⟩) (e h2) _).far (p := ⟨f, 1, none⟩) (e h2) _).far (p := ⟨f, 2, none⟩) (e h2) _, ((h3.far (p := ⟨f, 0, none⟩) (e h3) _).far (p := ⟨f, 1, none⟩) (e h3) _).far (p := ⟨f, 2, none⟩) (e h3) _, h4⟩
end Go.Proofs.Ytbpofkggoolmpaa

/-
  Contract of the reference's l05Run.
-/
namespace Go.Proofs.Ytbpofkggoolmpaa
open Go.RowKit

def SpecRun (w : World) (sy : Int) (rs : List R3) (c : Conf) (N : Nat) (e : Ending) (w' : World) : Prop :=
  ((∃ i, Ended sy rs c N i ∧ ∃ L a R d, e = .returned (.tuple #[.agg #[.int .i64 (itC sy rs c i).q, .slice L (itC sy rs c i).xs.length a, .slice R (itC sy rs c i).ys.length d], .int .i64 (i : Int), .bool (haltC sy rs (itC sy rs c i)), .bool true]) ∧
      Own w' w.heap.size 2 1 L (itC sy rs c i).xs.length a (ints (itC sy rs c i).xs) ∧ Own w' w.heap.size 2 1 R (itC sy rs c i).ys.length d (ints (itC sy rs c i).ys) ∧ (∀ b, blk L = some b → blk R ≠ some b)) ∨
    (∃ i, Full sy rs c N i) ∧ e = .returned (.tuple #[.agg #[.int .i64 0, .slice none 0 0, .slice none 0 0], .int .i64 0, .bool false, .bool false])) ∧ Below w.heap.size w w'

end Go.Proofs.Ytbpofkggoolmpaa

/-
  Contracts of the reference's l00Max, l30Used, l05Budget, l30Status, NodeStatus.
-/
namespace Go.Proofs.Ytbpofkggoolmpaa
open Go.RowKit

/-- The numbers of used states and symbols, and of rules, of the first k rules. -/
def usedTo (rs : List R3) : Nat → Int × Int × Int
  | 0 => (1, 1, 0)
  | k + 1 => let u := usedTo rs k; let r := rs.getD k ⟨0, 0, -1⟩
    if isRuleB r then ((if r.c + 1 < u.1 then u.1 else r.c + 1), (if r.a + 1 < u.2.1 then u.2.1 else r.a + 1), u.2.2 + 1) else u
def usedF (rs : List R3) : Int × Int × Int := usedTo rs rs.length
theorem usedTo_yes {rs : List R3} {k : Nat} {r : R3} (h : rs[k]? = some r) (hr : isRuleB r = true) : usedTo rs (k + 1) = ((if r.c + 1 < (usedTo rs k).1 then (usedTo rs k).1 else r.c + 1), (if r.a + 1 < (usedTo rs k).2.1 then (usedTo rs k).2.1 else r.a + 1), (usedTo rs k).2.2 + 1) := by
  have e : rs.getD k ⟨0, 0, -1⟩ = r := by simp [List.getD, h]
  show (if isRuleB (rs.getD k ⟨0, 0, -1⟩) then _ else _) = _
  rw [e, hr]; rfl
theorem usedTo_no {rs : List R3} {k : Nat} {r : R3} (h : rs[k]? = some r) (hr : isRuleB r = false) : usedTo rs (k + 1) = usedTo rs k := by
  have e : rs.getD k ⟨0, 0, -1⟩ = r := by simp [List.getD, h]
  show (if isRuleB (rs.getD k ⟨0, 0, -1⟩) then _ else _) = _
  rw [e, hr]; rfl
theorem usedTo_free {rs : List R3} {k : Nat} (hk : k ≤ rs.length) : (usedTo rs k).2.2 + ((freeTo rs k).length : Int) = (k : Int) := by
  induction k with
  | zero => simp [usedTo, freeTo]
  | succ k ih =>
    have ih := ih (by omega)
    have hg : rs[k]? = some rs[k] := List.getElem?_eq_getElem (by omega)
    cases hr : isRuleB rs[k] with
    | true => rw [usedTo_yes hg hr, freeTo_no hg hr]; show (usedTo rs k).2.2 + 1 + _ = _; omega
    | false => rw [usedTo_no hg hr, freeTo_yes hg hr]; simp; omega
theorem used_free (rs : List R3) : (usedF rs).2.2 + ((freeF rs).length : Int) = (rs.length : Int) := usedTo_free (Nat.le_refl _)

/-- The fields of a machine's rules are small. -/
def SmallR (rs : List R3) : Prop := ∀ r ∈ rs, isRuleB r = true → 0 ≤ r.a ∧ r.a ≤ 100000 ∧ 0 ≤ r.c ∧ r.c ≤ 100000
theorem usedTo_small {rs : List R3} (h : SmallR rs) {k : Nat} (hk : k ≤ rs.length) : 1 ≤ (usedTo rs k).1 ∧ (usedTo rs k).1 ≤ 100001 ∧ 1 ≤ (usedTo rs k).2.1 ∧ (usedTo rs k).2.1 ≤ 100001 ∧ 0 ≤ (usedTo rs k).2.2 ∧ (usedTo rs k).2.2 ≤ k := by
  induction k with
  | zero => simp [usedTo]
  | succ k ih =>
    have ih := ih (by omega)
    have hg : rs[k]? = some rs[k] := List.getElem?_eq_getElem (by omega)
    cases hr : isRuleB rs[k] with
    | true =>
      have hs := h _ (List.getElem_mem (by omega : k < rs.length)) hr
      rw [usedTo_yes hg hr]
      dsimp only
      repeat' split
      all_goals omega
    | false => rw [usedTo_no hg hr]; omega

theorem small_of {sy st : Int} {rs : List R3} (h : machB sy st rs = true) : SmallR rs := fun r hr hi => by
  obtain ⟨k1, k2, k3, k4, _, k6⟩ := machB_parts h
  have hv := k6 r hr
  unfold validRuleB at hv
  rw [hi] at hv
  simp only [Bool.not_true, Bool.false_or, Bool.and_eq_true, inB_iff] at hv
  omega
theorem blank_good (sy st : Int) (rs : List R3) : validConfB sy st rs 0 [] [] = machB sy st rs := by
  unfold validConfB
  cases h : machB sy st rs with
  | false => rfl
  | true =>
    obtain ⟨k1, k2, k3, k4, _, _⟩ := machB_parts h
    have : confB sy st 0 [] [] = true := by
      unfold confB sideB allIn
      simp [inB]
      omega
    rw [this]; rfl

end Go.Proofs.Ytbpofkggoolmpaa

/-
  A configuration that a law keeps in a box.
-/
namespace Go.Proofs.Ytbpofkggoolmpaa
open Go.RowKit
theorem conf_ne {w : World} {g : Nat} {cs : Array Value} {lo s n' c' : Nat} {X : Option Addr} {xs : List Value} (h : Blk w g 50 cs) (h' : Own w lo 2 s X n' c' xs) : blk X ≠ some g := by
  intro hb
  rcases h'.2 with ⟨rfl, _⟩ | ⟨b, off, cur, rfl, _, hg, _⟩
  · simp [blk] at hb
  · simp [blk] at hb; subst hb
    unfold Blk at h
    rw [hg] at h
    simp at h
theorem conf_far2 {w : World} {g lo n c : Nat} {A : Option Addr} {cs : List Value} {vs : Array Value} (hg : Blk w g 50 vs) (h : Own w lo 2 1 A n c cs) (x y z : Value) : Own (((w.setCell ⟨g, 0, none⟩ x).setCell ⟨g, 1, none⟩ y).setCell ⟨g, 2, none⟩ z) lo 2 1 A n c cs := by
  have hb : blk A ≠ some g := conf_ne hg h
  exact ((h.far (p := ⟨g, 0, none⟩) hb _).far (p := ⟨g, 1, none⟩) hb _).far (p := ⟨g, 2, none⟩) hb _
/-- A result of StepMachine in a box. -/
def ConfBox (lo : Nat) (W : World) (s6 s7 : Value) (r : Conf × Int) (wx : World) : Prop :=
  ∃ g L c R d, s6 = .pointer (some ⟨g, 0, none⟩) ∧ s7 = .int .i64 r.2 ∧ lo ≤ g ∧ Blk wx g 50 #[.int .i64 r.1.q, .slice L r.1.xs.length c, .slice R r.1.ys.length d] ∧ Own wx lo 2 1 L r.1.xs.length c (ints r.1.xs) ∧ Own wx lo 2 1 R r.1.ys.length d (ints r.1.ys) ∧ (∀ b, blk L = some b → blk R ≠ some b) ∧ Below W.heap.size W wx
theorem stepMachF_len (sy st : Int) (rs : List R3) (q : Int) (xs ys : List Int) : (stepMachF sy st rs q xs ys).1.xs.length ≤ 1048576 ∧ (stepMachF sy st rs q xs ys).1.ys.length ≤ 1048576 := by
  unfold stepMachF
  split
  · split
    · split
      · rename_i h
        unfold roomC roomB at h
        simp only [Bool.and_eq_true, decide_eq_true_eq] at h
        exact ⟨by show (stepC (ruleOf sy rs q ys) xs ys).xs.length ≤ _; omega, by show (stepC (ruleOf sy rs q ys) xs ys).ys.length ≤ _; omega⟩
      · simp
    · simp
  · simp
end Go.Proofs.Ytbpofkggoolmpaa

/-
  Contracts of impl.RunMachine and spec.RunMachine: both return what runMachF says.
-/
namespace Go.Proofs.Ytbpofkggoolmpaa
open Go.RowKit

/-- What RunMachine returns. -/
def runMachF (sy st : Int) (rs : List R3) (q : Int) (xs ys : List Int) (b : Int) : Conf × Int × Bool × Int :=
  if validConfB sy st rs q xs ys then
    if inB b 1 20000 then
      match runN sy rs b.toNat ⟨q, xs, ys⟩ with
      | some i => (itC sy rs ⟨q, xs, ys⟩ i, (i : Int), haltC sy rs (itC sy rs ⟨q, xs, ys⟩ i), 0)
      | none => (⟨0, [], []⟩, 0, false, 5)
    else (⟨0, [], []⟩, 0, false, 2)
  else (⟨0, [], []⟩, 0, false, 1)
theorem Alive.cons {sy : Int} {rs : List R3} {c : Conf} {i : Nat} (h1 : haltC sy rs c = false) (h2 : roomC (nextC sy rs c) = true) (h : Alive sy rs (nextC sy rs c) i) : Alive sy rs c (i + 1) := fun j hj => by
  cases j with
  | zero => exact ⟨h1, h2⟩
  | succ j =>
    have h3 := h j (by omega)
    rw [itC_shift, itC_shift] at h3
    exact h3
theorem runN_alive {sy : Int} {rs : List R3} : ∀ {N : Nat} {c : Conf} {i : Nat}, runN sy rs N c = some i → Alive sy rs c i := by
  intro N
  induction N with
  | zero => intro c i h; unfold runN at h; cases h; exact Alive.zero _ _ _
  | succ N ih =>
    intro c i h
    unfold runN at h
    split at h
    · cases h; exact Alive.zero _ _ _
    · rename_i h1
      split at h
      · rename_i h2
        cases h3 : runN sy rs N (nextC sy rs c) with
        | none => rw [h3] at h; cases h
        | some j =>
          rw [h3] at h
          obtain rfl : j + 1 = i := by simpa using h
          exact (ih h3).cons (by simpa using h1) h2
      · cases h
theorem runMachF_len (sy st : Int) (rs : List R3) (q : Int) (xs ys : List Int) (b : Int) : (runMachF sy st rs q xs ys b).1.xs.length ≤ 1048576 ∧ (runMachF sy st rs q xs ys b).1.ys.length ≤ 1048576 := by
  unfold runMachF
  split
  · rename_i h1
    split
    · split
      · rename_i i hi
        have hg : goodC sy st rs (itC sy rs ⟨q, xs, ys⟩ i) := (runN_alive hi).good h1
        have hp := conf_parts hg
        have h2 := hp.2.2.2.2.2.2.2.1
        have h3 := hp.2.2.2.2.2.2.2.2.1
        exact ⟨by show (itC sy rs ⟨q, xs, ys⟩ i).xs.length ≤ _; omega, by show (itC sy rs ⟨q, xs, ys⟩ i).ys.length ≤ _; omega⟩
      · simp
    · simp
  · simp
/-- A configuration in new memory, a number, a Bool and a code. -/
def NewConf4 (w : World) (r : Conf × Int × Bool × Int) (e : Ending) (w' : World) : Prop :=
  ∃ L c R d, e = .returned (.tuple #[.agg #[.int .i64 r.1.q, .slice L r.1.xs.length c, .slice R r.1.ys.length d], .int .i64 r.2.1, .bool r.2.2.1, .int .i64 r.2.2.2]) ∧ Own w' w.heap.size 2 1 L r.1.xs.length c (ints r.1.xs) ∧ Own w' w.heap.size 2 1 R r.1.ys.length d (ints r.1.ys) ∧ (∀ b, blk L = some b → blk R ≠ some b) ∧ Below w.heap.size w w'
theorem newConf4_zero {w wf : World} {k : Int} {r : Conf × Int × Bool × Int} (hr : r = (⟨0, [], []⟩, 0, false, k)) (hz : Below w.heap.size w wf) : NewConf4 w r (.returned (.tuple #[.agg #[.int .i64 0, .slice none 0 0, .slice none 0 0], .int .i64 0, .bool false, .int .i64 k])) wf := by
  subst hr
  exact ⟨none, 0, none, 0, rfl, Own.nil, Own.nil, fun b h => by simp [blk] at h, hz⟩
/-- A result of RunMachine in a box. -/
def ConfBox4 (lo : Nat) (W : World) (s6 s7 s8 s9 : Value) (r : Conf × Int × Bool × Int) (wx : World) : Prop :=
  ∃ g L c R d, s6 = .pointer (some ⟨g, 0, none⟩) ∧ s7 = .int .i64 r.2.1 ∧ s8 = .bool r.2.2.1 ∧ s9 = .int .i64 r.2.2.2 ∧ lo ≤ g ∧ Blk wx g 50 #[.int .i64 r.1.q, .slice L r.1.xs.length c, .slice R r.1.ys.length d] ∧ Own wx lo 2 1 L r.1.xs.length c (ints r.1.xs) ∧ Own wx lo 2 1 R r.1.ys.length d (ints r.1.ys) ∧ (∀ b, blk L = some b → blk R ≠ some b) ∧ Below W.heap.size W wx

set_option maxHeartbeats 4000000 in
theorem runMachine_any (sy st : Int) (A : Option Addr) (n k : Nat) (rs : List R3) (q : Int) (B : Option Addr) (m c : Nat) (xs : List Int) (C : Option Addr) (l d : Nat) (ys : List Int) (b : Int) (w : World) (hr : S3 w A n rs) (hx : SI w B m xs) (hy : SI w C l ys) (hn : n ≤ 1048576) (hm : m ≤ 1048576) (hl : l ≤ 1048576) :
    Calls Try.prog 28 #[.agg #[.int .i64 sy, .int .i64 st, .slice A n k], .agg #[.int .i64 q, .slice B m c, .slice C l d], .int .i64 b] w (NewConf4 w (runMachF sy st rs q xs ys b)) := by
  obtain ⟨W, hW_⟩ : ∃ W, W = ((w.alloc (.cells #[.int .i64 sy, .int .i64 st, .slice A n k] 36)).alloc (.cells #[.int .i64 q, .slice B m c, .slice C l d] 50)).alloc (.cells #[.int .i64 0, .slice none 0 0, .slice none 0 0] 50) := ⟨_, rfl⟩
  have s_1 : (w.alloc (.cells #[.int .i64 sy, .int .i64 st, .slice A n k] 36)).heap.size = w.heap.size + 1 := by simp
  have s_2 : ((w.alloc (.cells #[.int .i64 sy, .int .i64 st, .slice A n k] 36)).alloc (.cells #[.int .i64 q, .slice B m c, .slice C l d] 50)).heap.size = w.heap.size + 1 + 1 := by simp
  have b0 : Blk W w.heap.size 36 #[.int .i64 sy, .int .i64 st, .slice A n k] := by rw [hW_]; exact ((Blk.new w _ _).alloc _).alloc _
  have b1 : Blk W (w.heap.size + 1) 50 #[.int .i64 q, .slice B m c, .slice C l d] := by rw [hW_, ← s_1]; exact (Blk.new _ _ _).alloc _
  have b2 : Blk W (w.heap.size + 1 + 1) 50 #[.int .i64 0, .slice none 0 0, .slice none 0 0] := by rw [hW_, ← s_2]; exact Blk.new _ _ _
  have y0 : Below w.heap.size w W := by rw [hW_]; exact (((Below.refl _ _).alloc (Nat.le_refl _) _).alloc (by simp) _).alloc (by simp; omega) _
  have HW := Lib.hid hW_
  clear hW_ s_1 s_2
  go_enter Try.func28, Try.ntmps28
  go_wp2_with fail
  rw [← HW.out]
  refine (validConfig_any _ _ _ _ _ rs _ _ _ _ xs _ _ _ ys _ (hr.below y0) (hx.below y0) (hy.below y0) hn hm hl).mono ?_
  rintro e w2 ⟨rfl, z2⟩
  have y2 := y0.trans (z2.mono y0.size)
  have c0 := b0.below' z2
  have c1 := b1.below' z2
  have c2 := b2.below' z2
  have hg2 : w.heap.size + 1 + 1 < w2.heap.size := c2.lt
  have q0 : w2.cell? ⟨w.heap.size, 0, none⟩ = some (.int .i64 sy) := c0.cell 0
  have q1 : w2.cell? ⟨w.heap.size, 1, none⟩ = some (.int .i64 st) := c0.cell 1
  have q2 : w2.cell? ⟨w.heap.size, 2, none⟩ = some (.slice A n k) := c0.cell 2
  have r0 : w2.cell? ⟨(w.heap.size + 1), 0, none⟩ = some (.int .i64 q) := c1.cell 0
  have r1 : w2.cell? ⟨(w.heap.size + 1), 1, none⟩ = some (.slice B m c) := c1.cell 1
  have r2 : w2.cell? ⟨(w.heap.size + 1), 2, none⟩ = some (.slice C l d) := c1.cell 2
  have u0 : w2.cell? ⟨(w.heap.size + 1 + 1), 0, none⟩ = some (.int .i64 0) := c2.cell 0
  have u1 : w2.cell? ⟨(w.heap.size + 1 + 1), 1, none⟩ = some (.slice none 0 0) := c2.cell 1
  have u2 : w2.cell? ⟨(w.heap.size + 1 + 1), 2, none⟩ = some (.slice none 0 0) := c2.cell 2
  have f0 := c2.frozen 0
  have f1 := c2.frozen 1
  have f2 := c2.frozen 2
  cases a1 : validConfB sy st rs q xs ys
  · have A1 := Lib.hid a1
    clear a1
    go_wp2_with fail
    have d1 := conf_set c2 (.int .i64 0) (.slice none 0 0) (.slice none 0 0)
    exact bodyPost_ret (v := .tuple #[.agg #[.int .i64 0, .slice none 0 0, .slice none 0 0], .int .i64 0, .bool false, .int .i64 1]) (by simp [results, Try.results28, go_sem, d1.cell 0, d1.cell 1, d1.cell 2]) rfl (newConf4_zero (by unfold runMachF; rw [A1.out]; rfl) (conf_below y2 (by omega) _ _ _))
  have hgc : goodC sy st rs ⟨q, xs, ys⟩ := a1
  have A1 := Lib.hid a1
  clear a1
  cases a2 : inB b 1 20000
  · have A2 := Lib.hid a2
    clear a2
    go_wp2_with (go_at_call 112; refine (budgetOk_is A2.out _).mono ?_; rintro e w' ⟨rfl, rfl⟩)
    have d1 := conf_set c2 (.int .i64 0) (.slice none 0 0) (.slice none 0 0)
    exact bodyPost_ret (v := .tuple #[.agg #[.int .i64 0, .slice none 0 0, .slice none 0 0], .int .i64 0, .bool false, .int .i64 2]) (by simp [results, Try.results28, go_sem, d1.cell 0, d1.cell 1, d1.cell 2]) rfl (newConf4_zero (by unfold runMachF; rw [A1.out, A2.out]; rfl) (conf_below y2 (by omega) _ _ _))
  have A2 := Lib.hid a2
  have hb := (inB_iff _ _ _).1 a2
  obtain ⟨N, rfl⟩ : ∃ N : Nat, b = (N : Int) := ⟨b.toNat, by omega⟩
  clear a2
  go_wp2_with (go_at_call 112; refine (budgetOk_is A2.out _).mono ?_; rintro e w' ⟨rfl, rfl⟩)
  refine (runnerOf_any _ _ _ _ _ _ _ _ _ xs _ _ _ ys _ (hx.below y2) (hy.below y2) hm hl).mono ?_
  rintro e w3 ⟨g, L, cl, R, cr, rfl, hg, hrun, ol, or_, hap, z3⟩
  have hrc : RunC (fun _ => False) w3 w2.heap.size g sy st A n k ⟨q, xs, ys⟩ := NewRunner.runC hrun ol or_ hap
  clear hap hrun ol or_ q0 q1 q2 r0 r1 r2 u0 u1 u2 f0 f1 f2
  go_wp2_with fail
  refine (run_any w2 w3 g sy st A n k rs ⟨q, xs, ys⟩ N hrc (hr.below y2) z3 hg hgc hn (by omega)).mono ?_
  rintro e w4 ⟨hcase, z4⟩
  have y4 := y2.trans (z4.mono y2.size)
  have e2 := c2.below' z4
  have hg4 : w.heap.size + 1 + 1 < w4.heap.size := e2.lt
  have u0 : w4.cell? ⟨(w.heap.size + 1 + 1), 0, none⟩ = some (.int .i64 0) := e2.cell 0
  have u1 : w4.cell? ⟨(w.heap.size + 1 + 1), 1, none⟩ = some (.slice none 0 0) := e2.cell 1
  have u2 : w4.cell? ⟨(w.heap.size + 1 + 1), 2, none⟩ = some (.slice none 0 0) := e2.cell 2
  have f0 := e2.frozen 0
  have f1 := e2.frozen 1
  have f2 := e2.frozen 2
  rcases hcase with ⟨i, hi, rfl, hrc4⟩ | ⟨⟨i, hi⟩, rfl⟩
  · have hF : runMachF sy st rs q xs ys (N : Int) = (itC sy rs ⟨q, xs, ys⟩ i, (i : Int), haltC sy rs (itC sy rs ⟨q, xs, ys⟩ i), 0) := by
      unfold runMachF; rw [A1.out, A2.out, Int.toNat_natCast, runN_ended hi]; rfl
    have HF := Lib.hid hF
    have hp := conf_parts (hi.2.1.good hgc)
    have hl1 : (itC sy rs ⟨q, xs, ys⟩ i).xs.length ≤ 200 := hp.2.2.2.2.2.2.2.1
    have hl2 : (itC sy rs ⟨q, xs, ys⟩ i).ys.length ≤ 200 := hp.2.2.2.2.2.2.2.2.1
    clear hF hp hi
    go_wp2_with fail
    generalize itC sy rs ⟨q, xs, ys⟩ i = cf at *
    refine (config_any _ _ _ _ _ _ _ _ _ _ _ hrc4.sides (by rw [List.length_reverse]; omega) (by rw [List.length_reverse]; omega)).mono ?_
    rintro e w6 ⟨L6, c6, R6, d6, rfl, ol6, or6, hap6, z6⟩
    rw [List.reverse_reverse] at ol6 or6
    rw [List.reverse_reverse, List.reverse_reverse]
    have HAP6 := Lib.hid hap6
    clear hap6 u0 u1 u2 f0 f1 f2
    have e4 := e2.below' z6
    have y6 := y4.trans (z6.mono y4.size)
    have hz6 : w2.heap.size ≤ w4.heap.size := z4.size
    have u0 : w6.cell? ⟨(w.heap.size + 1 + 1), 0, none⟩ = some (.int .i64 0) := e4.cell 0
    have u1 : w6.cell? ⟨(w.heap.size + 1 + 1), 1, none⟩ = some (.slice none 0 0) := e4.cell 1
    have u2 : w6.cell? ⟨(w.heap.size + 1 + 1), 2, none⟩ = some (.slice none 0 0) := e4.cell 2
    have f0 := e4.frozen 0
    have f1 := e4.frozen 1
    have f2 := e4.frozen 2
    go_wp2_with fail
    have d1 := conf_set e4 (.int .i64 cf.q) (.slice L6 cf.xs.length c6) (.slice R6 cf.ys.length d6)
    refine bodyPost_ret (v := .tuple #[.agg #[.int .i64 cf.q, .slice L6 cf.xs.length c6, .slice R6 cf.ys.length d6], .int .i64 (i : Int), .bool (haltC sy rs cf), .int .i64 0]) (by simp [results, Try.results28, go_sem, d1.cell 0, d1.cell 1, d1.cell 2]) rfl ?_
    rw [HF.out]
    exact ⟨L6, c6, R6, d6, rfl, (conf_far ol6 (by omega) _ _ _).mono (by omega), (conf_far or6 (by omega) _ _ _).mono (by omega), HAP6.out, conf_below y6 (by omega) _ _ _⟩
  · have hF : runMachF sy st rs q xs ys (N : Int) = (⟨0, [], []⟩, 0, false, 5) := by
      unfold runMachF; rw [A1.out, A2.out, Int.toNat_natCast, runN_full hi]; rfl
    have HF := Lib.hid hF
    clear hF hi
    go_wp2_with fail
    have d1 := conf_set e2 (.int .i64 0) (.slice none 0 0) (.slice none 0 0)
    exact bodyPost_ret (v := .tuple #[.agg #[.int .i64 0, .slice none 0 0, .slice none 0 0], .int .i64 0, .bool false, .int .i64 5]) (by simp [results, Try.results28, go_sem, d1.cell 0, d1.cell 1, d1.cell 2]) rfl (newConf4_zero HF.out (conf_below y4 (by omega) _ _ _))

end Go.Proofs.Ytbpofkggoolmpaa

/-
  Contracts of impl's checks of words and proofs: isLetters, IsWord, areWords, ValidProof, proofOf, afterSteps, CheckHalt.
-/
namespace Go.Proofs.Ytbpofkggoolmpaa
open Go.RowKit

/-- A word. -/
def isWordB (xs : List Int) : Bool := decide (xs.length ≤ 400) && allIn xs 0 9
def areWordsB (xss : List (List Int)) : Bool := xss.all isWordB
theorem areWordsB_not (xss : List (List Int)) : (!xss.any (fun xs => !isWordB xs)) = areWordsB xss := by
  unfold areWordsB; rw [List.not_any_eq_all_not]; simp

set_option maxHeartbeats 400000 in
theorem indexFuncII0_any (A : Option Addr) (n c : Nat) (ts : List Sl) (f : FuncId) (p : List Int → Bool) (w : World) (hx : SII w A n ts) (hn : n ≤ 9223372036854775807) (hcall : ∀ (args : Array Value) (w : World), (callFunc f args).run Try.prog w = .ok (.enter f args) w)
    (hf : Hid (∀ t ∈ ts, Calls Try.prog f #[.slice t.A t.xs.length t.c] w fun e w' => e = .returned (.bool (p t.xs)) ∧ w = w')) :
    Calls Try.prog 289 #[.slice A n c, .func (.func f) #[] #[]] w fun e w' => e = .returned (.int .i64 (firstB p (nums ts))) ∧ w = w' := by
  go_enter Try.func289, Try.ntmps289
  go_wp2
  go_loop [8] (fun i => ∃ k : Nat, k ≤ n ∧ i = .int .i64 k ∧ Hid (((nums ts).take k).any p = false)) (fun i => n - (intOf i).toNat)
  case atStart => exact ⟨0, by omega, rfl, rfl⟩
  case round =>
    obtain ⟨k, hk, rfl, he⟩ := hrel
    by_cases hlt : k < n
    · obtain ⟨t, b, off, hT, htm, rfl, _, hc, hr⟩ := hx.pick hlt
      go_wp2_with fail
      refine (hf.out t htm).mono ?_
      rintro e w' ⟨rfl, rfl⟩
      cases hp : p t.xs
      · have HP := Lib.hid hp
        clear hp
        go_wp2
        exact ⟨⟨k + 1, by omega, by go_num, firstB_next hT.out HP.out he.out⟩, by simp [intOf]; omega⟩
      · have HP := Lib.hid hp
        clear hp
        go_wp2
        go_ret
        exact ⟨ret_int (firstB_at hT.out HP.out he.out), rfl⟩
    · go_wp2
      go_ret
      exact ⟨ret_int (firstB_none (by omega) hx.len he.out), rfl⟩
theorem containsFuncII0_any (A : Option Addr) (n c : Nat) (ts : List Sl) (f : FuncId) (p : List Int → Bool) (w : World) (hx : SII w A n ts) (hn : n ≤ 9223372036854775807) (hcall : ∀ (args : Array Value) (w : World), (callFunc f args).run Try.prog w = .ok (.enter f args) w)
    (hf : Hid (∀ t ∈ ts, Calls Try.prog f #[.slice t.A t.xs.length t.c] w fun e w' => e = .returned (.bool (p t.xs)) ∧ w = w')) :
    Calls Try.prog 246 #[.slice A n c, .func (.func f) #[] #[]] w fun e w' => e = .returned (.bool ((nums ts).any p)) ∧ w = w' := by
  go_enter Try.func246, Try.ntmps246
  go_wp2_with (go_at_call 289; refine (indexFuncII0_any _ _ _ ts _ p _ hx hn hcall hf).mono ?_; rintro e w' ⟨rfl, rfl⟩)
  go_ret
  exact ⟨ret_bool (firstB_ge p (nums ts)), rfl⟩
/-- A valid proof. -/
def validProofB (q : Int) (xs : List Int) (xss : List (List Int)) : Bool := inB q 1 8 && decide (xs.length ≤ 300) && decide (xss.length ≤ 300) && allIn xs (-1000000000000) 1000000000000 && areWordsB xss

/-- A machine and a proof of a kind, with so many numbers and no words. -/
def proofOfB (sy st : Int) (rs : List R3) (q : Int) (xs : List Int) (xss : List (List Int)) (kd : Int) (nn : Nat) : Bool :=
  machB sy st rs && validProofB q xs xss && decide (q = kd) && decide (xs.length = nn) && decide (xss.length = 0)

/-- A runner behind N steps from the blank tape, and whether they can be made. -/
def AfterP (w : World) (sy st : Int) (A : Option Addr) (n k : Nat) (rs : List R3) (N : Nat) (e : Ending) (w' : World) : Prop :=
  ∃ g v, e = .returned (.tuple #[.pointer (some ⟨g, 0, none⟩), .bool v]) ∧ w.heap.size ≤ g ∧ (v = true → Alive sy rs blankC N ∧ RunC (fun _ => False) w' w.heap.size g sy st A n k (itC sy rs blankC N)) ∧ (v = false → ¬ Alive sy rs blankC N) ∧ Below w.heap.size w w'

theorem RunC.lo_mono {X : Nat → Prop} {w : World} {lo lo' g : Nat} {sy st : Int} {A : Option Addr} {n k : Nat} {c : Conf} (h : RunC X w lo g sy st A n k c) (hl : lo' ≤ lo) : RunC X w lo' g sy st A n k c := by
  obtain ⟨L, a, R, d, h1, h2, h3, h4⟩ := h
  exact ⟨L, a, R, d, h1, h2.mono hl, h3.mono hl, h4⟩
theorem Alive.mono {sy : Int} {rs : List R3} {c : Conf} {i j : Nat} (h : Alive sy rs c j) (hij : i ≤ j) : Alive sy rs c i := fun k hk => h k (by omega)
theorem not_alive_ended {sy : Int} {rs : List R3} {c : Conf} {N i : Nat} (h : Ended sy rs c N i) (hne : ¬ i = N) : ¬ Alive sy rs c N := by
  intro ha
  obtain ⟨h1, h2, h3⟩ := h
  rcases h3 with h3 | h3
  · exact hne h3
  · have h4 := (ha i (by omega)).1
    rw [h3] at h4; cases h4
theorem not_alive_full {sy : Int} {rs : List R3} {c : Conf} {N i : Nat} (h : Full sy rs c N i) : ¬ Alive sy rs c N := by
  intro ha
  obtain ⟨h1, h2, h3, h4⟩ := h
  have h5 := (ha i h1).2
  rw [h4] at h5; cases h5

/-- Whether N steps can be made. -/
def aliveB (sy : Int) (rs : List R3) (c : Conf) (N : Nat) : Bool := decide (runN sy rs N c = some N)
theorem aliveB_true {sy : Int} {rs : List R3} {c : Conf} {N : Nat} (h : Alive sy rs c N) : aliveB sy rs c N = true := by
  unfold aliveB; rw [runN_ended ⟨Nat.le_refl _, h, .inl rfl⟩]; simp
theorem aliveB_false {sy : Int} {rs : List R3} {c : Conf} {N : Nat} (h : ¬ Alive sy rs c N) : aliveB sy rs c N = false := by
  unfold aliveB
  rw [decide_eq_false_iff_not]
  exact fun h1 => h (runN_alive h1)
/-- What CheckHalt returns. -/
def checkHaltF (sy st : Int) (rs : List R3) (q : Int) (xs : List Int) (xss : List (List Int)) : Bool :=
  proofOfB sy st rs q xs xss 1 1 && inB (xs.headD 0) 0 20000 && aliveB sy rs blankC (xs.headD 0).toNat && haltC sy rs (itC sy rs blankC (xs.headD 0).toNat)
theorem proofOf_parts {sy st : Int} {rs : List R3} {q : Int} {xs : List Int} {xss : List (List Int)} {kd : Int} {nn : Nat} (h : proofOfB sy st rs q xs xss kd nn = true) : goodC sy st rs blankC ∧ xs.length = nn := by
  unfold proofOfB at h
  simp only [Bool.and_eq_true, decide_eq_true_eq] at h
  exact ⟨by show validConfB sy st rs 0 [] [] = true; rw [blank_good]; exact h.1.1.1.1, h.1.2⟩

end Go.Proofs.Ytbpofkggoolmpaa

/-
  Contracts of the reference's checks of words and proofs: l03Is, l03All, l25Is, l25Form, l25Blank, l25Side, l25After, CheckHalt.
-/
namespace Go.Proofs.Ytbpofkggoolmpaa
open Go.RowKit

theorem isWord_out {xs : List Int} {k n : Nat} (hk : k < n) (hl : xs.length = n) (h : (!inB (xs[k]'(by omega)) 0 9) = true) : false = isWordB xs := by
  have := allIn_at hk hl h
  unfold isWordB; rw [← this]; simp
theorem isWord_end {xs : List Int} {k n : Nat} (hk : n ≤ k) (hl : xs.length = n) (he : allIn (xs.take k) 0 9 = true) : decide ((n : Int) ≤ 400) = isWordB xs := by
  have := allIn_end hk hl he
  unfold isWordB; rw [← this, hl]; simp; omega

theorem areWords_not {ts : List Sl} {t : Sl} {k : Nat} (hT : ts[k]? = some t) (h : (!isWordB t.xs) = true) : false = areWordsB (nums ts) := by
  symm
  unfold areWordsB; rw [List.all_eq_false]
  exact ⟨t.xs, by simp only [nums, List.mem_map]; exact ⟨t, List.mem_of_getElem? hT, rfl⟩, by simpa using h⟩
theorem areWords_next {ts : List Sl} {t : Sl} {k : Nat} (hT : ts[k]? = some t) (h : (!isWordB t.xs) = false) (he : areWordsB ((nums ts).take k) = true) : areWordsB ((nums ts).take (k + 1)) = true := by
  obtain ⟨hk, rfl⟩ := List.getElem?_eq_some_iff.1 hT
  unfold areWordsB at he ⊢
  rw [List.take_succ_eq_append_getElem (by simpa [nums] using hk), List.all_append, he]
  simpa [nums] using h
theorem areWords_end {ts : List Sl} {k n : Nat} (hk : n ≤ k) (hl : ts.length = n) (he : areWordsB ((nums ts).take k) = true) : true = areWordsB (nums ts) := by
  rw [List.take_of_length_le (by simp [nums]; omega)] at he; exact he.symm

/-- A proof behind a pointer. -/
def PrfAt (w : World) (g : Nat) (q : Int) (A : Option Addr) (n c : Nat) (B : Option Addr) (m d : Nat) : Prop :=
  w.cell? ⟨g, 0, none⟩ = some (.int .i64 q) ∧ w.cell? ⟨g, 1, none⟩ = some (.slice A n c) ∧ w.cell? ⟨g, 2, none⟩ = some (.slice B m d)
theorem PrfAt.below {w w' : World} {g : Nat} {q : Int} {A : Option Addr} {n c : Nat} {B : Option Addr} {m d : Nat} (h : PrfAt w g q A n c B m d) (hb : Below w.heap.size w w') : PrfAt w' g q A n c B m d := by
  have hlt : g < w.heap.size := World.block_lt_of_cell? w _ h.1
  exact ⟨(hb.cell (p := ⟨g, 0, none⟩) hlt).trans h.1, (hb.cell (p := ⟨g, 1, none⟩) hlt).trans h.2.1, (hb.cell (p := ⟨g, 2, none⟩) hlt).trans h.2.2⟩
theorem Blk.prfAt {w : World} {g : Nat} {t : TypeId} {q : Int} {A : Option Addr} {n c : Nat} {B : Option Addr} {m d : Nat} (h : Blk w g t #[.int .i64 q, .slice A n c, .slice B m d]) : PrfAt w g q A n c B m d := ⟨h.cell 0, h.cell 1, h.cell 2⟩

def formB (q : Int) (xs : List Int) (xss : List (List Int)) (kd : Int) (nn : Nat) : Bool := validProofB q xs xss && decide (q = kd) && decide (xs.length = nn) && decide (xss.length = 0)
theorem formB_eq (sy st : Int) (rs : List R3) (q : Int) (xs : List Int) (xss : List (List Int)) (kd : Int) (nn : Nat) : proofOfB sy st rs q xs xss kd nn = (machB sy st rs && formB q xs xss kd nn) := by
  unfold proofOfB formB; simp only [Bool.and_assoc]

/-- The configuration behind N steps, and whether they can be made. -/
def AfterS (w : World) (sy : Int) (rs : List R3) (c : Conf) (N : Nat) (e : Ending) (w' : World) : Prop :=
  ∃ (v : Bool) (x : Int) (cf : Conf) (L : Option Addr) (a : Nat) (R : Option Addr) (d : Nat), e = .returned (.tuple #[.agg #[.int .i64 cf.q, .slice L cf.xs.length a, .slice R cf.ys.length d], .int .i64 x, .bool v]) ∧ (v = true → Alive sy rs c N ∧ cf = itC sy rs c N) ∧ (v = false → ¬ Alive sy rs c N) ∧
    Own w' w.heap.size 2 1 L cf.xs.length a (ints cf.xs) ∧ Own w' w.heap.size 2 1 R cf.ys.length d (ints cf.ys) ∧ (∀ b, blk L = some b → blk R ≠ some b) ∧ Below w.heap.size w w'
theorem not_alive_halt {sy : Int} {rs : List R3} {c : Conf} {N i : Nat} (h : i < N) (hh : haltC sy rs (itC sy rs c i) = true) : ¬ Alive sy rs c N := fun ha => by
  have := (ha i h).1; rw [hh] at this; cases this
theorem not_alive_room {sy : Int} {rs : List R3} {c : Conf} {N i : Nat} (h : i < N) (hh : roomC (nextC sy rs (itC sy rs c i)) = false) : ¬ Alive sy rs c N := fun ha => by
  have h1 : roomC (nextC sy rs (itC sy rs c i)) = true := (ha i h).2
  rw [hh] at h1; cases h1

/-- What l25After returned, in a box. -/
def AfterBox (W : World) (sy : Int) (rs : List R3) (N : Nat) (s5 s6 s7 : Value) (wx : World) : Prop :=
  ∃ g v x cf, s5 = .pointer (some ⟨g, 0, none⟩) ∧ s6 = .int .i64 x ∧ s7 = .bool v ∧ ConfC wx W.heap.size g cf ∧ (v = true → Alive sy rs blankC N ∧ cf = itC sy rs blankC N) ∧ (v = false → ¬ Alive sy rs blankC N) ∧ Below W.heap.size W wx
theorem MachAt.alloc {w : World} {g : Nat} {sy st : Int} {A : Option Addr} {n k : Nat} (h : MachAt w g sy st A n k) (o : Obj) : MachAt (w.alloc o) g sy st A n k := h.below ((Below.refl _ _).alloc (Nat.le_refl _) o)
theorem ConfC.new {W w : World} {q : Int} {xs ys : List Int} {L R : Option Addr} {a d : Nat} (oL : Own w W.heap.size 2 1 L xs.length a (ints xs)) (oR : Own w W.heap.size 2 1 R ys.length d (ints ys)) (hap : ∀ b, blk L = some b → blk R ≠ some b) :
    ConfC (w.alloc (.cells #[.int .i64 q, .slice L xs.length a, .slice R ys.length d] 50)) W.heap.size w.heap.size ⟨q, xs, ys⟩ := ⟨L, a, R, d, Blk.new w _ _, oL.alloc _, oR.alloc _, hap⟩

end Go.Proofs.Ytbpofkggoolmpaa
