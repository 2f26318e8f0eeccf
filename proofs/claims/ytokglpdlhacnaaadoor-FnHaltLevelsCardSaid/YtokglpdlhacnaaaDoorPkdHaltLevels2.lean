/-
  The reference's l05DrawSize: a machine of some size.
-/
import Derived.Test.YtokglpdlhacnaaaDoorPbBackAll0
import Derived.Test.YtokglpdlhacnaaaDoorPbBackAll2
import Derived.Test.YtokglpdlhacnaaaDoorPbBackAll4
import Derived.Test.YtokglpdlhacnaaaDoorPkdHaltLevels1
namespace Go.Proofs.YtokglpdlhacnaaaDoor
open Go.RowKit

theorem rd_rule3 (w : World) (r : R3) : Rd (w.alloc (.cells #[.int .i64 r.a, .int .i64 r.b, .int .i64 r.c] 136)) 3 (some ⟨w.heap.size, 0, none⟩) 1 [.int .i64 r.a, .int .i64 r.b, .int .i64 r.c] := by
  refine ⟨rfl, fun h => ⟨w.heap.size, 0, rfl, fun k hk => ?_⟩⟩
  have hb := Blk.new w 136 #[.int .i64 r.a, .int .i64 r.b, .int .i64 r.c]
  have hk3 : k < 3 := hk
  rcases k with _ | _ | _ | k
  · exact hb.cell 0
  · exact hb.cell 1
  · exact hb.cell 2
  · omega
theorem cells3_more (xs : List R3) (r : R3) : cells3 xs ++ [.int .i64 r.a, .int .i64 r.b, .int .i64 r.c] = cells3 (xs ++ [r]) := by simp [cells3, R3.cells]
theorem Kb.set_up {b : Nat} {a W : World} (h : Kb b a W) {p : Addr} (hp : a.heap.size ≤ p.block) (u : Value) : Kb b a (W.setCell p u) :=
  ⟨h.os, h.tape, h.output, by simpa [World.setCell] using h.size, fun k hk hy => (Below.heap_setCell W p u k (by omega)).trans (h.block k hk hy)⟩
theorem Src.keepB {b : Nat} {A : Option Addr} {n c T : Nat} {W W' : World} (h : Src b A n c T W) (k : W'.heap[b]? = W.heap[b]?) : Src b A n c T W' := by
  obtain ⟨a, s, h1, h2, h3, h4⟩ := h
  exact ⟨a, s, h1, h2, h3, k.trans h4⟩
theorem Src.lt {b : Nat} {A : Option Addr} {n c T : Nat} {W : World} (h : Src b A n c T W) : b < W.heap.size := by
  obtain ⟨a, s, h1, h2, h3, h4⟩ := h
  exact h4.lt
theorem Src.grown' {b lo s n0 c0 : Nat} {e : TypeId} {E : Option Addr} {xs : List Value} {A : Option Addr} {n c T : Nat} {W W' : World} (h : Src b A n c T W) (ho : Own W lo e s E n0 c0 xs) (hb : b < lo) (hg : W.grownBy W' (blk E)) : Src b A n c T W' :=
  h.keepB (hg.block b h.lt (fun e => by have := ho.blk_ge b e.symm; omega))
/-- A machine of some size was drawn. -/
def DrewM (b : Nat) (A : Option Addr) (n c T : Nat) (sy st : Int) (w : World) (e : Ending) (w' : World) : Prop :=
  ∃ R rc rs, e = .returned (.agg #[.int .i64 sy, .int .i64 st, .slice R rs.length rc]) ∧ Own w' w.heap.size 136 3 R rs.length rc (cells3 rs) ∧ machB sy st rs = true ∧ Src b A n c T w' ∧ Kb b w w'
theorem drawn_valid {sy st a d c : Int} (ha0 : 0 ≤ a) (ha1 : a < sy) (hd : d = 0 ∨ d = 1) (hc0 : 0 ≤ c) (hc1 : c < st) : validRuleB sy st ⟨a, 2 * d - 1, c⟩ = true := by
  unfold validRuleB
  have h1 : inB a 0 (sy - 1) = true := (inB_iff _ _ _).2 (by omega)
  have h2 : inB c 0 (st - 1) = true := (inB_iff _ _ _).2 (by omega)
  rw [h1, h2]
  rcases hd with rfl | rfl <;> simp
theorem none_valid (sy st : Int) : validRuleB sy st ⟨0, 0, -1⟩ = true := by
  unfold validRuleB isRuleB; simp
set_option maxRecDepth 100000 in
set_option maxHeartbeats 8000000 in
theorem drawSize_any (b : Nat) (A : Option Addr) (n c T : Nat) (xs : List Int) (sy st : Int) (w : World) (hx : SB w A n xs) (hA : ∀ k, blk A = some k → k ≠ b) (hs : Src b A n c T w) (hb : b < w.heap.size) (hT : T ≤ 1000000) (hn : n ≤ 9223372036854775807) (h1 : 2 ≤ sy) (h2 : sy ≤ 6) (h3 : 1 ≤ st) (h4 : st ≤ 50) :
    Calls Tryd.prog 76 #[.pointer (some ⟨b, 0, none⟩), .int .i64 sy, .int .i64 st] w (DrewM b A n c (T + 3000) sy st w) := by
  have HX := Lib.hid hx
  have HA := Lib.hid hA
  have HSY := Lib.hid (⟨h1, h2, h3, h4⟩ : 2 ≤ sy ∧ sy ≤ 6 ∧ 1 ≤ st ∧ st ≤ 50)
  obtain ⟨N, hN⟩ : ∃ N : Nat, sy * st = (N : Int) := ⟨(sy * st).toNat, by have := Int.mul_nonneg (show 0 ≤ sy by omega) (show 0 ≤ st by omega); omega⟩
  have hN2 : N ≤ 300 := by have := Int.mul_le_mul h2 h4 (by omega) (by omega); omega
  have HN := Lib.hid hN
  have iN : IntKind.i64.wrap (sy * st) = (N : Int) := by rw [hN]; exact IntWalk.i64_in _ (by omega)
  obtain ⟨V, hW_⟩ : ∃ W, W = (w.alloc (.cells #[.int .i64 0, .int .i64 0, .slice none 0 0] 43)).alloc (.cells #[.int .i64 sy, .int .i64 st, .slice none 0 0] 43) := ⟨_, rfl⟩
  have s_1 : (w.alloc (.cells #[.int .i64 0, .int .i64 0, .slice none 0 0] 43)).heap.size = w.heap.size + 1 := by simp
  have c0 : Blk V w.heap.size 43 #[.int .i64 0, .int .i64 0, .slice none 0 0] := by rw [hW_]; exact (Blk.new w _ _).alloc _
  have c1 : Blk V (w.heap.size + 1) 43 #[.int .i64 sy, .int .i64 st, .slice none 0 0] := by rw [hW_, ← s_1]; exact Blk.new _ _ _
  have y0 : Below w.heap.size w V := by rw [hW_]; exact ((Below.refl _ _).alloc (Nat.le_refl _) _).alloc (by simp) _
  have HV := Lib.hid hW_
  clear hW_ s_1
  have HS0 := Lib.hid (hs.below y0)
  have HK0 : Hid (Kb b w V) := Lib.hid (Kb.of_below y0)
  have HC0 := Lib.hid c0
  clear hx hA hs hN y0 c0
  go_enter Tryd.func76, Tryd.ntmps76
  go_upto_region 2 with fail
  rw [← HV.out]
  go_wp2_with fail
  go_loopw [8] (fun i wr => ∃ (j : Nat) (R : Option Addr) (rc : Nat) (rs : List R3), j ≤ N ∧ i = .int .i64 (j : Int) ∧ Hid (rs.length + j = N) ∧ Hid (Blk wr (w.heap.size + 1) 43 #[.int .i64 sy, .int .i64 st, .slice R rs.length rc]) ∧ Hid (Own wr w.heap.size 136 3 R rs.length rc (cells3 rs)) ∧ Hid (∀ r ∈ rs, validRuleB sy st r = true) ∧ Hid (Src b A n c (T + 8 * rs.length) wr) ∧ Hid (Kb b w wr) ∧ Hid (Blk wr w.heap.size 43 #[.int .i64 0, .int .i64 0, .slice none 0 0])) (fun i _ => (intOf i).toNat)
  case atStart => exact ⟨N, none, 0, [], Nat.le_refl _, rfl, Lib.hid (by simp), Lib.hid c1, Lib.hid Own.nil, Lib.hid (by simp), HS0, HK0, HC0⟩
  case round =>
    obtain ⟨j, R, rc, rs, hj, rfl, HL, HB, HO, HV, HS, HK, HC⟩ := hrel
    rename World => W0
    clear c1 HS0 HK0 HC0 iN
    have hrl : rs.length ≤ 300 := by have := HL.out; omega
    by_cases hj0 : 0 < j
    · have HX0 := Lib.hid (HX.out.kb HK.out HA.out)
      go_wp2_with fail
      refine (pick_any b A n c (T + 8 * rs.length) xs sy _ HX0.out HA.out HS.out (by omega) hn (by omega) (by omega)).mono ?_
      rintro e1 w1 ⟨x1, rfl, hx10, hx11, hs1, hk1⟩
      have HX1 := Lib.hid (HX0.out.kb hk1 HA.out)
      go_wp2_with fail
      refine (pick_any b A n c (T + 8 * rs.length + 2) xs 2 _ HX1.out HA.out hs1 (by omega) hn (by omega) (by omega)).mono ?_
      rintro e2 w2 ⟨x2, rfl, hx20, hx21, hs2, hk2⟩
      have HX2 := Lib.hid (HX1.out.kb hk2 HA.out)
      go_wp2_with fail
      refine (pick_any b A n c (T + 8 * rs.length + 2 + 2) xs st _ HX2.out HA.out hs2 (by omega) hn (by omega) (by omega)).mono ?_
      rintro e3 w3 ⟨x3, rfl, hx30, hx31, hs3, hk3⟩
      have HX3 := Lib.hid (HX2.out.kb hk3 HA.out)
      have hk03 := (hk1.trans hk2).trans hk3
      have HK03 := Lib.hid hk03
      have HVR : Hid (validRuleB sy st ⟨x1, 2 * x2 - 1, x3⟩ = true) := Lib.hid (drawn_valid hx10 (by omega) (by omega) hx30 (by omega))
      have HS3 := Lib.hid hs3
      have HMW : Hid (w.heap.size + 1 < W0.heap.size) := Lib.hid HB.out.lt
      have HSZ : Hid (W0.heap.size ≤ w3.heap.size) := Lib.hid HK03.out.size
      have HR3 : Hid (∀ x, blk R = some x → x < w3.heap.size) := Lib.hid (fun x hx => Nat.lt_of_lt_of_le (HO.out.blk_lt x hx) HK03.out.size)
      obtain ⟨W4, hW_⟩ : ∃ W_, W_ = w3.alloc (.cells #[.int .i64 x1, .int .i64 (2 * x2 - 1), .int .i64 x3] 136) := ⟨_, rfl⟩
      have b4 : Blk W4 w3.heap.size 136 #[.int .i64 x1, .int .i64 (2 * x2 - 1), .int .i64 x3] := by rw [hW_]; exact Blk.new w3 _ _
      have z4 : Below w3.heap.size w3 W4 := by rw [hW_]; exact (Below.refl _ _).alloc (Nat.le_refl _) _
      have HW4 := Lib.hid hW_
      clear hW_
      have HX4 := Lib.hid (HX3.out.below z4)
      have HS4 := Lib.hid (HS3.out.below z4)
      have HK04 := Lib.hid (HK03.out.trans (Kb.of_below z4))
      have HB4 := Lib.hid b4
      clear hs1 hs2 hs3 hk1 hk2 hk3 hk03 HX0 HX1 HX2 HX3 HS3 HK03 z4 b4
      go_upto_region 6 with fail
      rw [← HW4.out]
      go_wp2_with fail
      refine (one_any b A n c (T + 8 * rs.length + 2 + 2 + 2) xs 7 _ HX4.out HA.out HS4.out (by omega) hn (by omega) (by omega)).mono ?_
      rintro e6 w6 ⟨y, rfl, hs6, hk6⟩
      have HBR : Hid (b < w3.heap.size) := Lib.hid (by have := HSZ.out; have := HMW.out; omega)
      have HB6 := Lib.hid (hk6.blk_ HB4.out (by have := HBR.out; omega))
      have HK6 := Lib.hid (HK04.out.trans hk6)
      have HS6 := Lib.hid hs6
      clear hs6 hk6 HB4 HK04 HS4 HX4 HW4 hx10 hx11 hx20 hx21 hx30 hx31
      cases y
      rotate_left
      go_upto_region 8 with (go_at_call 93; refine (l05None_any _).mono ?_; rintro e w7 ⟨rfl, z7⟩; have hb7 := HB6.out.below' z7; have k0 : w7.cell? ⟨w3.heap.size, 0, none⟩ = some (.int .i64 x1) := hb7.cell 0; have k1 : w7.cell? ⟨w3.heap.size, 1, none⟩ = some (.int .i64 (2 * x2 - 1)) := hb7.cell 1; have k2 : w7.cell? ⟨w3.heap.size, 2, none⟩ = some (.int .i64 x3) := hb7.cell 2; have f0 := hb7.frozen 0; have f1 := hb7.frozen 1; have f2 := hb7.frozen 2)
      obtain ⟨V, hV⟩ : ∃ V, V = ((w7.setCell ⟨w3.heap.size, 0, none⟩ (.int .i64 0)).setCell ⟨w3.heap.size, 1, none⟩ (.int .i64 0)).setCell ⟨w3.heap.size, 2, none⟩ (.int .i64 (-1)) := ⟨_, rfl⟩
      rw [← hV]
      obtain ⟨r, hVr, hVB, hVS, hVK⟩ : ∃ r : R3, validRuleB sy st r = true ∧ Blk V w3.heap.size 136 #[.int .i64 r.a, .int .i64 r.b, .int .i64 r.c] ∧ Src b A n c (T + 8 * rs.length + 8) V ∧ Kb b W0 V := by
        have k : Kb w3.heap.size w7 V := by rw [hV]; exact (((Kb.refl _ _).set_ 0 _).set_ 1 _).set_ 2 _
        refine ⟨⟨0, 0, -1⟩, none_valid sy st, by rw [hV]; exact ((hb7.set_ 0 _).set_ 1 _).set_ 2 _, (HS6.out.below z7).keepB (k.block b (HS6.out.below z7).lt (by have := HBR.out; omega)), ?_⟩
        have h7 := HK6.out.trans (Kb.of_below (b := b) z7)
        have h3 := HSZ.out
        rw [hV]
        exact ((h7.set_up (p := ⟨w3.heap.size, 0, none⟩) h3 _).set_up (p := ⟨w3.heap.size, 1, none⟩) h3 _).set_up (p := ⟨w3.heap.size, 2, none⟩) h3 _
      clear hV hb7 k0 k1 k2 f0 f1 f2 z7 HB6 HK6 HS6
      rotate_left
      go_upto_region 8 with fail
      obtain ⟨V, hV⟩ : ∃ V, V = w6 := ⟨_, rfl⟩
      rw [← hV] at HB6 HK6 HS6 ⊢
      obtain ⟨r, hVr, hVB, hVS, hVK⟩ : ∃ r : R3, validRuleB sy st r = true ∧ Blk V w3.heap.size 136 #[.int .i64 r.a, .int .i64 r.b, .int .i64 r.c] ∧ Src b A n c (T + 8 * rs.length + 8) V ∧ Kb b W0 V :=
        ⟨⟨x1, 2 * x2 - 1, x3⟩, HVR.out, HB6.out, HS6.out, HK6.out⟩
      clear hV HB6 HK6 HS6
      all_goals
        have hBV := hVK.blk_ HB.out (by omega)
        have hOV := hVK.own' HO.out hb
        have hCV := hVK.blk_ HC.out (by omega)
        have HKV := Lib.hid (HK.out.trans hVK)
        have HCV := Lib.hid hCV
        have HSV := Lib.hid hVS
        have HVr := Lib.hid hVr
        have HBV := Lib.hid hBV
        have u0 : V.cell? ⟨(w.heap.size + 1), 0, none⟩ = some (.int .i64 sy) := hBV.cell 0
        have u1 : V.cell? ⟨(w.heap.size + 1), 1, none⟩ = some (.int .i64 st) := hBV.cell 1
        have u2 : V.cell? ⟨(w.heap.size + 1), 2, none⟩ = some (.slice R rs.length rc) := hBV.cell 2
        have v0 : V.cell? ⟨w3.heap.size, 0, none⟩ = some (.int .i64 r.a) := hVB.cell 0
        have v1 : V.cell? ⟨w3.heap.size, 1, none⟩ = some (.int .i64 r.b) := hVB.cell 1
        have v2 : V.cell? ⟨w3.heap.size, 2, none⟩ = some (.int .i64 r.c) := hVB.cell 2
        have hVW : w.heap.size ≤ V.heap.size := by have := hBV.lt; omega
        clear hVK hVS hVr hCV hBV hVB
        go_wp2_with (at_builtin; refine wpList_append_Own rfl (.tmp 35) (.tmp 37) rfl elR (lo := w.heap.size) rfl (hOV.alloc _) rfl (rd_rule3 V r) (by simp [Value.oneCell']) (by omega) (by simp only [maxLen]; omega) (by simp; omega) ?_; intro A5 c5 W5 o5 hg5 hw5; have hB5 : Blk W5 (w.heap.size + 1) 43 #[.int .i64 sy, .int .i64 st, .slice R rs.length rc] := Blk.growt (HBV.out.alloc _) (hOV.alloc _) hg5 (by decide); have m2 : W5.cell? ⟨w.heap.size + 1, 2, none⟩ = some (.slice R rs.length rc) := hB5.cell 2; have f2 := hB5.frozen 2)
        obtain ⟨W6, hW6⟩ : ∃ W6, W6 = W5.setCell ⟨w.heap.size + 1, 2, none⟩ (.slice A5 (rs.length + 1) c5) := ⟨_, rfl⟩
        rw [← hW6]
        have k6 : Kb (w.heap.size + 1) W5 W6 := by rw [hW6]; exact (Kb.refl _ _).set_ 2 _
        have hB6 : Blk W6 (w.heap.size + 1) 43 #[.int .i64 sy, .int .i64 st, .slice A5 (rs.length + 1) c5] := by rw [hW6]; exact hB5.set_ 2 _
        have hO6 : Own W6 w.heap.size 136 3 A5 (rs.length + 1) c5 (cells3 (rs ++ [r])) := k6.own (by rw [← cells3_more]; exact o5) (Blk.aptt hB5 o5 (by decide))
        have hS5 : Src b A n c (T + 8 * rs.length + 8) W5 := (HSV.out.alloc _).grown' (hOV.alloc _) hb hg5
        have hS6 : Src b A n c (T + 8 * rs.length + 8) W6 := hS5.keepB (k6.block b hS5.lt (by omega))
        have hK6 : Kb b w W6 := by rw [hW6]; exact ((HKV.out.alloc _).grown (hOV.alloc _) (Nat.le_refl _) hg5).set_up (p := ⟨w.heap.size + 1, 2, none⟩) (Nat.le_succ _) _
        have hC6 : Blk W6 w.heap.size 43 #[.int .i64 0, .int .i64 0, .slice none 0 0] := k6.blk_ (Blk.growt (HCV.out.alloc _) (hOV.alloc _) hg5 (by decide)) (by omega)
        have hlen : (rs ++ [r]).length = rs.length + 1 := by simp
        exact ⟨⟨j - 1, A5, c5, rs ++ [r], by omega, by go_num, Lib.hid (by rw [hlen]; have := HL.out; omega), by rw [hlen]; exact Lib.hid hB6, by rw [hlen]; exact Lib.hid hO6, Lib.hid (fun x hx => by
          rcases List.mem_append.1 hx with h | h
          · exact HV.out x h
          · rw [List.mem_singleton.1 h]; exact HVr.out), Lib.hid (by rw [hlen]; exact hS6.le (by omega)), Lib.hid hK6, Lib.hid hC6⟩, by simp [intOf]; omega⟩
    · obtain rfl : j = 0 := by omega
      have hB := HB.out
      have u0 : W0.cell? ⟨(w.heap.size + 1), 0, none⟩ = some (.int .i64 sy) := hB.cell 0
      have u1 : W0.cell? ⟨(w.heap.size + 1), 1, none⟩ = some (.int .i64 st) := hB.cell 1
      have u2 : W0.cell? ⟨(w.heap.size + 1), 2, none⟩ = some (.slice R rs.length rc) := hB.cell 2
      have hC := HC.out
      have v0 : W0.cell? ⟨w.heap.size, 0, none⟩ = some (.int .i64 0) := hC.cell 0
      have v1 : W0.cell? ⟨w.heap.size, 1, none⟩ = some (.int .i64 0) := hC.cell 1
      have v2 : W0.cell? ⟨w.heap.size, 2, none⟩ = some (.slice none 0 0) := hC.cell 2
      have f0 := hC.frozen 0
      have f1 := hC.frozen 1
      have f2 := hC.frozen 2
      have HD := Lib.hid (((hC.set_ 0 (.int .i64 sy)).set_ 1 (.int .i64 st)).set_ 2 (.slice R rs.length rc))
      have HDR : Hid (DrewM b A n c (T + 3000) sy st w (.returned (.agg #[.int .i64 sy, .int .i64 st, .slice R rs.length rc])) (((W0.setCell ⟨w.heap.size, 0, none⟩ (.int .i64 sy)).setCell ⟨w.heap.size, 1, none⟩ (.int .i64 st)).setCell ⟨w.heap.size, 2, none⟩ (.slice R rs.length rc))) := Lib.hid (by
        have k : Kb w.heap.size W0 (((W0.setCell ⟨w.heap.size, 0, none⟩ (.int .i64 sy)).setCell ⟨w.heap.size, 1, none⟩ (.int .i64 st)).setCell ⟨w.heap.size, 2, none⟩ (.slice R rs.length rc)) := (((Kb.refl _ _).set_ 0 _).set_ 1 _).set_ 2 _
        have hm : machB sy st rs = true := by
          obtain ⟨a1, a2, a3, a4⟩ := HSY.out
          unfold machB
          have e1 : (rs.length : Int) = st * sy := by rw [Int.mul_comm, HN.out]; have := HL.out; omega
          rw [(inB_iff _ _ _).2 ⟨a1, a2⟩, (inB_iff _ _ _).2 ⟨a3, by omega⟩, decide_eq_true e1, List.all_eq_true.2 HV.out]; rfl
        refine ⟨R, rc, rs, rfl, ?_, hm, ?_, ?_⟩
        · exact k.own HO.out (Blk.aptt hC HO.out (by decide))
        · exact (HS.out.keepB (k.block b HS.out.lt (by omega))).le (by have := HL.out; omega)
        · exact ((HK.out.set_up (p := ⟨w.heap.size, 0, none⟩) (Nat.le_refl _) _).set_up (p := ⟨w.heap.size, 1, none⟩) (Nat.le_refl _) _).set_up (p := ⟨w.heap.size, 2, none⟩) (Nat.le_refl _) _)
      clear hC hB
      go_wp2_with fail
      have d1 := HD.out
      exact bodyPost_ret (v := .agg #[.int .i64 sy, .int .i64 st, .slice R rs.length rc]) (by simp [results, Tryd.results76, go_sem, d1.cell 0, d1.cell 1, d1.cell 2]) rfl HDR.out
end Go.Proofs.YtokglpdlhacnaaaDoor

/-
  The first row with a property. No program is in sight.
-/
namespace Go.Proofs.YtokglpdlhacnaaaDoor
open Go.RowKit

def firstB (p : List Int → Bool) (xss : List (List Int)) : Int := match xss.findIdx? p with | some k => k | none => -1
theorem firstB_at {p : List Int → Bool} {ts : List Sl} {t : Sl} {k : Nat} (hT : ts[k]? = some t) (h : p t.xs = true) (he : ((nums ts).take k).any p = false) : (k : Int) = firstB p (nums ts) := by
  unfold firstB
  obtain ⟨hk, rfl⟩ := List.getElem?_eq_some_iff.1 hT
  have : (nums ts).findIdx? p = some k := by
    rw [List.findIdx?_eq_some_iff_getElem]
    refine ⟨by simpa [nums] using hk, by simpa [nums] using h, fun j hj => ?_⟩
    rw [List.any_eq_false] at he
    have := he ((nums ts)[j]'(by simp [nums]; omega)) (by rw [List.mem_take_iff_getElem]; exact ⟨j, by simp [nums]; omega, rfl⟩)
    simpa using this
  rw [this]
theorem firstB_none {p : List Int → Bool} {ts : List Sl} {k n : Nat} (hk : n ≤ k) (hl : ts.length = n) (he : ((nums ts).take k).any p = false) : -1 = firstB p (nums ts) := by
  unfold firstB
  rw [List.take_of_length_le (by simp [nums]; omega)] at he
  have : (nums ts).findIdx? p = none := by
    rw [List.findIdx?_eq_none_iff]
    intro x hx
    rw [List.any_eq_false] at he
    simpa using he x hx
  rw [this]
theorem firstB_next {p : List Int → Bool} {ts : List Sl} {t : Sl} {k : Nat} (hT : ts[k]? = some t) (h : p t.xs = false) (he : ((nums ts).take k).any p = false) : ((nums ts).take (k + 1)).any p = false := by
  obtain ⟨hk, rfl⟩ := List.getElem?_eq_some_iff.1 hT
  rw [List.take_succ_eq_append_getElem (by simpa [nums] using hk), List.any_append, he]
  simpa [nums] using h
theorem firstB_ge (p : List Int → Bool) (xss : List (List Int)) : decide (0 ≤ firstB p xss) = xss.any p := by
  unfold firstB
  cases h : xss.findIdx? p with
  | some k =>
    obtain ⟨hk, hp, _⟩ := List.findIdx?_eq_some_iff_getElem.1 h
    have : xss.any p = true := List.any_eq_true.2 ⟨_, List.getElem_mem hk, hp⟩
    rw [this]; simp
  | none =>
    have : xss.any p = false := by rw [List.any_eq_false]; intro x hx; simpa using List.findIdx?_eq_none_iff.1 h x hx
    rw [this]; simp
end Go.Proofs.YtokglpdlhacnaaaDoor

/-
  Contracts of impl's checks of words and proofs: isLetters, IsWord, areWords, ValidProof, proofOf, afterSteps, CheckHalt.
-/
namespace Go.Proofs.YtokglpdlhacnaaaDoor
open Go.RowKit

/-- A word. -/
def isWordB (xs : List Int) : Bool := decide (xs.length ≤ 400) && allIn xs 0 9
def areWordsB (xss : List (List Int)) : Bool := xss.all isWordB
theorem areWordsB_not (xss : List (List Int)) : (!xss.any (fun xs => !isWordB xs)) = areWordsB xss := by
  unfold areWordsB; rw [List.not_any_eq_all_not]; simp

/-- A valid proof. -/
def validProofB (q : Int) (xs : List Int) (xss : List (List Int)) : Bool := inB q 1 8 && decide (xs.length ≤ 300) && decide (xss.length ≤ 300) && allIn xs (-1000000000000) 1000000000000 && areWordsB xss

/-- A machine and a proof of a kind, with so many numbers and no words. -/
def proofOfB (sy st : Int) (rs : List R3) (q : Int) (xs : List Int) (xss : List (List Int)) (kd : Int) (nn : Nat) : Bool :=
  machB sy st rs && validProofB q xs xss && decide (q = kd) && decide (xs.length = nn) && decide (xss.length = 0)

theorem Alive.mono {sy : Int} {rs : List R3} {c : Conf} {i j : Nat} (h : Alive sy rs c j) (hij : i ≤ j) : Alive sy rs c i := fun k hk => h k (by omega)
theorem not_alive_ended {sy : Int} {rs : List R3} {c : Conf} {N i : Nat} (h : Ended sy rs c N i) (hne : ¬ i = N) : ¬ Alive sy rs c N := by
  intro ha
  obtain ⟨h1, h2, h3⟩ := h
  rcases h3 with h3 | h3
  · exact hne h3
  · have h4 := (ha i (by omega)).1
    rw [h3] at h4; cases h4
theorem not_alive_full {sy : Int} {rs : List R3} {c : Conf} {N i : Nat} (h : Full sy rs c N i) : ¬ Alive sy rs c N := by
  intro ha
  obtain ⟨h1, h2, h3, h4⟩ := h
  have h5 := (ha i h1).2
  rw [h4] at h5; cases h5

/-- Whether N steps can be made. -/
def aliveB (sy : Int) (rs : List R3) (c : Conf) (N : Nat) : Bool := decide (runN sy rs N c = some N)
theorem aliveB_true {sy : Int} {rs : List R3} {c : Conf} {N : Nat} (h : Alive sy rs c N) : aliveB sy rs c N = true := by
  unfold aliveB; rw [runN_ended ⟨Nat.le_refl _, h, .inl rfl⟩]; simp
theorem aliveB_false {sy : Int} {rs : List R3} {c : Conf} {N : Nat} (h : ¬ Alive sy rs c N) : aliveB sy rs c N = false := by
  unfold aliveB
  rw [decide_eq_false_iff_not]
  exact fun h1 => h (runN_alive h1)
/-- What CheckHalt returns. -/
def checkHaltF (sy st : Int) (rs : List R3) (q : Int) (xs : List Int) (xss : List (List Int)) : Bool :=
  proofOfB sy st rs q xs xss 1 1 && inB (xs.headD 0) 0 20000 && aliveB sy rs blankC (xs.headD 0).toNat && haltC sy rs (itC sy rs blankC (xs.headD 0).toNat)
theorem proofOf_parts {sy st : Int} {rs : List R3} {q : Int} {xs : List Int} {xss : List (List Int)} {kd : Int} {nn : Nat} (h : proofOfB sy st rs q xs xss kd nn = true) : goodC sy st rs blankC ∧ xs.length = nn := by
  unfold proofOfB at h
  simp only [Bool.and_eq_true, decide_eq_true_eq] at h
  exact ⟨by show validConfB sy st rs 0 [] [] = true; rw [blank_good]; exact h.1.1.1.1, h.1.2⟩

end Go.Proofs.YtokglpdlhacnaaaDoor

/-
  Contracts of the reference's checks of words and proofs: l03Is, l03All, l25Is, l25Form, l25Blank, l25Side, l25After, CheckHalt.
-/
namespace Go.Proofs.YtokglpdlhacnaaaDoor
open Go.RowKit

theorem isWord_out {xs : List Int} {k n : Nat} (hk : k < n) (hl : xs.length = n) (h : (!inB (xs[k]'(by omega)) 0 9) = true) : false = isWordB xs := by
  have := allIn_at hk hl h
  unfold isWordB; rw [← this]; simp
theorem isWord_end {xs : List Int} {k n : Nat} (hk : n ≤ k) (hl : xs.length = n) (he : allIn (xs.take k) 0 9 = true) : decide ((n : Int) ≤ 400) = isWordB xs := by
  have := allIn_end hk hl he
  unfold isWordB; rw [← this, hl]; simp; omega

theorem areWords_not {ts : List Sl} {t : Sl} {k : Nat} (hT : ts[k]? = some t) (h : (!isWordB t.xs) = true) : false = areWordsB (nums ts) := by
  symm
  unfold areWordsB; rw [List.all_eq_false]
  exact ⟨t.xs, by simp only [nums, List.mem_map]; exact ⟨t, List.mem_of_getElem? hT, rfl⟩, by simpa using h⟩
theorem areWords_next {ts : List Sl} {t : Sl} {k : Nat} (hT : ts[k]? = some t) (h : (!isWordB t.xs) = false) (he : areWordsB ((nums ts).take k) = true) : areWordsB ((nums ts).take (k + 1)) = true := by
  obtain ⟨hk, rfl⟩ := List.getElem?_eq_some_iff.1 hT
  unfold areWordsB at he ⊢
  rw [List.take_succ_eq_append_getElem (by simpa [nums] using hk), List.all_append, he]
  simpa [nums] using h
theorem areWords_end {ts : List Sl} {k n : Nat} (hk : n ≤ k) (hl : ts.length = n) (he : areWordsB ((nums ts).take k) = true) : true = areWordsB (nums ts) := by
  rw [List.take_of_length_le (by simp [nums]; omega)] at he; exact he.symm

/-- A proof behind a pointer. -/
def PrfAt (w : World) (g : Nat) (q : Int) (A : Option Addr) (n c : Nat) (B : Option Addr) (m d : Nat) : Prop :=
  w.cell? ⟨g, 0, none⟩ = some (.int .i64 q) ∧ w.cell? ⟨g, 1, none⟩ = some (.slice A n c) ∧ w.cell? ⟨g, 2, none⟩ = some (.slice B m d)
theorem PrfAt.below {w w' : World} {g : Nat} {q : Int} {A : Option Addr} {n c : Nat} {B : Option Addr} {m d : Nat} (h : PrfAt w g q A n c B m d) (hb : Below w.heap.size w w') : PrfAt w' g q A n c B m d := by
  have hlt : g < w.heap.size := World.block_lt_of_cell? w _ h.1
  exact ⟨(hb.cell (p := ⟨g, 0, none⟩) hlt).trans h.1, (hb.cell (p := ⟨g, 1, none⟩) hlt).trans h.2.1, (hb.cell (p := ⟨g, 2, none⟩) hlt).trans h.2.2⟩
theorem Blk.prfAt {w : World} {g : Nat} {t : TypeId} {q : Int} {A : Option Addr} {n c : Nat} {B : Option Addr} {m d : Nat} (h : Blk w g t #[.int .i64 q, .slice A n c, .slice B m d]) : PrfAt w g q A n c B m d := ⟨h.cell 0, h.cell 1, h.cell 2⟩

def formB (q : Int) (xs : List Int) (xss : List (List Int)) (kd : Int) (nn : Nat) : Bool := validProofB q xs xss && decide (q = kd) && decide (xs.length = nn) && decide (xss.length = 0)
theorem formB_eq (sy st : Int) (rs : List R3) (q : Int) (xs : List Int) (xss : List (List Int)) (kd : Int) (nn : Nat) : proofOfB sy st rs q xs xss kd nn = (machB sy st rs && formB q xs xss kd nn) := by
  unfold proofOfB formB; simp only [Bool.and_assoc]

/-- The configuration behind N steps, and whether they can be made. -/
def AfterS (w : World) (sy : Int) (rs : List R3) (c : Conf) (N : Nat) (e : Ending) (w' : World) : Prop :=
  ∃ (v : Bool) (x : Int) (cf : Conf) (L : Option Addr) (a : Nat) (R : Option Addr) (d : Nat), e = .returned (.tuple #[.agg #[.int .i64 cf.q, .slice L cf.xs.length a, .slice R cf.ys.length d], .int .i64 x, .bool v]) ∧ (v = true → Alive sy rs c N ∧ cf = itC sy rs c N) ∧ (v = false → ¬ Alive sy rs c N) ∧
    Own w' w.heap.size 2 1 L cf.xs.length a (ints cf.xs) ∧ Own w' w.heap.size 2 1 R cf.ys.length d (ints cf.ys) ∧ (∀ b, blk L = some b → blk R ≠ some b) ∧ Below w.heap.size w w'
theorem not_alive_halt {sy : Int} {rs : List R3} {c : Conf} {N i : Nat} (h : i < N) (hh : haltC sy rs (itC sy rs c i) = true) : ¬ Alive sy rs c N := fun ha => by
  have := (ha i h).1; rw [hh] at this; cases this
theorem not_alive_room {sy : Int} {rs : List R3} {c : Conf} {N i : Nat} (h : i < N) (hh : roomC (nextC sy rs (itC sy rs c i)) = false) : ¬ Alive sy rs c N := fun ha => by
  have h1 : roomC (nextC sy rs (itC sy rs c i)) = true := (ha i h).2
  rw [hh] at h1; cases h1

/-- What l25After returned, in a box. -/
def AfterBox (W : World) (sy : Int) (rs : List R3) (N : Nat) (s5 s6 s7 : Value) (wx : World) : Prop :=
  ∃ g v x cf, s5 = .pointer (some ⟨g, 0, none⟩) ∧ s6 = .int .i64 x ∧ s7 = .bool v ∧ ConfC wx W.heap.size g cf ∧ (v = true → Alive sy rs blankC N ∧ cf = itC sy rs blankC N) ∧ (v = false → ¬ Alive sy rs blankC N) ∧ Below W.heap.size W wx
theorem MachAt.alloc {w : World} {g : Nat} {sy st : Int} {A : Option Addr} {n k : Nat} (h : MachAt w g sy st A n k) (o : Obj) : MachAt (w.alloc o) g sy st A n k := h.below ((Below.refl _ _).alloc (Nat.le_refl _) o)
theorem ConfC.new {W w : World} {q : Int} {xs ys : List Int} {L R : Option Addr} {a d : Nat} (oL : Own w W.heap.size 2 1 L xs.length a (ints xs)) (oR : Own w W.heap.size 2 1 R ys.length d (ints ys)) (hap : ∀ b, blk L = some b → blk R ≠ some b) :
    ConfC (w.alloc (.cells #[.int .i64 q, .slice L xs.length a, .slice R ys.length d] 68)) W.heap.size w.heap.size ⟨q, xs, ys⟩ := ⟨L, a, R, d, Blk.new w _ _, oL.alloc _, oR.alloc _, hap⟩

end Go.Proofs.YtokglpdlhacnaaaDoor

/-
  Contracts of impl.StartConfig and spec.StartConfig: both return what startF says.
-/
namespace Go.Proofs.YtokglpdlhacnaaaDoor
open Go.RowKit

/-- What StartConfig returns. -/
def startF (sy st : Int) (rs : List R3) (xs : List Int) : Conf × Int :=
  if machB sy st rs && isWordB xs then
    if allIn xs 0 (sy - 1) then
      if (trimI xs).length ≤ 200 then (⟨0, [], trimI xs⟩, 0) else (⟨0, [], []⟩, 5)
    else (⟨0, [], []⟩, 2)
  else (⟨0, [], []⟩, 1)
theorem trim_take (xs : List Int) : ∃ k, k ≤ xs.length ∧ trimI xs = xs.take k := by
  unfold trimI
  have h : (xs.reverse.dropWhile (· == 0)) <:+ xs.reverse := List.dropWhile_suffix _
  obtain ⟨t, ht⟩ := h
  refine ⟨(xs.reverse.dropWhile (· == 0)).length, ?_, ?_⟩
  · have := congrArg List.length ht; simp at this; omega
  · have h2 : xs = (xs.reverse.dropWhile (· == 0)).reverse ++ t.reverse := by
      have := congrArg List.reverse ht
      simpa using this.symm
    conv => rhs; arg 2; rw [h2]
    rw [List.take_left' (by simp)]

theorem allWithin_is {xs : List Int} {lo hi : Int} {v : Bool} (h : allIn xs lo hi = v) (A : Option Addr) (n c : Nat) (w : World) (hx : SI w A n xs) (hn : n ≤ 9223372036854775807) :
    Calls Tryd.prog 50 #[.slice A n c, .int .i64 lo, .int .i64 hi] w fun e w' => e = .returned (.bool v) ∧ w = w' := h ▸ allWithin_any A n c xs lo hi w hx hn
theorem own_trim {w : World} {lo n c : Nat} {A : Option Addr} {xs : List Int} (h : Own w lo 2 1 A n c (ints xs)) : Own w lo 2 1 A (trimI xs).length c (ints (trimI xs)) := by
  obtain ⟨k, hk, e⟩ := trim_take xs
  have hl : xs.length = n := h.asI.len
  have h1 := h.upto (j := k) (by omega)
  rw [ints_take] at h1
  have h2 : (trimI xs).length = k := by rw [e, List.length_take]; omega
  rw [h2, e]
  exact h1
theorem startF_bad {sy st : Int} {rs : List R3} {xs : List Int} (h : (machB sy st rs && isWordB xs) = false) : startF sy st rs xs = (⟨0, [], []⟩, 1) := by unfold startF; rw [h]; rfl
theorem startF_out {sy st : Int} {rs : List R3} {xs : List Int} (h : machB sy st rs = true) (h1 : isWordB xs = true) (h2 : allIn xs 0 (sy - 1) = false) : startF sy st rs xs = (⟨0, [], []⟩, 2) := by unfold startF; rw [h, h1, h2]; rfl
theorem startF_full {sy st : Int} {rs : List R3} {xs : List Int} (h : machB sy st rs = true) (h1 : isWordB xs = true) (h2 : allIn xs 0 (sy - 1) = true) (h3 : ¬ (trimI xs).length ≤ 200) : startF sy st rs xs = (⟨0, [], []⟩, 5) := by unfold startF; rw [h, h1, h2]; simp [h3]
theorem startF_ok {sy st : Int} {rs : List R3} {xs : List Int} (h : machB sy st rs = true) (h1 : isWordB xs = true) (h2 : allIn xs 0 (sy - 1) = true) (h3 : (trimI xs).length ≤ 200) : startF sy st rs xs = (⟨0, [], trimI xs⟩, 0) := by unfold startF; rw [h, h1, h2]; simp [h3]
theorem trim_good2 (xs : List Int) : trimI xs = [] ∨ lastI (trimI xs) ≠ 0 := by
  unfold trimI lastI
  cases h : xs.reverse.dropWhile (· == 0) with
  | nil => left; rfl
  | cons a t =>
    right
    have h2 : (a == 0) = false := by
      have := List.head?_dropWhile_not (· == 0) xs.reverse
      rw [h] at this
      simpa using this
    simpa using h2
theorem startF_good {sy st : Int} {rs : List R3} {xs : List Int} (h : (startF sy st rs xs).2 = 0) : goodC sy st rs (startF sy st rs xs).1 := by
  unfold startF at h ⊢
  split at h
  · rename_i h0
    simp only [Bool.and_eq_true] at h0
    split at h
    · rename_i h1
      split at h
      · rename_i h2
        rw [if_pos (by simp [h0.1, h0.2]), if_pos h1, if_pos h2]
        obtain ⟨p1, p2, p3, p4, _, _⟩ := machB_parts h0.1
        have hin : ∀ y ∈ trimI xs, 0 ≤ y ∧ y ≤ sy - 1 := by
          obtain ⟨k, hk, e⟩ := trim_take xs
          rw [e]
          intro y hy
          have := List.mem_of_mem_take hy
          unfold allIn at h1
          rw [List.all_eq_true] at h1
          exact (inB_iff _ _ _).1 (h1 y this)
        have hs := side_of (sy := sy) h2 hin (trim_good2 xs)
        have hs0 := side_of (sy := sy) (xs := []) (by simp) (by simp) (.inl rfl)
        show validConfB sy st rs 0 [] (trimI xs) = true
        unfold validConfB confB
        rw [h0.1, hs, hs0]
        simp [inB]; omega
      · cases h
    · cases h
  · cases h

end Go.Proofs.YtokglpdlhacnaaaDoor
