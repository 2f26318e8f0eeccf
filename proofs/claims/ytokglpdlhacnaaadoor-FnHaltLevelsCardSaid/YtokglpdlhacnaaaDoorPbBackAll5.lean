/-
  The program's predecessor of a partial configuration by a rule.
-/
import Derived.Test.YtokglpdlhacnaaaDoorPbBackAll0
import Derived.Test.YtokglpdlhacnaaaDoorPbBackAll1
import Derived.Test.YtokglpdlhacnaaaDoorPbBackAll4
import Derived.Lib.Itoa
import Derived.Lib.ItoaNum
import Derived.Lib.SlBytesRow
import Derived.Deep.DeepCutAuto
import Derived.Test.YtokglpdlhacnaaaDoorShelf
import Derived.Lib.LaidTab
import Derived.Lib.Join
namespace Go.Proofs.YtokglpdlhacnaaaDoor
open Go.RowKit

def PredPost (w : World) (o : Option Pa) (e : Ending) (w' : World) : Prop :=
  (match o with
    | none => e = .returned (.tuple #[.agg #[.int .i64 0, .int .i64 0, .slice none 0 0], .bool false])
    | some y => ∃ A c, e = .returned (.tuple #[.agg #[.int .i64 y.q, .int .i64 y.at_, .slice A y.cs.length c], .bool true]) ∧ Own w' w.heap.size 2 1 A y.cs.length c (ints y.cs)) ∧ Below w.heap.size w w'
theorem part_set {w : World} {g : Nat} {a b c : Value} {t : TypeId} (h : Blk w g t #[a, b, c]) (x y z : Value) : Blk (((w.setCell ⟨g, 0, none⟩ x).setCell ⟨g, 1, none⟩ y).setCell ⟨g, 2, none⟩ z) g t #[x, y, z] := ((h.set_ 0 x).set_ 1 y).set_ 2 z
theorem part_below {w w' : World} {g lo : Nat} (h : Below lo w w') (hg : lo ≤ g) (x y z : Value) : Below lo w (((w'.setCell ⟨g, 0, none⟩ x).setCell ⟨g, 1, none⟩ y).setCell ⟨g, 2, none⟩ z) := ((h.setCell hg _).setCell hg _).setCell hg _
theorem part_own {w : World} {g lo n c : Nat} {A : Option Addr} {cs : List Value} {vs : Array Value} (hg : Blk w g 58 vs) (h : Own w lo 2 1 A n c cs) (x y z : Value) : Own (((w.setCell ⟨g, 0, none⟩ x).setCell ⟨g, 1, none⟩ y).setCell ⟨g, 2, none⟩ z) lo 2 1 A n c cs := by
  have hb : blk A ≠ some g := hg.apt h (by decide)
  exact ((h.far (p := ⟨g, 0, none⟩) hb _).far (p := ⟨g, 1, none⟩) hb _).far (p := ⟨g, 2, none⟩) hb _
theorem sii_two {w : World} {g : Nat} {t : TypeId} {A1 A2 : Option Addr} {n1 n2 c1 c2 : Nat} {xs1 xs2 : List Int} (h : Blk w g t #[.slice A1 n1 c1, .slice A2 n2 c2]) (h1 : SI w A1 n1 xs1) (h2 : SI w A2 n2 xs2) : SII w (some ⟨g, 0, none⟩) 2 [⟨A1, c1, xs1⟩, ⟨A2, c2, xs2⟩] := by
  have e1 := h1.len
  have e2 := h2.len
  subst e1 e2
  refine ⟨⟨rfl, fun _ => ⟨g, 0, rfl, fun k hk => ?_⟩⟩, fun t ht => ?_⟩
  · match k, hk with
    | 0, _ => exact h.cell 0
    | 1, _ => exact h.cell 1
  · rcases List.mem_cons.1 ht with rfl | ht
    · exact h1
    · rw [List.mem_singleton.1 ht]; exact h2
theorem pred_none {w wf : World} {o : Option Pa} (ho : o = none) (hz : Below w.heap.size w wf) : PredPost w o (.returned (.tuple #[.agg #[.int .i64 0, .int .i64 0, .slice none 0 0], .bool false])) wf := by
  subst ho; exact ⟨rfl, hz⟩
theorem pred_some {w wf : World} {o : Option Pa} {q a : Int} {A : Option Addr} {n c : Nat} {xs : List Int} (ho : o = some ⟨q, a, xs⟩) (hn : xs.length = n) (hO : Own wf w.heap.size 2 1 A n c (ints xs)) (hz : Below w.heap.size w wf) : PredPost w o (.returned (.tuple #[.agg #[.int .i64 q, .int .i64 a, .slice A n c], .bool true])) wf := by
  subst ho hn; exact ⟨⟨A, c, rfl, hO⟩, hz⟩
set_option maxRecDepth 100000 in
set_option maxHeartbeats 8000000 in
theorem predecessorI_any (q at_ : Int) (A : Option Addr) (n c : Nat) (xs : List Int) (p a : Int) (r : R3) (w : World) (hx : SI w A n xs) (hn : n ≤ 1000) (h0 : 0 ≤ at_) (h1 : at_ < (n : Int)) (hb : r.b = -1 ∨ r.b = 1) :
    Calls Tryd.prog 127 #[.agg #[.int .i64 q, .int .i64 at_, .slice A n c], .int .i64 p, .int .i64 a, .agg #[.int .i64 r.a, .int .i64 r.b, .int .i64 r.c]] w (PredPost w (predF ⟨q, at_, xs⟩ p a r)) := by
  have HL := Lib.hid hx.len
  obtain ⟨ra, rb, rc⟩ := r
  dsimp only at hb ⊢
  obtain ⟨C, hC⟩ : ∃ C : Int, C = at_ - rb := ⟨_, rfl⟩
  have HC := Lib.hid hC
  have hC1 : -1 ≤ C ∧ C ≤ n := by omega
  have w1 : IntKind.i64.wrap (at_ - rb) = C := by rw [IntWalk.i64_in _ (by omega)]; omega
  clear hC hb
  obtain ⟨V, hW_⟩ : ∃ W, W = ((w.alloc (.cells #[.int .i64 q, .int .i64 at_, .slice A n c] 58)).alloc (.cells #[.int .i64 ra, .int .i64 rb, .int .i64 rc] 136)).alloc (.cells #[.int .i64 0, .int .i64 0, .slice none 0 0] 58) := ⟨_, rfl⟩
  have s_1 : (w.alloc (.cells #[.int .i64 q, .int .i64 at_, .slice A n c] 58)).heap.size = w.heap.size + 1 := by simp
  have s_2 : ((w.alloc (.cells #[.int .i64 q, .int .i64 at_, .slice A n c] 58)).alloc (.cells #[.int .i64 ra, .int .i64 rb, .int .i64 rc] 136)).heap.size = w.heap.size + 1 + 1 := by simp
  have b0 : Blk V w.heap.size 58 #[.int .i64 q, .int .i64 at_, .slice A n c] := by rw [hW_]; exact ((Blk.new w _ _).alloc _).alloc _
  have b1 : Blk V (w.heap.size + 1) 136 #[.int .i64 ra, .int .i64 rb, .int .i64 rc] := by rw [hW_, ← s_1]; exact (Blk.new _ _ _).alloc _
  have b2 : Blk V (w.heap.size + 1 + 1) 58 #[.int .i64 0, .int .i64 0, .slice none 0 0] := by rw [hW_, ← s_2]; exact Blk.new _ _ _
  have y0 : Below w.heap.size w V := by rw [hW_]; exact (((Below.refl _ _).alloc (Nat.le_refl _) _).alloc (by simp) _).alloc (by simp; omega) _
  have HV := Lib.hid hW_
  clear hW_ s_1 s_2
  have q0 : V.cell? ⟨w.heap.size, 0, none⟩ = some (.int .i64 q) := b0.cell 0
  have q1 : V.cell? ⟨w.heap.size, 1, none⟩ = some (.int .i64 at_) := b0.cell 1
  have q2 : V.cell? ⟨w.heap.size, 2, none⟩ = some (.slice A n c) := b0.cell 2
  have u0 : V.cell? ⟨(w.heap.size + 1), 0, none⟩ = some (.int .i64 ra) := b1.cell 0
  have u1 : V.cell? ⟨(w.heap.size + 1), 1, none⟩ = some (.int .i64 rb) := b1.cell 1
  have u2 : V.cell? ⟨(w.heap.size + 1), 2, none⟩ = some (.int .i64 rc) := b1.cell 2
  have v0 : V.cell? ⟨(w.heap.size + 1 + 1), 0, none⟩ = some (.int .i64 0) := b2.cell 0
  have v1 : V.cell? ⟨(w.heap.size + 1 + 1), 1, none⟩ = some (.int .i64 0) := b2.cell 1
  have v2 : V.cell? ⟨(w.heap.size + 1 + 1), 2, none⟩ = some (.slice none 0 0) := b2.cell 2
  have f0 := b2.frozen 0
  have f1 := b2.frozen 1
  have f2 := b2.frozen 2
  have hg := b2.lt
  have HX := Lib.hid (hx.below y0)
  go_enter Tryd.func127, Tryd.ntmps127
  go_upto_region 2 with fail
  rw [← HV.out]
  clear HV w1
  by_cases hq : rc = q
  rotate_left
  · have HF : Hid (predF ⟨q, at_, xs⟩ p a ⟨ra, rb, rc⟩ = none) := Lib.hid (by unfold predF; rw [if_pos hq])
    go_wp2_with fail
    have d1 := part_set b2 (.int .i64 0) (.int .i64 0) (.slice none 0 0)
    exact bodyPost_ret (v := .tuple #[.agg #[.int .i64 0, .int .i64 0, .slice none 0 0], .bool false]) (by simp [results, Tryd.results127, go_sem, d1.cell 0, d1.cell 1, d1.cell 2]) rfl (pred_none HF.out (part_below y0 (by omega) _ _ _))
  subst hq
  by_cases hC0 : C < 0
  · have HF : Hid (predF ⟨rc, at_, xs⟩ p a ⟨ra, rb, rc⟩ = some ⟨p, 0, a :: xs⟩) := Lib.hid (by unfold predF; rw [if_neg (by simp), if_pos (by dsimp only; rw [← HC.out]; exact hC0)])
    have q2a : (V.alloc (.cells #[.int .i64 a] 2)).cell? ⟨w.heap.size, 2, none⟩ = some (.slice A n c) := (b0.alloc _).cell 2
    obtain ⟨W2, hW_⟩ : ∃ W, W = (V.alloc (.cells #[.int .i64 a] 2)).alloc (.cells #[.slice (some ⟨V.heap.size, 0, none⟩) 1 1, .slice A n c] 23) := ⟨_, rfl⟩
    have s_1 : (V.alloc (.cells #[.int .i64 a] 2)).heap.size = V.heap.size + 1 := by simp
    have c0 : Blk W2 V.heap.size 2 #[.int .i64 a] := by rw [hW_]; exact (Blk.new V _ _).alloc _
    have c1 : Blk W2 (V.heap.size + 1) 23 #[.slice (some ⟨V.heap.size, 0, none⟩) 1 1, .slice A n c] := by rw [hW_, ← s_1]; exact Blk.new _ _ _
    have y2 : Below V.heap.size V W2 := by rw [hW_]; exact ((Below.refl _ _).alloc (Nat.le_refl _) _).alloc (by simp) _
    have HW2 := Lib.hid hW_
    clear hW_ s_1
    have h2 : SI W2 (some ⟨V.heap.size, 0, none⟩) 1 [a] := ⟨rfl, fun _ => ⟨_, 0, rfl, fun k hk => by
      have hk0 : k = 0 := by simpa [ints] using hk
      subst hk0; exact c0.cell 0⟩⟩
    have hS := sii_two c1 h2 (HX.out.below y2)
    have HJ := Lib.hid (joinedI_any _ 2 2 _ W2 hS (by omega) (by simp; have := HL.out; omega))
    have B2 := Lib.hid (b2.below' y2)
    have Y2 := Lib.hid (y0.trans (y2.mono y0.size))
    clear hS h2 c0 c1 y2
    go_wp2_with fail
    rw [← HW2.out]
    refine HJ.out.mono ?_
    rintro e w3 ⟨A3, c3, rfl, o3, z3⟩
    have b3 := B2.out.below' z3
    have hfl : ([⟨some ⟨V.heap.size, 0, none⟩, 1, [a]⟩, ⟨A, c, xs⟩] : List Sl).flatMap Sl.xs = a :: xs := by simp
    rw [hfl] at o3 ⊢
    obtain ⟨N, hN⟩ : ∃ N, N = (a :: xs).length := ⟨_, rfl⟩
    rw [← hN] at o3 ⊢
    have HN := Lib.hid hN
    have Y3 := Lib.hid (Y2.out.trans (z3.mono Y2.out.size))
    have O3 := Lib.hid (part_own b3 o3 (.int .i64 p) (.int .i64 0) (.slice A3 N c3))
    have D3 := Lib.hid (part_set b3 (.int .i64 p) (.int .i64 0) (.slice A3 N c3))
    have HWS := Lib.hid Y2.out.size
    clear hN hfl q0 q1 q2 q2a u0 u1 u2 v0 v1 v2 f0 f1 f2 HJ o3 z3
    have v0 : w3.cell? ⟨(w.heap.size + 1 + 1), 0, none⟩ = some (.int .i64 0) := b3.cell 0
    have v1 : w3.cell? ⟨(w.heap.size + 1 + 1), 1, none⟩ = some (.int .i64 0) := b3.cell 1
    have v2 : w3.cell? ⟨(w.heap.size + 1 + 1), 2, none⟩ = some (.slice none 0 0) := b3.cell 2
    have f0 := b3.frozen 0
    have f1 := b3.frozen 1
    have f2 := b3.frozen 2
    go_wp2_with fail
    have d1 := D3.out
    exact bodyPost_ret (v := .tuple #[.agg #[.int .i64 p, .int .i64 0, .slice A3 N c3], .bool true]) (by simp [results, Tryd.results127, go_sem, d1.cell 0, d1.cell 1, d1.cell 2]) rfl (pred_some HF.out HN.out.symm (O3.out.mono HWS.out) (part_below Y3.out (by omega) _ _ _))
  obtain ⟨k, rfl⟩ : ∃ k : Nat, C = (k : Int) := ⟨C.toNat, by omega⟩
  by_cases hkn : k = n
  · subst hkn
    have HF : Hid (predF ⟨rc, at_, xs⟩ p a ⟨ra, rb, rc⟩ = some ⟨p, (k : Int), xs ++ [a]⟩) := Lib.hid (by
      unfold predF
      rw [if_neg (by simp), if_neg (by dsimp only; rw [← HC.out]; exact hC0), if_pos (by dsimp only; rw [← HC.out, HL.out])]
      dsimp only; rw [← HC.out])
    have q2a : (V.alloc (.cells #[.int .i64 a] 2)).cell? ⟨w.heap.size, 2, none⟩ = some (.slice A k c) := (b0.alloc _).cell 2
    obtain ⟨W2, hW_⟩ : ∃ W, W = (V.alloc (.cells #[.int .i64 a] 2)).alloc (.cells #[.slice A k c, .slice (some ⟨V.heap.size, 0, none⟩) 1 1] 23) := ⟨_, rfl⟩
    have s_1 : (V.alloc (.cells #[.int .i64 a] 2)).heap.size = V.heap.size + 1 := by simp
    have c0 : Blk W2 V.heap.size 2 #[.int .i64 a] := by rw [hW_]; exact (Blk.new V _ _).alloc _
    have c1 : Blk W2 (V.heap.size + 1) 23 #[.slice A k c, .slice (some ⟨V.heap.size, 0, none⟩) 1 1] := by rw [hW_, ← s_1]; exact Blk.new _ _ _
    have y2 : Below V.heap.size V W2 := by rw [hW_]; exact ((Below.refl _ _).alloc (Nat.le_refl _) _).alloc (by simp) _
    have HW2 := Lib.hid hW_
    clear hW_ s_1
    have h2 : SI W2 (some ⟨V.heap.size, 0, none⟩) 1 [a] := ⟨rfl, fun _ => ⟨_, 0, rfl, fun j hj => by
      have hj0 : j = 0 := by simpa [ints] using hj
      subst hj0; exact c0.cell 0⟩⟩
    have hS := sii_two c1 (HX.out.below y2) h2
    have HJ := Lib.hid (joinedI_any _ 2 2 _ W2 hS (by omega) (by simp; have := HL.out; omega))
    have B2 := Lib.hid (b2.below' y2)
    have Y2 := Lib.hid (y0.trans (y2.mono y0.size))
    clear hS h2 c0 c1 y2
    go_wp2_with (go_at_call 126; refine (sizeI_any _ _ _ _ (by omega)).mono ?_; rintro e w' ⟨rfl, rfl⟩)
    rw [← HW2.out]
    refine HJ.out.mono ?_
    rintro e w3 ⟨A3, c3, rfl, o3, z3⟩
    have b3 := B2.out.below' z3
    have hfl : ([⟨A, c, xs⟩, ⟨some ⟨V.heap.size, 0, none⟩, 1, [a]⟩] : List Sl).flatMap Sl.xs = xs ++ [a] := by simp
    rw [hfl] at o3 ⊢
    obtain ⟨N, hN⟩ : ∃ N, N = (xs ++ [a]).length := ⟨_, rfl⟩
    rw [← hN] at o3 ⊢
    have HN := Lib.hid hN
    have Y3 := Lib.hid (Y2.out.trans (z3.mono Y2.out.size))
    have O3 := Lib.hid (part_own b3 o3 (.int .i64 p) (.int .i64 (k : Int)) (.slice A3 N c3))
    have D3 := Lib.hid (part_set b3 (.int .i64 p) (.int .i64 (k : Int)) (.slice A3 N c3))
    have HWS := Lib.hid Y2.out.size
    clear hN hfl q0 q1 q2 q2a u0 u1 u2 v0 v1 v2 f0 f1 f2 HJ o3 z3
    have v0 : w3.cell? ⟨(w.heap.size + 1 + 1), 0, none⟩ = some (.int .i64 0) := b3.cell 0
    have v1 : w3.cell? ⟨(w.heap.size + 1 + 1), 1, none⟩ = some (.int .i64 0) := b3.cell 1
    have v2 : w3.cell? ⟨(w.heap.size + 1 + 1), 2, none⟩ = some (.slice none 0 0) := b3.cell 2
    have f0 := b3.frozen 0
    have f1 := b3.frozen 1
    have f2 := b3.frozen 2
    go_wp2_with fail
    have d1 := D3.out
    exact bodyPost_ret (v := .tuple #[.agg #[.int .i64 p, .int .i64 (k : Int), .slice A3 N c3], .bool true]) (by simp [results, Tryd.results127, go_sem, d1.cell 0, d1.cell 1, d1.cell 2]) rfl (pred_some HF.out HN.out.symm (O3.out.mono HWS.out) (part_below Y3.out (by omega) _ _ _))
  have hk : k < n := by omega
  obtain ⟨b, off, rfl, hbl, hcx⟩ := HX.out.at_ hk
  obtain ⟨x, hx_⟩ : ∃ x, x = xs[k]'(by rw [HL.out]; exact hk) := ⟨_, rfl⟩
  have HGX : Hid (xs.getD k 0 = x) := Lib.hid (by rw [hx_]; simp [List.getD, List.getElem?_eq_getElem (show k < xs.length by rw [HL.out]; exact hk)])
  rw [← hx_] at hcx
  have i0 : (0 : Int) ≤ (k : Int) := by omega
  have i1 : (k : Int) < (n : Int) := by omega
  have i2 : ¬ (k : Int) = (n : Int) := by omega
  clear hx_
  go_upto_region 8 with (go_at_call 126; refine (sizeI_any _ _ _ _ (by omega)).mono ?_; rintro e w' ⟨rfl, rfl⟩)
  go_quiet (fail)
  by_cases hxr : x = ra
  rotate_left
  · have HF : Hid (predF ⟨rc, at_, xs⟩ p a ⟨ra, rb, rc⟩ = none) := Lib.hid (by
      unfold predF
      rw [if_neg (by simp), if_neg (by dsimp only; rw [← HC.out]; omega), if_neg (by dsimp only; rw [← HC.out, HL.out]; omega), if_pos (by dsimp only; rw [← HC.out, Int.toNat_natCast, HGX.out]; exact hxr)])
    have e2 := b2.drewN nq
    go_wp2_with fail
    have d1 := part_set e2 (.int .i64 0) (.int .i64 0) (.slice none 0 0)
    exact bodyPost_ret (v := .tuple #[.agg #[.int .i64 0, .int .i64 0, .slice none 0 0], .bool false]) (by simp [results, Tryd.results127, go_sem, d1.cell 0, d1.cell 1, d1.cell 2]) rfl (pred_none HF.out (part_below (below_drewN y0 _) (by omega) _ _ _))
  · subst hxr
    have HF : Hid (predF ⟨rc, at_, xs⟩ p a ⟨x, rb, rc⟩ = some ⟨p, (k : Int), xs.set k a⟩) := Lib.hid (by
      unfold predF
      rw [if_neg (by simp), if_neg (by dsimp only; rw [← HC.out]; omega), if_neg (by dsimp only; rw [← HC.out, HL.out]; omega), if_neg (by dsimp only; rw [← HC.out, Int.toNat_natCast, HGX.out]; simp)]
      dsimp only; rw [← HC.out, Int.toNat_natCast])
    have HCL := Lib.hid (cloneI_any _ n c xs (V.drewN nq) (HX.out.drewN nq) (by omega))
    have Y1 := Lib.hid (below_drewN y0 nq)
    have e2 := b2.drewN nq
    go_wp2_with fail
    refine HCL.out.mono ?_
    rintro e w3 ⟨A3, c3, rfl, o3, z3⟩
    rw [HL.out] at o3 ⊢
    have b3 := e2.below' z3
    have Y3 := Lib.hid (Y1.out.trans (z3.mono Y1.out.size))
    have hV3 : V.heap.size ≤ w3.heap.size := by have := z3.size; simpa using this
    clear q0 q1 q2 u0 u1 u2 v0 v1 v2 f0 f1 f2 hcx HCL e2
    obtain ⟨W4, hW_⟩ : ∃ W_, W_ = w3.alloc (.cells #[.int .i64 p, .int .i64 (k : Int), .slice A3 n c3] 58) := ⟨_, rfl⟩
    have b4 : Blk W4 w3.heap.size 58 #[.int .i64 p, .int .i64 (k : Int), .slice A3 n c3] := by rw [hW_]; exact Blk.new w3 _ _
    have z4 : Below w3.heap.size w3 W4 := by rw [hW_]; exact (Below.refl _ _).alloc (Nat.le_refl _) _
    have HW4 := Lib.hid hW_
    clear hW_
    have o4 := o3.below z4
    have b24 := b3.below' z4
    have Y4 := Lib.hid (Y3.out.trans (z4.mono Y3.out.size))
    obtain ⟨g3, off3, rfl, hg3, hg3', hc4, hf4⟩ := o4.at_ (k := k) (by simp [ints]; rw [HL.out]; exact hk)
    have hg3V : V.heap.size ≤ g3 := by simpa using hg3
    have hg3W : g3 < w3.heap.size := o3.blk_lt g3 rfl
    have q0 : W4.cell? ⟨w3.heap.size, 0, none⟩ = some (.int .i64 p) := b4.cell 0
    have q1 : W4.cell? ⟨w3.heap.size, 1, none⟩ = some (.int .i64 (k : Int)) := b4.cell 1
    have q2 : W4.cell? ⟨w3.heap.size, 2, none⟩ = some (.slice (some ⟨g3, off3, none⟩) n c3) := b4.cell 2
    obtain ⟨W5, hW5⟩ : ∃ W5, W5 = W4.setCell ⟨g3, off3 + k, none⟩ (.int .i64 a) := ⟨_, rfl⟩
    have b5 : Blk W5 w3.heap.size 58 #[.int .i64 p, .int .i64 (k : Int), .slice (some ⟨g3, off3, none⟩) n c3] := by rw [hW5]; exact b4.far (by show w3.heap.size ≠ g3; omega) _
    have b25 : Blk W5 (w.heap.size + 1 + 1) 58 #[.int .i64 0, .int .i64 0, .slice none 0 0] := by rw [hW5]; exact b24.far (by show w.heap.size + 1 + 1 ≠ g3; omega) _
    have Y5 : Hid (Below w.heap.size w W5) := Lib.hid (by rw [hW5]; exact Y4.out.setCell (by show w.heap.size ≤ g3; omega) _)
    have o5 : Own W5 V.heap.size 2 1 (some ⟨g3, off3, none⟩) n c3 (ints (xs.set k a)) := by
      have h := o4.set_ (k := k) (by simp [ints]; rw [HL.out]; exact hk) (.int .i64 a)
      rw [show (ints xs).set k (.int .i64 a) = ints (xs.set k a) from by simp [ints, List.map_set]] at h
      rw [hW5]
      exact h
    have HO5 := Lib.hid o5
    have HW5 := Lib.hid hW5
    have hsz : W5.heap.size = W4.heap.size := by rw [hW5]; simp [World.setCell]
    have hl5 : w3.heap.size < W5.heap.size := b5.lt
    clear hW5 o5 o3 o4 b3 b24 z3 z4
    go_upto_region 11 with fail
    rw [← HW4.out]
    go_upto_region 12 with fail
    rw [← HW5.out]
    clear hc4 hf4 q0 q1 q2 b4
    have q0 : W5.cell? ⟨w3.heap.size, 0, none⟩ = some (.int .i64 p) := b5.cell 0
    have q1 : W5.cell? ⟨w3.heap.size, 1, none⟩ = some (.int .i64 (k : Int)) := b5.cell 1
    have q2 : W5.cell? ⟨w3.heap.size, 2, none⟩ = some (.slice (some ⟨g3, off3, none⟩) n c3) := b5.cell 2
    have v0 : W5.cell? ⟨(w.heap.size + 1 + 1), 0, none⟩ = some (.int .i64 0) := b25.cell 0
    have v1 : W5.cell? ⟨(w.heap.size + 1 + 1), 1, none⟩ = some (.int .i64 0) := b25.cell 1
    have v2 : W5.cell? ⟨(w.heap.size + 1 + 1), 2, none⟩ = some (.slice none 0 0) := b25.cell 2
    have f0 := b25.frozen 0
    have f1 := b25.frozen 1
    have f2 := b25.frozen 2
    have O6 := Lib.hid (part_own b25 HO5.out (.int .i64 p) (.int .i64 (k : Int)) (.slice (some ⟨g3, off3, none⟩) n c3))
    have D6 := Lib.hid (part_set b25 (.int .i64 p) (.int .i64 (k : Int)) (.slice (some ⟨g3, off3, none⟩) n c3))
    have HVW : Hid (w.heap.size ≤ V.heap.size) := Lib.hid y0.size
    go_wp2_with fail
    have d1 := D6.out
    exact bodyPost_ret (v := .tuple #[.agg #[.int .i64 p, .int .i64 (k : Int), .slice (some ⟨g3, off3, none⟩) n c3], .bool true]) (by simp [results, Tryd.results127, go_sem, d1.cell 0, d1.cell 1, d1.cell 2]) rfl (pred_some HF.out (by rw [List.length_set]; exact HL.out) (O6.out.mono HVW.out) (part_below Y5.out (by omega) _ _ _))
end Go.Proofs.YtokglpdlhacnaaaDoor

/-
  The program's predecessors of a partial configuration.
-/
namespace Go.Proofs.YtokglpdlhacnaaaDoor
open Go.RowKit

def PredsPost (w : World) (o : Option (List Pa)) (e : Ending) (w' : World) : Prop :=
  (match o with
    | none => e = .returned (.tuple #[.slice none 0 0, .int .i64 5])
    | some l => ∃ A c ts, e = .returned (.tuple #[.slice A ts.length c, .int .i64 0]) ∧ OPs w' w.heap.size A ts.length c ts ∧ pas ts = l) ∧ Below w.heap.size w w'
theorem predsTo_step {sy : Int} {rs : List R3} {x : Pa} {j : Nat} {r : R3} {l : List Pa} (h : predsTo sy rs x j = some l) (hr : rs[j]? = some r) : predsTo sy rs x (j + 1) = match (if isRuleB r then predF x ((j : Int) / sy) ((j : Int) % sy) r else none) with
    | none => some l
    | some y => if 60 < y.cs.length then none else some (l ++ [y]) := by
  simp only [predsTo, h, Option.bind_some, predK, List.getD_eq_getElem?_getD, hr, Option.getD_some]
  rfl
/-- What a predecessor's call hands back, in one form. -/
def PredOut (o : Option Pa) (lo : Nat) (W : World) (Q T : Int) (L : Option Addr) (N c : Nat) (bv : Bool) : Prop :=
  (bv = false ∧ o = none) ∨ (bv = true ∧ ∃ y, o = some y ∧ Q = y.q ∧ T = y.at_ ∧ N = y.cs.length ∧ Own W lo 2 1 L N c (ints y.cs))
theorem PredPost.out {w w' : World} {o : Option Pa} {e : Ending} (h : PredPost w o e w') : ∃ Q T L N c bv, e = .returned (.tuple #[.agg #[.int .i64 Q, .int .i64 T, .slice L N c], .bool bv]) ∧ PredOut o w.heap.size w' Q T L N c bv := by
  obtain ⟨h1, _⟩ := h
  cases o with
  | none => exact ⟨0, 0, none, 0, 0, false, h1, .inl ⟨rfl, rfl⟩⟩
  | some y =>
    obtain ⟨A, c, h2, h3⟩ := h1
    exact ⟨y.q, y.at_, A, y.cs.length, c, true, h2, .inr ⟨rfl, y, rfl, rfl, rfl, rfl, h3⟩⟩
theorem PredOut.mono {o : Option Pa} {lo lo' : Nat} {W : World} {Q T : Int} {L : Option Addr} {N c : Nat} {bv : Bool} (h : PredOut o lo W Q T L N c bv) (hl : lo' ≤ lo) : PredOut o lo' W Q T L N c bv :=
  h.imp id fun ⟨h1, y, h2, h3, h4, h5, h6⟩ => ⟨h1, y, h2, h3, h4, h5, h6.mono hl⟩
theorem PredOut.alloc {o : Option Pa} {lo : Nat} {W : World} {Q T : Int} {L : Option Addr} {N c : Nat} {bv : Bool} (h : PredOut o lo W Q T L N c bv) (ob : Obj) : PredOut o lo (W.alloc ob) Q T L N c bv :=
  h.imp id fun ⟨h1, y, h2, h3, h4, h5, h6⟩ => ⟨h1, y, h2, h3, h4, h5, h6.alloc ob⟩
theorem PredOut.set3 {o : Option Pa} {lo g : Nat} {W : World} {Q T : Int} {L : Option Addr} {N c : Nat} {bv : Bool} {vs : Array Value} (h : PredOut o lo W Q T L N c bv) (hg : Blk W g 58 vs) (x y z : Value) : PredOut o lo (((W.setCell ⟨g, 0, none⟩ x).setCell ⟨g, 1, none⟩ y).setCell ⟨g, 2, none⟩ z) Q T L N c bv :=
  h.imp id fun ⟨h1, y, h2, h3, h4, h5, h6⟩ => ⟨h1, y, h2, h3, h4, h5, part_own hg h6 _ _ _⟩
theorem rule_move {sy st : Int} {rs : List R3} {r : R3} (hm : machB sy st rs = true) (hr : r ∈ rs) (hi : isRuleB r = true) : r.b = -1 ∨ r.b = 1 := by
  unfold machB at hm
  simp only [Bool.and_eq_true, List.all_eq_true] at hm
  have h5 := hm.2 r hr
  unfold validRuleB at h5
  rw [hi] at h5
  simp only [Bool.not_true, Bool.false_or, Bool.and_eq_true, Bool.or_eq_true, beq_iff_eq] at h5
  exact h5.1.2
set_option maxRecDepth 100000 in
set_option maxHeartbeats 8000000 in
theorem predecessorsI_any (sy st : Int) (B : Option Addr) (m k : Nat) (rs : List R3) (q at_ : Int) (A : Option Addr) (n c : Nat) (xs : List Int) (w : World) (hr : S3 w B m rs) (hx : SI w A n xs) (hm : machB sy st rs = true) (hok : PaOk sy st ⟨q, at_, xs⟩) (hn : n ≤ 1000) :
    Calls Tryd.prog 102 #[.agg #[.int .i64 sy, .int .i64 st, .slice B m k], .agg #[.int .i64 q, .int .i64 at_, .slice A n c]] w (PredsPost w (predsF sy rs ⟨q, at_, xs⟩)) := by
  have HL := Lib.hid hx.len
  have HM := Lib.hid hm
  have HOK := Lib.hid hok
  have hml : m ≤ 6000 ∧ 2 ≤ sy ∧ sy ≤ 6 ∧ Hid (rs.length = m) := by
    unfold machB at hm
    simp only [Bool.and_eq_true, decide_eq_true_eq, inB_iff] at hm
    obtain ⟨⟨⟨h1, h2⟩, h3⟩, _⟩ := hm
    have h4 := hr.len
    have h5 : st * sy ≤ 1000 * 6 := Int.mul_le_mul h2.2 h1.2 (by omega) (by omega)
    exact ⟨by omega, by omega, by omega, Lib.hid h4⟩
  obtain ⟨hm6, hsy2, hsy6, HRL⟩ := hml
  have a0 := hok.a0
  have a1 : at_ < (n : Int) := by have := hok.a1; dsimp only at this; rw [HL.out] at this; exact this
  have hnl : n ≤ 1000 := hn
  clear hm hok hn
  obtain ⟨V, hW_⟩ : ∃ W, W = (w.alloc (.cells #[.int .i64 sy, .int .i64 st, .slice B m k] 43)).alloc (.cells #[.int .i64 q, .int .i64 at_, .slice A n c] 58) := ⟨_, rfl⟩
  have s_1 : (w.alloc (.cells #[.int .i64 sy, .int .i64 st, .slice B m k] 43)).heap.size = w.heap.size + 1 := by simp
  have b0 : Blk V w.heap.size 43 #[.int .i64 sy, .int .i64 st, .slice B m k] := by rw [hW_]; exact (Blk.new w _ _).alloc _
  have b1 : Blk V (w.heap.size + 1) 58 #[.int .i64 q, .int .i64 at_, .slice A n c] := by rw [hW_, ← s_1]; exact Blk.new _ _ _
  have y0 : Below w.heap.size w V := by rw [hW_]; exact ((Below.refl _ _).alloc (Nat.le_refl _) _).alloc (by simp) _
  have HV := Lib.hid hW_
  clear hW_ s_1
  have q0 : V.cell? ⟨w.heap.size, 0, none⟩ = some (.int .i64 sy) := b0.cell 0
  have q1 : V.cell? ⟨w.heap.size, 1, none⟩ = some (.int .i64 st) := b0.cell 1
  have q2 : V.cell? ⟨w.heap.size, 2, none⟩ = some (.slice B m k) := b0.cell 2
  obtain ⟨W1, hW_⟩ : ∃ W_, W_ = V.alloc (.cells #[] 58) := ⟨_, rfl⟩
  have c1 : Blk W1 V.heap.size 58 #[] := by rw [hW_]; exact Blk.new V _ _
  have z1 : Below V.heap.size V W1 := by rw [hW_]; exact (Below.refl _ _).alloc (Nat.le_refl _) _
  have HW1 := Lib.hid hW_
  clear hW_
  have o1 : OPs W1 V.heap.size (some ⟨V.heap.size, 0, none⟩) ([] : List Pm).length 0 [] := OPs.nil (by rw [HW1.out]; exact Own.lit0 V _ 3)
  have q2a : W1.cell? ⟨w.heap.size, 2, none⟩ = some (.slice B m k) := (b0.below' z1).cell 2
  go_enter Tryd.func102, Tryd.ntmps102
  go_upto_region 1 with fail
  rw [← HV.out]
  go_upto_region 2 with fail
  rw [← HW1.out]
  have HB0 := Lib.hid b0
  have HB1 := Lib.hid b1
  have HRV := Lib.hid (hr.below y0)
  have HXV := Lib.hid (hx.below y0)
  have HY0 := Lib.hid y0
  clear HV HW1 c1 q0 q1 q2 b0 b1 hr hx y0
  go_wp2_with fail
  clear q2a
  go_loopw [6, 15] (fun v i wr => ∃ (j : Nat) (A' : Option Addr) (c' : Nat) (ts : List Pm), j ≤ m ∧ i = .int .i64 (j : Int) ∧ v = .slice A' ts.length c' ∧ OPs wr V.heap.size A' ts.length c' ts ∧ Hid (predsTo sy rs ⟨q, at_, xs⟩ j = some (pas ts)) ∧ Hid (Below V.heap.size V wr)) (fun _ i _ => m - (intOf i).toNat)
  case atStart => exact ⟨0, _, 0, [], by omega, rfl, rfl, o1, Lib.hid rfl, Lib.hid z1⟩
  case round =>
    obtain ⟨j, A', c', ts, hj, rfl, rfl, hO, HP, HZ⟩ := hrel
    rename World => W0
    clear o1 z1
    by_cases hlt : j < m
    · obtain ⟨r, b, off, hrj, hrm, rfl, _, r0, r1, r2⟩ := (HRV.out.below HZ.out).pick hlt
      have hmv := rule_move HM.out hrm
      obtain ⟨ra, rb, rc⟩ := r
      dsimp only at r0 r1 r2
      have HST := Lib.hid (predsTo_step HP.out hrj.out)
      have i0 : (0 : Int) ≤ (j : Int) := by omega
      have i1 : (j : Int) < (m : Int) := by omega
      obtain ⟨W2, hW_⟩ : ∃ W_, W_ = W0.alloc (.cells #[.int .i64 ra, .int .i64 rb, .int .i64 rc] 136) := ⟨_, rfl⟩
      have c2 : Blk W2 W0.heap.size 136 #[.int .i64 ra, .int .i64 rb, .int .i64 rc] := by rw [hW_]; exact Blk.new W0 _ _
      have z2 : Below W0.heap.size W0 W2 := by rw [hW_]; exact (Below.refl _ _).alloc (Nat.le_refl _) _
      have HW2 := Lib.hid hW_
      clear hW_
      have hO2 := hO.below z2
      have HZ2 := Lib.hid (HZ.out.trans (z2.mono HZ.out.size))
      have u0 : W2.cell? ⟨W0.heap.size, 0, none⟩ = some (.int .i64 ra) := c2.cell 0
      have u1 : W2.cell? ⟨W0.heap.size, 1, none⟩ = some (.int .i64 rb) := c2.cell 1
      have u2 : W2.cell? ⟨W0.heap.size, 2, none⟩ = some (.int .i64 rc) := c2.cell 2
      go_upto_region 5 with fail
      rw [← HW2.out]
      cases hi : isRuleB ⟨ra, rb, rc⟩
      · have HST1 : Hid (predsTo sy rs ⟨q, at_, xs⟩ (j + 1) = some (pas ts)) := Lib.hid (by rw [HST.out, hi]; rfl)
        have HI := Lib.hid (isRule_is hi W2)
        clear hi
        go_wp2_with (go_at_call 123; refine HI.out.mono ?_; rintro e w3 ⟨rfl, z3⟩)
        exact ⟨⟨j + 1, A', c', ts, by omega, by go_num, rfl, hO2.below z3, HST1, Lib.hid (HZ2.out.trans (z3.mono HZ2.out.size))⟩, by simp [intOf]; omega⟩
      · have HST1 : Hid (predsTo sy rs ⟨q, at_, xs⟩ (j + 1) = match predF ⟨q, at_, xs⟩ ((j : Int) / sy) ((j : Int) % sy) ⟨ra, rb, rc⟩ with
            | none => some (pas ts)
            | some y => if 60 < y.cs.length then none else some (pas ts ++ [y])) := Lib.hid (by rw [HST.out, hi]; rfl)
        have HI := Lib.hid (isRule_is hi W2)
        have hmv1 := hmv hi
        dsimp only at hmv1
        clear hi hmv
        go_upto_region 6 with (go_at_call 123; refine HI.out.mono ?_; rintro e w3 ⟨rfl, z3⟩)
        have HZ3 := Lib.hid (HZ2.out.trans (z3.mono HZ2.out.size))
        have d0 := HB0.out.below' HZ3.out
        have d1 := HB1.out.below' HZ3.out
        have d2 := c2.below' z3
        have hO3 := Lib.hid (hO2.below z3)
        have l0 := d0.lt
        have l1 := d1.lt
        have l2 := d2.lt
        have HX3 := Lib.hid (HXV.out.below HZ3.out)
        obtain ⟨D, hD⟩ : ∃ D : Int, D = (j : Int) / sy := ⟨_, rfl⟩
        obtain ⟨R, hR⟩ : ∃ R : Int, R = (j : Int) % sy := ⟨_, rfl⟩
        rw [← hD, ← hR] at HST1
        have hD0 : 0 ≤ D ∧ D ≤ 6000 := by rw [hD]; exact ⟨Int.ediv_nonneg i0 (by omega), Int.ediv_le_of_le_mul (by omega) (by omega)⟩
        have s0 : ¬ sy = 0 := by omega
        have p1 : (j : Int).tdiv sy = D := by rw [hD]; exact Int.tdiv_eq_ediv_of_nonneg i0
        have p2 : (j : Int).tmod sy = R := by rw [hR]; exact Int.tmod_eq_emod_of_nonneg i0
        have HPI := Lib.hid (fun W' (h : Below w3.heap.size w3 W') => predecessorI_any q at_ A n c xs D R ⟨ra, rb, rc⟩ W' (HX3.out.below h) hnl a0 a1 hmv1)
        have HSS := Lib.hid (fun W' (h : Below w3.heap.size w3 W') => (⟨(d1.below' h).cell 0, (d1.below' h).cell 1, (d1.below' h).cell 2, (d0.below' h).cell 0, (d2.below' h).cell 0, (d2.below' h).cell 1, (d2.below' h).cell 2⟩ : W'.cell? ⟨w.heap.size + 1, 0, none⟩ = some (.int .i64 q) ∧ W'.cell? ⟨w.heap.size + 1, 1, none⟩ = some (.int .i64 at_) ∧ W'.cell? ⟨w.heap.size + 1, 2, none⟩ = some (.slice A n c) ∧ W'.cell? ⟨w.heap.size, 0, none⟩ = some (.int .i64 sy) ∧ W'.cell? ⟨W0.heap.size, 0, none⟩ = some (.int .i64 ra) ∧ W'.cell? ⟨W0.heap.size, 1, none⟩ = some (.int .i64 rb) ∧ W'.cell? ⟨W0.heap.size, 2, none⟩ = some (.int .i64 rc)))
        have p5 : IntKind.i64.wrap D = D := IntWalk.i64_in _ (by omega)
        clear hD hR d0 d1 d2 u0 u1 u2 r0 r1 r2 c2 z2 hO hO2 i1
        go_cut [9, 10] (fun s9 s10 wx => ∃ (g9 : Nat) (Q T : Int) (L : Option Addr) (N c9 : Nat) (bv : Bool), s9 = .pointer (some ⟨g9, 0, none⟩) ∧ s10 = .bool bv ∧ Blk wx g9 58 #[.int .i64 Q, .int .i64 T, .slice L N c9] ∧ Hid (PredOut (predF ⟨q, at_, xs⟩ D R ⟨ra, rb, rc⟩) w3.heap.size wx Q T L N c9 bv) ∧ Hid (Below w3.heap.size w3 wx))
        case first =>
          have hp : Below w3.heap.size w3 w3.drew := below_drewN (Below.refl _ _) 1
          refine wp_region_noPanic ?_
          refine wp_region_held_drew (S := (fun w' => w'.cell? ⟨w.heap.size + 1, 0, none⟩ = some (.int .i64 q) ∧ w'.cell? ⟨w.heap.size + 1, 1, none⟩ = some (.int .i64 at_) ∧ w'.cell? ⟨w.heap.size + 1, 2, none⟩ = some (.slice A n c) ∧ w'.cell? ⟨w.heap.size, 0, none⟩ = some (.int .i64 sy) ∧ w'.cell? ⟨W0.heap.size, 0, none⟩ = some (.int .i64 ra) ∧ w'.cell? ⟨W0.heap.size, 1, none⟩ = some (.int .i64 rb) ∧ w'.cell? ⟨W0.heap.size, 2, none⟩ = some (.int .i64 rc))) (by kernel_rfl) ?_ (fun hHeld => ?_)
          · exact HSS.out _ hp
          generalize w3.drew = Wc at *
          refine wpAnyH_take (i := 0) (v := ?_) rfl (by kernel_rfl) (by kernel_rfl) (by kernel_rfl) (fun _ _ _ h => h) (Or.inl ⟨by rfl, ?_⟩) (by assumption) ?_
          rotate_left
          · intro w hSw
            try dsimp only at hSw
            obtain ⟨h0_, h1_, h2_, h3_, h4_, h5_, h6_⟩ := hSw
            go_simp
            try with_reducible rfl
          try simp only [Act.put, List.setIfInBounds_toArray, List.set_cons_zero, List.set_cons_succ]
          refine wpAnyH_take (i := 1) (v := ?_) rfl (by kernel_rfl) (by kernel_rfl) (by kernel_rfl) (fun _ _ _ h => h) (Or.inl ⟨by rfl, ?_⟩) (by assumption) ?_
          rotate_left
          · intro w hSw
            try dsimp only at hSw
            go_simp
            try with_reducible rfl
          try simp only [Act.put, List.setIfInBounds_toArray, List.set_cons_zero, List.set_cons_succ]
          refine wpAnyH_take (i := 2) (v := ?_) rfl (by kernel_rfl) (by kernel_rfl) (by kernel_rfl) (fun _ _ _ h => h) (Or.inl ⟨by rfl, ?_⟩) (by assumption) ?_
          rotate_left
          · intro w hSw
            try dsimp only at hSw
            go_simp
            try with_reducible rfl
          try simp only [Act.put, List.setIfInBounds_toArray, List.set_cons_zero, List.set_cons_succ]
          refine wpAnyH_take (i := 3) (v := ?_) rfl (by kernel_rfl) (by kernel_rfl) (by kernel_rfl) (fun _ _ _ h => h) (Or.inl ⟨by rfl, ?_⟩) (by assumption) ?_
          rotate_left
          · intro w hSw
            try dsimp only at hSw
            obtain ⟨h0_, h1_, h2_, h3_, h4_, h5_, h6_⟩ := hSw
            go_simp
            try with_reducible rfl
          try simp only [Act.put, List.setIfInBounds_toArray, List.set_cons_zero, List.set_cons_succ]
          refine wpAnyH_take (i := 4) (v := ?_) rfl (by kernel_rfl) (by kernel_rfl) (by kernel_rfl) (fun _ _ _ h => h) (Or.inl ⟨by rfl, ?_⟩) (by assumption) ?_
          rotate_left
          · intro w hSw
            try dsimp only at hSw
            go_simp
            try with_reducible rfl
          try simp only [Act.put, List.setIfInBounds_toArray, List.set_cons_zero, List.set_cons_succ]
          refine wpAnyH_take (i := 5) (v := ?_) rfl (by kernel_rfl) (by kernel_rfl) (by kernel_rfl) (fun _ _ _ h => h) (Or.inl ⟨by rfl, ?_⟩) (by assumption) ?_
          rotate_left
          · intro w hSw
            try dsimp only at hSw
            go_simp
            try with_reducible rfl
          try simp only [Act.put, List.setIfInBounds_toArray, List.set_cons_zero, List.set_cons_succ]
          refine wpAnyH_take (i := 6) (v := ?_) rfl (by kernel_rfl) (by kernel_rfl) (by kernel_rfl) (fun _ _ _ h => h) (Or.inl ⟨by rfl, ?_⟩) (by assumption) ?_
          rotate_left
          · intro w hSw
            try dsimp only at hSw
            go_simp
            try with_reducible rfl
          try simp only [Act.put, List.setIfInBounds_toArray, List.set_cons_zero, List.set_cons_succ]
          refine wpAnyH_take (i := 7) (v := ?_) rfl (by kernel_rfl) (by kernel_rfl) (by kernel_rfl) (fun _ _ _ h => h) (Or.inl ⟨by rfl, ?_⟩) (by assumption) ?_
          rotate_left
          · intro w hSw
            try dsimp only at hSw
            obtain ⟨h0_, h1_, h2_, h3_, h4_, h5_, h6_⟩ := hSw
            go_simp
            try with_reducible rfl
          try simp only [Act.put, List.setIfInBounds_toArray, List.set_cons_zero, List.set_cons_succ]
          refine wpAnyH_take (i := 8) (v := ?_) rfl (by kernel_rfl) (by kernel_rfl) (by kernel_rfl) (fun _ _ _ h => h) (Or.inl ⟨by rfl, ?_⟩) (by assumption) ?_
          rotate_left
          · intro w hSw
            try dsimp only at hSw
            go_simp
            try with_reducible rfl
          try simp only [Act.put, List.setIfInBounds_toArray, List.set_cons_zero, List.set_cons_succ]
          refine wpAnyH_take (i := 9) (v := ?_) rfl (by kernel_rfl) (by kernel_rfl) (by kernel_rfl) (fun _ _ _ h => h) (Or.inl ⟨by rfl, ?_⟩) (by assumption) ?_
          rotate_left
          · intro w hSw
            try dsimp only at hSw
            obtain ⟨h0_, h1_, h2_, h3_, h4_, h5_, h6_⟩ := hSw
            go_simp
            try with_reducible rfl
          try simp only [Act.put, List.setIfInBounds_toArray, List.set_cons_zero, List.set_cons_succ]
          refine wpAnyH_ready (rs := [10, 14]) (by kernel_rfl) (by simp) ?_
          refine AllReadyH.cons rfl (fun K hK => ?_) ?_
          · go_simp
            refine (HPI.out _ hp).mono ?_
            intro e w5 hpp
            obtain ⟨Q, T, L, N, c9, bv, rfl, ho⟩ := hpp.out
            have z5 := hpp.2
            replace ho := ho.mono hp.size
            replace hp := hp.trans (z5.mono hp.size)
            try replace hbt := hbt.below' z5
            refine hK.out _ _ ?_ (fun hHeld => ?_)
            · first | exact HSS.out _ hf | exact HSS.out _ hp
            clear hK K
            try simp only [Act.put, List.setIfInBounds_toArray, List.set_cons_zero, List.set_cons_succ]
            refine wpAnyH_take (i := 11) (v := ?_) rfl (by kernel_rfl) (by kernel_rfl) (by kernel_rfl) (fun _ _ _ h => h) (Or.inl ⟨by rfl, ?_⟩) (by assumption) ?_
            rotate_left
            · intro w hSw
              try dsimp only at hSw
              go_simp
              try with_reducible rfl
            try simp only [Act.put, List.setIfInBounds_toArray, List.set_cons_zero, List.set_cons_succ]
            refine wpAnyH_take (i := 12) (v := ?_) rfl (by kernel_rfl) (by kernel_rfl) (by kernel_rfl) (fun _ _ _ h => h) (Or.inl ⟨by rfl, ?_⟩) (by assumption) ?_
            rotate_left
            · intro w hSw
              try dsimp only at hSw
              go_simp
              try with_reducible rfl
            try simp only [Act.put, List.setIfInBounds_toArray, List.set_cons_zero, List.set_cons_succ]
            refine wpAnyH_take (i := 13) (v := ?_) rfl (by kernel_rfl) (by kernel_rfl) (by kernel_rfl) (fun _ _ _ h => h) (Or.inl ⟨by rfl, ?_⟩) (by assumption) ?_
            rotate_left
            · intro w hSw
              try dsimp only at hSw
              go_simp
              try with_reducible rfl
            try simp only [Act.put, List.setIfInBounds_toArray, List.set_cons_zero, List.set_cons_succ]
            refine wpAnyH_ready (rs := [14]) (by kernel_rfl) (by simp) ?_
            refine AllReadyH.cons rfl (fun K hK => ?_) ?_
            · go_simp
              first
                | (have hp0 : Below w3.heap.size w3 w5 := hp; have ho0 := ho; replace hp := hp.alloc hp.size (.cells #[.int .i64 0, .int .i64 0, .slice none 0 0] 58); have hbt : Blk (w5.alloc (.cells #[.int .i64 0, .int .i64 0, .slice none 0 0] 58)) w5.heap.size 58 #[.int .i64 0, .int .i64 0, .slice none 0 0] := Blk.new _ _ _; replace ho := ho.alloc (.cells #[.int .i64 0, .int .i64 0, .slice none 0 0] 58))
                | (have hp0 : Below w3.heap.size w3 Wc := hp; replace hp := hp.alloc hp.size (.cells #[.int .i64 0, .int .i64 0, .slice none 0 0] 58); have hbt : Blk (Wc.alloc (.cells #[.int .i64 0, .int .i64 0, .slice none 0 0] 58)) Wc.heap.size 58 #[.int .i64 0, .int .i64 0, .slice none 0 0] := Blk.new _ _ _)
              refine hK.out _ _ ?_ (fun hHeld => ?_)
              · first | exact HSS.out _ hf | exact HSS.out _ hp
              clear hK K
              try simp only [Act.put, List.setIfInBounds_toArray, List.set_cons_zero, List.set_cons_succ]
              refine wpAnyH_ready (rs := [15]) (by kernel_rfl) (by simp) ?_
              refine AllReadyH.cons rfl (fun K hK => ?_) ?_
              · have x0 := hbt.cell 0
                have x1 := hbt.cell 1
                have x2 := hbt.cell 2
                have f0 := hbt.frozen 0
                have f1 := hbt.frozen 1
                have f2 := hbt.frozen 2
                go_simp
                first
                  | (have hf : Below w3.heap.size w3 (w5.alloc (.cells #[.int .i64 Q, .int .i64 T, .slice L N c9] 58)) := hp0.alloc hp0.size _; have hbf : Blk (w5.alloc (.cells #[.int .i64 Q, .int .i64 T, .slice L N c9] 58)) w5.heap.size 58 #[.int .i64 Q, .int .i64 T, .slice L N c9] := Blk.new _ _ _; have of := ho0.alloc (.cells #[.int .i64 Q, .int .i64 T, .slice L N c9] 58))
                  | (have hf := part_below hp hp0.size (.int .i64 Q) (.int .i64 T) (.slice L N c9); have hbf := part_set hbt (.int .i64 Q) (.int .i64 T) (.slice L N c9); have of := ho.set3 hbt (.int .i64 Q) (.int .i64 T) (.slice L N c9))
                refine hK.out _ _ ?_ (fun hHeld => ?_)
                · first | exact HSS.out _ hf | exact HSS.out _ hp
                clear hK K
                try simp only [Act.put, List.setIfInBounds_toArray]
                refine wpAnyH_ready (rs := [16]) (by kernel_rfl) (by simp) ?_
                refine AllReadyH.cons rfl (fun K hK => ?_) ?_
                · go_simp
                  refine hK.out _ _ ?_ (fun hHeld => ?_)
                  · first | exact HSS.out _ hf | exact HSS.out _ hp
                  clear hK K
                  try simp only [Act.put, List.setIfInBounds_toArray, List.set_cons_zero, List.set_cons_succ]
                  refine wpAnyH_done (by kernel_rfl) ?_ _
                  refine NoPanic.normal ?_
                  go_wp2_with fail
                  go_meet
                  exact ⟨_, Q, T, L, N, c9, bv, rfl, rfl, hbf, Lib.hid of, Lib.hid hf⟩
                exact AllReadyH.nil
              exact AllReadyH.nil
            exact AllReadyH.nil
          refine AllReadyH.cons rfl (fun K hK => ?_) ?_
          · go_simp
            first
              | (have hp0 : Below w3.heap.size w3 w5 := hp; have ho0 := ho; replace hp := hp.alloc hp.size (.cells #[.int .i64 0, .int .i64 0, .slice none 0 0] 58); have hbt : Blk (w5.alloc (.cells #[.int .i64 0, .int .i64 0, .slice none 0 0] 58)) w5.heap.size 58 #[.int .i64 0, .int .i64 0, .slice none 0 0] := Blk.new _ _ _; replace ho := ho.alloc (.cells #[.int .i64 0, .int .i64 0, .slice none 0 0] 58))
              | (have hp0 : Below w3.heap.size w3 Wc := hp; replace hp := hp.alloc hp.size (.cells #[.int .i64 0, .int .i64 0, .slice none 0 0] 58); have hbt : Blk (Wc.alloc (.cells #[.int .i64 0, .int .i64 0, .slice none 0 0] 58)) Wc.heap.size 58 #[.int .i64 0, .int .i64 0, .slice none 0 0] := Blk.new _ _ _)
            refine hK.out _ _ ?_ (fun hHeld => ?_)
            · first | exact HSS.out _ hf | exact HSS.out _ hp
            clear hK K
            try simp only [Act.put, List.setIfInBounds_toArray, List.set_cons_zero, List.set_cons_succ]
            refine wpAnyH_ready (rs := [10]) (by kernel_rfl) (by simp) ?_
            refine AllReadyH.cons rfl (fun K hK => ?_) ?_
            · go_simp
              refine (HPI.out _ hp).mono ?_
              intro e w5 hpp
              obtain ⟨Q, T, L, N, c9, bv, rfl, ho⟩ := hpp.out
              have z5 := hpp.2
              replace ho := ho.mono hp.size
              replace hp := hp.trans (z5.mono hp.size)
              try replace hbt := hbt.below' z5
              refine hK.out _ _ ?_ (fun hHeld => ?_)
              · first | exact HSS.out _ hf | exact HSS.out _ hp
              clear hK K
              try simp only [Act.put, List.setIfInBounds_toArray, List.set_cons_zero, List.set_cons_succ]
              refine wpAnyH_take (i := 11) (v := ?_) rfl (by kernel_rfl) (by kernel_rfl) (by kernel_rfl) (fun _ _ _ h => h) (Or.inl ⟨by rfl, ?_⟩) (by assumption) ?_
              rotate_left
              · intro w hSw
                try dsimp only at hSw
                go_simp
                try with_reducible rfl
              try simp only [Act.put, List.setIfInBounds_toArray, List.set_cons_zero, List.set_cons_succ]
              refine wpAnyH_take (i := 12) (v := ?_) rfl (by kernel_rfl) (by kernel_rfl) (by kernel_rfl) (fun _ _ _ h => h) (Or.inl ⟨by rfl, ?_⟩) (by assumption) ?_
              rotate_left
              · intro w hSw
                try dsimp only at hSw
                go_simp
                try with_reducible rfl
              try simp only [Act.put, List.setIfInBounds_toArray, List.set_cons_zero, List.set_cons_succ]
              refine wpAnyH_take (i := 13) (v := ?_) rfl (by kernel_rfl) (by kernel_rfl) (by kernel_rfl) (fun _ _ _ h => h) (Or.inl ⟨by rfl, ?_⟩) (by assumption) ?_
              rotate_left
              · intro w hSw
                try dsimp only at hSw
                go_simp
                try with_reducible rfl
              try simp only [Act.put, List.setIfInBounds_toArray, List.set_cons_zero, List.set_cons_succ]
              refine wpAnyH_ready (rs := [15]) (by kernel_rfl) (by simp) ?_
              refine AllReadyH.cons rfl (fun K hK => ?_) ?_
              · have x0 := hbt.cell 0
                have x1 := hbt.cell 1
                have x2 := hbt.cell 2
                have f0 := hbt.frozen 0
                have f1 := hbt.frozen 1
                have f2 := hbt.frozen 2
                go_simp
                first
                  | (have hf : Below w3.heap.size w3 (w5.alloc (.cells #[.int .i64 Q, .int .i64 T, .slice L N c9] 58)) := hp0.alloc hp0.size _; have hbf : Blk (w5.alloc (.cells #[.int .i64 Q, .int .i64 T, .slice L N c9] 58)) w5.heap.size 58 #[.int .i64 Q, .int .i64 T, .slice L N c9] := Blk.new _ _ _; have of := ho0.alloc (.cells #[.int .i64 Q, .int .i64 T, .slice L N c9] 58))
                  | (have hf := part_below hp hp0.size (.int .i64 Q) (.int .i64 T) (.slice L N c9); have hbf := part_set hbt (.int .i64 Q) (.int .i64 T) (.slice L N c9); have of := ho.set3 hbt (.int .i64 Q) (.int .i64 T) (.slice L N c9))
                refine hK.out _ _ ?_ (fun hHeld => ?_)
                · first | exact HSS.out _ hf | exact HSS.out _ hp
                clear hK K
                try simp only [Act.put, List.setIfInBounds_toArray]
                refine wpAnyH_ready (rs := [16]) (by kernel_rfl) (by simp) ?_
                refine AllReadyH.cons rfl (fun K hK => ?_) ?_
                · go_simp
                  refine hK.out _ _ ?_ (fun hHeld => ?_)
                  · first | exact HSS.out _ hf | exact HSS.out _ hp
                  clear hK K
                  try simp only [Act.put, List.setIfInBounds_toArray, List.set_cons_zero, List.set_cons_succ]
                  refine wpAnyH_done (by kernel_rfl) ?_ _
                  refine NoPanic.normal ?_
                  go_wp2_with fail
                  go_meet
                  exact ⟨_, Q, T, L, N, c9, bv, rfl, rfl, hbf, Lib.hid of, Lib.hid hf⟩
                exact AllReadyH.nil
              exact AllReadyH.nil
            exact AllReadyH.nil
          exact AllReadyH.nil
        case rest =>
          obtain ⟨g9, Q, T, L, N, c9, bv, rfl, rfl, b9, HO9, HZ9⟩ := hcut
          have hZV := Lib.hid (HZ3.out.trans (HZ9.out.mono HZ3.out.size))
          have hOc := hO3.out.below HZ9.out
          rcases HO9.out with ⟨hb, ho⟩ | ⟨hb, y, ho, hQ, hT, hN, hOwn⟩
          · subst hb
            have HST2 : Hid (predsTo sy rs ⟨q, at_, xs⟩ (j + 1) = some (pas ts)) := Lib.hid (by rw [HST1.out, ho])
            clear ho HO9
            go_wp2_with fail
            exact ⟨⟨j + 1, A', c', ts, by omega, by go_num, rfl, hOc, HST2, hZV⟩, by simp [intOf]; omega⟩
          · subst hb hQ hT hN
            have HST2 : Hid (predsTo sy rs ⟨q, at_, xs⟩ (j + 1) = if 60 < y.cs.length then none else some (pas ts ++ [y])) := Lib.hid (by rw [HST1.out, ho])
            clear ho HO9
            have e0 : wc.cell? ⟨g9, 0, none⟩ = some (.int .i64 y.q) := b9.cell 0
            have e1 : wc.cell? ⟨g9, 1, none⟩ = some (.int .i64 y.at_) := b9.cell 1
            have e2 : wc.cell? ⟨g9, 2, none⟩ = some (.slice L y.cs.length c9) := b9.cell 2
            by_cases h60 : 60 < y.cs.length
            · have h60' : (60 : Int) < (y.cs.length : Int) := by omega
              have HPN : Hid (predsF sy rs ⟨q, at_, xs⟩ = none) := Lib.hid (predsTo_none (by rw [HST2.out, if_pos h60]) _ (by rw [HRL.out]; omega))
              go_wp2_with fail
              exact bodyPost_ret (v := .tuple #[.slice none 0 0, .int .i64 5]) (by simp [results, Tryd.results102, go_sem]) rfl (by unfold PredsPost; rw [HPN.out]; exact ⟨rfl, HY0.out.trans (hZV.out.mono HY0.out.size)⟩)
            · have h60' : ¬ (60 : Int) < (y.cs.length : Int) := by omega
              have HST3 : Hid (predsTo sy rs ⟨q, at_, xs⟩ (j + 1) = some (pas ts ++ [y])) := Lib.hid (by rw [HST2.out, if_neg h60])
              have HTL : Hid (ts.length ≤ 6000) := Lib.hid (by
                have h2 := (predsTo_ok HM.out HOK.out (by rw [HRL.out]; omega) HP.out).2
                have h3 : (pas ts).length = ts.length := by simp [pas]
                omega)
              have hOa := hOc.alloc (.cells #[.int .i64 y.q, .int .i64 y.at_, .slice L y.cs.length c9] 58)
              have hwa := hOwn.alloc (.cells #[.int .i64 y.q, .int .i64 y.at_, .slice L y.cs.length c9] 58)
              go_wp2_with (at_builtin; refine wpList_append_Own rfl (.tmp 42) (.tmp 44) rfl elPart (lo := V.heap.size) rfl hOa.spine rfl (Pm.new wc ⟨y.q, y.at_, L, c9, y.cs⟩) (fun u hu => Pm.one [⟨y.q, y.at_, L, c9, y.cs⟩] u (by simpa using hu)) (by have := HTL.out; omega) (by have := HTL.out; simp only [maxLen]; omega) (by have := hZV.out.size; simp; omega) ?_; intro A5 c5 w5 o5 hg5 hw5)
              have hOs : OPs w5 V.heap.size A5 (ts.length + 1) c5 (ts ++ [⟨y.q, y.at_, L, c9, y.cs⟩]) := OPs.snoc (wa := w3) hO3.out (Nat.le_refl _) hOa o5 hg5 hwa HZ3.out.size
              have hZ5 : Hid (Below V.heap.size V w5) := Lib.hid (Own.below_of hOa.spine (hZV.out.alloc hZV.out.size _) hg5 (by have := hZV.out.size; simp; omega))
              have HST4 : Hid (predsTo sy rs ⟨q, at_, xs⟩ (j + 1) = some (pas (ts ++ [⟨y.q, y.at_, L, c9, y.cs⟩]))) := Lib.hid (by rw [HST3.out]; simp [pas, Pm.pa])
              have hlen : (ts ++ [(⟨y.q, y.at_, L, c9, y.cs⟩ : Pm)]).length = ts.length + 1 := by simp
              have HLN := Lib.hid hlen
              clear hlen
              go_wp2_with fail
              go_roundw
              case rel => exact ⟨j + 1, A5, c5, ts ++ [⟨y.q, y.at_, L, c9, y.cs⟩], by omega, by go_num, by rw [HLN.out], by rw [HLN.out]; exact hOs, HST4, hZ5⟩
              case measure => simp [intOf]; omega
    · have i1 : ¬ (j : Int) < (m : Int) := by omega
      have HPS : Hid (predsF sy rs ⟨q, at_, xs⟩ = some (pas ts)) := Lib.hid (by unfold predsF; rw [HRL.out, show m = j by omega]; exact HP.out)
      go_wp2_with fail
      exact bodyPost_ret (v := .tuple #[.slice A' ts.length c', .int .i64 0]) (by simp [results, Tryd.results102, go_sem]) rfl (by unfold PredsPost; rw [HPS.out]; exact ⟨⟨A', c', ts, rfl, hO.mono HY0.out.size, rfl⟩, HY0.out.trans (HZ.out.mono HY0.out.size)⟩)
end Go.Proofs.YtokglpdlhacnaaaDoor

/-
  The reference's decimal form (l01Dec) of a number that is not negative.
-/
namespace Go.Proofs.YtokglpdlhacnaaaDoor
open Go.RowKit

theorem elB : Elem Tryd.prog 65 5 1 1 (.int .u8 0) := ⟨Tryd.underlying65, by kernel_rfl, rfl, by decide⟩
/-- Bytes as cells. -/
def bys (l : List UInt8) : List Value := l.map fun b => Value.int .u8 b.toNat
theorem length_bys (l : List UInt8) : (bys l).length = l.length := by simp [bys]
theorem bys_append (a b : List UInt8) : bys a ++ bys b = bys (a ++ b) := by simp [bys]
theorem bys_one (l : List UInt8) : ∀ u ∈ bys l, u.oneCell' = true := by
  intro u hu
  obtain ⟨b, _, rfl⟩ := List.mem_map.1 hu
  rfl
/-- The digits of a number, the last one first. -/
def revDigs (u : Nat) : List UInt8 := (Lib.decDigits u).reverse
theorem revDigs_small {u : Nat} (h : u < 10) : revDigs u = [UInt8.ofNat (48 + u)] := by
  unfold revDigs; rw [Lib.decDigits, dif_pos h]; rfl
theorem revDigs_big {u : Nat} (h : ¬ u < 10) : revDigs u = UInt8.ofNat (48 + u % 10) :: revDigs (u / 10) := by
  unfold revDigs; rw [Lib.decDigits, dif_neg h]; simp
/-- What stands before the digits of m where u is read. -/
def DigTo (u m : Nat) (l : List UInt8) : Prop := if m = 0 then l = revDigs u else l ++ revDigs m = revDigs u
theorem DigTo.start {u : Nat} (h : u ≠ 0) : DigTo u u [] := by unfold DigTo; rw [if_neg h]; rfl
theorem DigTo.next {u m : Nat} {l : List UInt8} (h : DigTo u m l) (hm : m ≠ 0) : DigTo u (m / 10) (l ++ [UInt8.ofNat (48 + m % 10)]) := by
  unfold DigTo at h ⊢
  rw [if_neg hm] at h
  by_cases h1 : m < 10
  · rw [if_pos (by omega), ← h, revDigs_small h1, show m % 10 = m from by omega]
  · rw [if_neg (by omega), ← h, revDigs_big h1, List.append_assoc]; rfl
theorem DigTo.len {u m : Nat} {l : List UInt8} (h : DigTo u m l) : l.length ≤ (revDigs u).length := by
  unfold DigTo at h
  split at h
  · rw [h]; exact Nat.le_refl _
  · rw [← h]; simp
theorem nDigits_le : ∀ (k u : Nat), u < 10 ^ (k + 1) → Lib.nDigits u ≤ k + 1 := by
  intro k
  induction k with
  | zero => intro u h; rw [Lib.nDigits_small (by simpa using h)]; exact Nat.le_refl _
  | succ k ih =>
    intro u h
    by_cases h1 : u < 10
    · rw [Lib.nDigits_small h1]; omega
    · rw [Lib.nDigits_big h1]
      have := ih (u / 10) (by rw [Nat.pow_succ] at h; omega)
      omega
theorem revDigs_len (u : Nat) (h : u < 10 ^ 19) : (revDigs u).length ≤ 19 := by
  unfold revDigs
  rw [List.length_reverse, Lib.decDigits_length]
  exact nDigits_le 18 u h
theorem bytes_of {w : World} {n b off : Nat} {out : List UInt8} (h : Rd w 1 (some ⟨b, off, none⟩) n (bys out)) : Lib.Bytes w b off ⟨out.toArray⟩ := by
  intro i hi
  have hi' : i < out.length := by
    have h2 : (⟨out.toArray⟩ : ByteArray).size = out.length := by simp [ByteArray.size]
    omega
  obtain ⟨b1, o1, e, _, hc⟩ := h.at_ (k := i) (by rw [length_bys]; exact hi')
  simp only [Option.some.injEq, Addr.mk.injEq, and_true] at e
  obtain ⟨rfl, rfl⟩ := e
  rw [hc]
  simp [bys]
  rfl
def decS (u : Nat) : ByteArray := ⟨(Lib.decDigits u).toArray⟩
end Go.Proofs.YtokglpdlhacnaaaDoor

/-
  Decimal forms of the program: Decimal, decimals, dotted.
-/
namespace Go.Proofs.YtokglpdlhacnaaaDoor
open Go.RowKit

/-- The library's table of powers. -/
def Tab (w : World) : Prop := Lib.TabIs Tryd.prog w "internal/strconv.uint64pow10" .u64 Lib.pow10Tab
theorem Tab.below {w w' : World} (h : Tab w) (z : Below w.heap.size w w') : Tab w' := by
  unfold Tab Lib.TabIs at h ⊢
  unfold World.var? at h ⊢
  cases hg : Tryd.prog.globalNamed "internal/strconv.uint64pow10" with
  | none => rw [hg] at h; cases h
  | some g =>
    rw [hg] at h
    simp only [Option.bind_some] at h ⊢
    have hlt : g < w.heap.size := by
      refine Nat.lt_of_not_le fun hle => ?_
      rw [Array.getElem?_eq_none hle] at h
      cases h
    rw [z.block g hlt]
    exact h
theorem itoa_dec (u : Nat) : (⟨(Lib.itoa (u : Int)).toArray⟩ : ByteArray) = decS u := by
  unfold decS Lib.itoa
  rw [if_neg (by omega)]
  rfl
set_option maxHeartbeats 1000000 in
theorem decimal_any (u : Nat) (w : World) (hu : u ≤ 1000000000000) (ht : Tab w) :
    Calls Tryd.prog 129 #[.int .i64 (u : Int)] w fun e w' => e = .returned (.string (decS u)) ∧ Below w.heap.size w w' := by
  go_enter Tryd.func129, Tryd.ntmps129
  go_wp2_with (go_at_call 137; refine (Tryd.strconv_FormatInt_10 (u : Int) (by omega) (by omega) w ht).mono ?_; rintro e w' ⟨rfl, k, os, rfl⟩)
  go_ret
  exact ⟨by rw [itoa_dec]; rfl, ⟨rfl, rfl, rfl, by simp [Sort.grow], fun k hk => by simp [Sort.grow, Array.getElem?_append, hk]⟩⟩
def strs (l : List ByteArray) : List Value := l.map Value.string
theorem length_strs (l : List ByteArray) : (strs l).length = l.length := by simp [strs]
/-- Decimal forms of all numbers. -/
def decs (xs : List Int) : List ByteArray := xs.map fun x => decS x.toNat
theorem decs_next {xs : List Int} {k : Nat} {x : Int} (h : xs[k]? = some x) : decs (xs.take (k + 1)) = decs (xs.take k) ++ [decS x.toNat] := by
  unfold decs; rw [List.take_add_one, h]; simp
def joinD (xs : List Int) (sep : ByteArray) : List UInt8 := Lib.join ((decs xs).map (·.data.toList)) sep.data.toList
theorem joinTail_len (sep : List UInt8) (r : List (List UInt8)) (m : Nat) (h : ∀ x ∈ r, x.length ≤ m) : (Lib.joinTail sep r).length ≤ r.length * (sep.length + m) := by
  induction r with
  | nil => simp [Lib.joinTail]
  | cons x r ih =>
    have h1 := h x (by simp)
    have h2 := ih (fun y hy => h y (by simp [hy]))
    have e : Lib.joinTail sep (x :: r) = sep ++ x ++ Lib.joinTail sep r := by simp [Lib.joinTail]
    rw [e, List.length_append, List.length_append, List.length_cons, Nat.succ_mul]
    omega
theorem join_len (sep : List UInt8) (r : List (List UInt8)) (m : Nat) (h : ∀ x ∈ r, x.length ≤ m) : (Lib.join r sep).length ≤ r.length * (sep.length + m) := by
  cases r with
  | nil => simp [Lib.join_nil]
  | cons x r =>
    have h1 := joinTail_len sep r m (fun y hy => h y (by simp [hy]))
    have h2 := h x (by simp)
    rw [Lib.join_cons, List.length_append, List.length_cons, Nat.succ_mul]
    omega
theorem decS_len (u : Nat) (h : u ≤ 1000000000000) : (decS u).data.toList.length ≤ 19 := by
  have h1 := revDigs_len u (Nat.lt_of_le_of_lt h (by decide))
  unfold revDigs at h1
  simpa [decS] using h1
theorem joinD_len (xs : List Int) (sep : ByteArray) (hx : ∀ x ∈ xs, 0 ≤ x ∧ x ≤ 1000000000000) : (joinD xs sep).length ≤ xs.length * (sep.data.toList.length + 19) := by
  have h := join_len sep.data.toList ((decs xs).map (·.data.toList)) 19 (fun y hy => by
    obtain ⟨s, hs, rfl⟩ := List.mem_map.1 hy
    obtain ⟨x, hxm, rfl⟩ := List.mem_map.1 hs
    have := hx x hxm
    exact decS_len _ (by omega))
  rw [List.length_map] at h
  have e : (decs xs).length = xs.length := by simp [decs]
  rw [e] at h
  exact h
end Go.Proofs.YtokglpdlhacnaaaDoor

/-
  All blocks but one are as they were (the same words as in Src, for seats without a source).
-/
namespace Go.Proofs.YtokglpdlhacnaaaDoor
open Go.RowKit

/-- All blocks but b are as they were. -/
structure Kb (b : Nat) (W W' : World) : Prop where
  os : W'.os = W.os
  tape : W'.tape = W.tape
  output : W'.output = W.output
  size : W.heap.size ≤ W'.heap.size
  block : ∀ k, k < W.heap.size → k ≠ b → W'.heap[k]? = W.heap[k]?
section
variable {b : Nat} {a W W' : World}
theorem Kb.refl (b : Nat) (W : World) : Kb b W W := ⟨rfl, rfl, rfl, Nat.le_refl _, fun _ _ _ => rfl⟩
theorem Kb.drewN (h : Kb b a W) (n : Nat) : Kb b a (W.drewN n) := ⟨h.os, h.tape, h.output, h.size, h.block⟩
theorem Kb.alloc (h : Kb b a W) (o : Obj) : Kb b a (W.alloc o) := ⟨h.os, h.tape, h.output, Nat.le_trans h.size (by simp), fun k hk hy => (Below.heap_alloc W o k (by have := h.size; omega)).trans (h.block k hk hy)⟩
theorem Kb.trans (h : Kb b a W) (z : Kb b W W') : Kb b a W' := ⟨z.os.trans h.os, z.tape.trans h.tape, z.output.trans h.output, Nat.le_trans h.size z.size, fun k hk hy => (z.block k (by have := h.size; omega) hy).trans (h.block k hk hy)⟩
theorem Kb.set_ (h : Kb b a W) (o : Nat) (u : Value) : Kb b a (W.setCell ⟨b, o, none⟩ u) :=
  ⟨h.os, h.tape, h.output, by simpa [World.setCell] using h.size, fun k hk hy => (Below.heap_setCell W ⟨b, o, none⟩ u k hy).trans (h.block k hk hy)⟩
theorem Kb.blk_ {x : Nat} {t : TypeId} {cs : Array Value} (k : Kb b W W') (h : Blk W x t cs) (hn : x ≠ b) : Blk W' x t cs := (k.block x h.lt hn).trans h
theorem Kb.below {w : World} (k : Kb b W W') (h : Below w.heap.size w W) (hb : w.heap.size ≤ b) : Below w.heap.size w W' :=
  ⟨k.os.trans h.os, k.tape.trans h.tape, k.output.trans h.output, Nat.le_trans h.size k.size, fun x hx => (k.block x (by have := h.size; omega) (by omega)).trans (h.block x hx)⟩
theorem Kb.own {lo s n c : Nat} {e : TypeId} {A : Option Addr} {xs : List Value} (k : Kb b W W') (h : Own W lo e s A n c xs) (hn : blk A ≠ some b) : Own W' lo e s A n c xs :=
  h.kept fun x hx _ hlt => k.block x hlt (fun e => hn (by rw [← e]; exact hx))
end
theorem Kb.of_below {b : Nat} {w w' : World} (h : Below w.heap.size w w') : Kb b w w' := ⟨h.os, h.tape, h.output, h.size, fun k hk _ => h.block k hk⟩
theorem Kb.grown {b lo s n c : Nat} {a W W' : World} {e : TypeId} {E : Option Addr} {xs : List Value} (h : Kb b a W) (ho : Own W lo e s E n c xs) (hlo : a.heap.size ≤ lo) (hg : W.grownBy W' (blk E)) : Kb b a W' :=
  ⟨hg.os.trans h.os, hg.tape.trans h.tape, hg.output.trans h.output, Nat.le_trans h.size hg.size, fun k hk hy => (hg.block k (by have := h.size; omega) (fun e => by have := ho.blk_ge k e.symm; omega)).trans (h.block k hk hy)⟩
theorem Kb.own' {b lo s n c : Nat} {e : TypeId} {A : Option Addr} {xs : List Value} {W W' : World} (k : Kb b W W') (h : Own W lo e s A n c xs) (hb : b < lo) : Own W' lo e s A n c xs :=
  k.own h fun e => by have := h.blk_ge b e; omega
end Go.Proofs.YtokglpdlhacnaaaDoor
