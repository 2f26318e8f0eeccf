/-
  Contract of impl's (*tree).list.
-/
import Derived.Test.YtfheepjfpgiaoaaTreT
import Derived.Test.YtfheepjfpgiaoaaOiis
namespace Go.Proofs.Ytfheepjfpgiaoaa
open Go.RowKit

/-- What list's own function finds: the list so far, and itself. -/
structure ListI (w : World) (lo g fb : Nat) (A : Option Addr) (m c : Nat) (xs : List Bool) : Prop where
  out : Blk w g 43 #[.slice A m c]
  own : Own w lo 4 1 A m c (bools xs)
  fn : Blk w fb 227 #[.func (.func 177) #[] #[.pointer (some ⟨g, 0, none⟩), .pointer (some ⟨fb, 0, none⟩)]]
  glo : lo ≤ g
  low : lo ≤ w.heap.size
def VisitP (w : World) (lo g fb : Nat) (m : Nat) (xs : List Bool) (t : Tr) (e : Ending) (w' : World) : Prop :=
  ∃ u A' c', e = .returned u ∧ ListI w' lo g fb A' (m + t.nodes) c' (xs ++ t.enc) ∧ KT w w' ∧ Below lo w w'
theorem ListI.drewN {w : World} {lo g fb m c : Nat} {A : Option Addr} {xs : List Bool} (h : ListI w lo g fb A m c xs) (n : Nat) : ListI (w.drewN n) lo g fb A m c xs := ⟨h.out.drewN n, h.own.drewN n, h.fn.drewN n, h.glo, h.low⟩
/-- One node more. -/
theorem ListI.push {w w2 : World} {lo g fb m c c2 : Nat} {A A2 : Option Addr} {xs : List Bool} (h : ListI w lo g fb A m c xs) (b : Bool) (ho : Own w2 lo 4 1 A2 (m + 1) c2 (bools xs ++ [.bool b])) (hg : (w.alloc (.cells #[.bool b] 4)).grownBy w2 (blk A)) :
    ListI (w2.setCell ⟨g, 0, none⟩ (.slice A2 (m + 1) c2)) lo g fb A2 (m + 1) c2 (xs ++ [b]) ∧ KT w (w2.setCell ⟨g, 0, none⟩ (.slice A2 (m + 1) c2)) ∧ Below lo w (w2.setCell ⟨g, 0, none⟩ (.slice A2 (m + 1) c2)) := by
  have oa := h.own.alloc (.cells #[.bool b] 4)
  have g2 : Blk w2 g 43 #[.slice A m c] := (h.out.alloc _).grown oa hg (by decide)
  have f2 : Blk w2 fb _ _ := (h.fn.alloc _).grown oa hg (by decide)
  have e1 : bools xs ++ [.bool b] = bools (xs ++ [b]) := by simp [bools]
  rw [e1] at ho
  refine ⟨⟨g2.set_ 0 _, ho.far (p := ⟨g, 0, none⟩) (g2.apt ho (by decide)) _, f2.far (p := ⟨g, 0, none⟩) (fun e => ?_) _, h.glo, ?_⟩, ?_, ?_⟩
  · have e : fb = g := e
    subst e
    have h1 := Eq.trans (Eq.symm g2) f2
    simp at h1
  · have h1 := hg.size
    have h2 := h.low
    simp at h1 ⊢
    omega
  · exact ((KT.below ((Below.refl _ _).alloc (Nat.le_refl _) _)).trans (KT.grown oa hg (by decide))).trans (KT.setCell g2 (by decide) _)
  · exact (((Below.refl lo w).alloc h.low _).grown hg (by have := h.low; simp; omega) (fun b' hb => h.own.blk_ge b' hb)).setCell (p := ⟨g, 0, none⟩) h.glo _
set_option maxRecDepth 100000 in
set_option maxHeartbeats 4000000 in
theorem visit_any (lo g fb : Nat) : ∀ (t : Tr) (p A : Option Addr) (m c : Nat) (xs : List Bool) (w : World), TrAt w t p → ListI w lo g fb A m c xs → m + t.nodes ≤ 1000000000 →
    Calls Try.prog 177 #[.pointer p, .pointer (some ⟨g, 0, none⟩), .pointer (some ⟨fb, 0, none⟩)] w (VisitP w lo g fb m xs t) := by
  intro t
  have hcall := Try.call177
  induction t with
  | nil =>
    intro p A m c xs w hp h hn
    obtain rfl : p = none := hp
    have g0 : w.cell? ⟨g, 0, none⟩ = some (.slice A m c) := h.out.cell 0
    have hm : m ≤ 999999999 := by have := nodes_pos .nil; omega
    have hlo := h.low
    have hg2 := h.out.lt
    have HH := Lib.hid h
    have ho := h.own.alloc (.cells #[.bool false] 4)
    clear h
    go_enter Try.func177, Try.ntmps177
    go_wp2_with (at_builtin; refine wpList_append_Own rfl (.tmp 4) (.tmp 7) rfl elBool (lo := lo) rfl ho rfl (Rd.new1 w _ _) (by intro u hu; simp at hu; subst hu; rfl) (by omega) (by simp only [maxLen]; omega) (by simp; omega) ?_; intro A2 c2 w2 o2 hg _; have hP := HH.out.push false o2 hg; have gc : w2.cell? ⟨g, 0, none⟩ = some (.slice A m c) := ((HH.out.out.alloc _).grown (HH.out.own.alloc _) hg (by decide)).cell 0; have gf : w2.frozen? ⟨g, 0, none⟩ = false := ((HH.out.out.alloc _).grown (HH.out.own.alloc _) hg (by decide)).frozen 0)
    go_end0
    exact ⟨_, A2, c2, rfl, hP.1, hP.2.1, hP.2.2⟩
  | nd a b iha ihb =>
    intro p A m c xs w hp h hn
    obtain ⟨q, x, y, rfl, hb, hx, hy⟩ := hp
    have g0 : w.cell? ⟨g, 0, none⟩ = some (.slice A m c) := h.out.cell 0
    have hm : m + 1 + a.nodes + b.nodes ≤ 1000000000 := by rw [Tr.nodes] at hn; omega
    have ha1 := nodes_pos a
    have hlo := h.low
    have hg2 := h.out.lt
    have HH := Lib.hid h
    have ho := h.own.alloc (.cells #[.bool true] 4)
    obtain ⟨na, hna⟩ : ∃ na, a.nodes = na := ⟨_, rfl⟩
    obtain ⟨nb, hnb⟩ : ∃ nb, b.nodes = nb := ⟨_, rfl⟩
    have HNA := Lib.hid hna
    have HNB := Lib.hid hnb
    rw [hna] at hm ha1
    rw [hnb] at hm
    have HIA := Lib.hid iha
    have HIB := Lib.hid ihb
    clear h hna hnb hn iha ihb
    go_enter Try.func177, Try.ntmps177
    go_upto_region 1 with (at_builtin; refine wpList_append_Own rfl (.tmp 4) (.tmp 7) rfl elBool (lo := lo) rfl ho rfl (Rd.new1 w _ _) (by intro u hu; simp at hu; subst hu; rfl) (by omega) (by simp only [maxLen]; omega) (by simp; omega) ?_; intro A2 c2 w2 o2 hg _; have hP := HH.out.push true o2 hg; have gc : w2.cell? ⟨g, 0, none⟩ = some (.slice A m c) := ((HH.out.out.alloc _).grown (HH.out.own.alloc _) hg (by decide)).cell 0; have gf : w2.frozen? ⟨g, 0, none⟩ = false := ((HH.out.out.alloc _).grown (HH.out.own.alloc _) hg (by decide)).frozen 0)
    have hB : KT w (w2.setCell ⟨g, 0, none⟩ (.slice A2 (m + 1) c2)) := hP.2.1
    have hL := hP.1
    have hz := hP.2.2
    have hxa := hx.kt hB
    have hyb := hy.kt hB
    have hq := hB _ _ hb
    clear hP gc gf o2 hg
    generalize w2.setCell ⟨g, 0, none⟩ (.slice A2 (m + 1) c2) = W at *
    have c0 : W.cell? ⟨q, 0, none⟩ = some (.pointer x) := hq.cell 0
    have c1 : W.cell? ⟨fb, 0, none⟩ = some (.func (.func 177) #[] #[.pointer (some ⟨g, 0, none⟩), .pointer (some ⟨fb, 0, none⟩)]) := hL.fn.cell 0
    have HL := Lib.hid hL
    have HQ := Lib.hid hq
    have HXA := Lib.hid hxa
    have HYB := Lib.hid hyb
    have HZ := Lib.hid hz
    have HK1 := Lib.hid hB
    clear hb hq hL hxa hyb ho g0 hz hB hx hy HH
    go_upto_region 2 with fail
    go_region_held3 (fun w' => w'.cell? ⟨q, 0, none⟩ = some (.pointer x) ∧ w'.cell? ⟨fb, 0, none⟩ = some (.func (.func 177) #[] #[.pointer (some ⟨g, 0, none⟩), .pointer (some ⟨fb, 0, none⟩)]))
      (first | (go_keep; done) | (exact ⟨q3.cell 0, hL3.fn.cell 0⟩))
      ((refine (HIA.out x A2 (m + 1) c2 (xs ++ [true]) _ (HXA.out.drewN 1) (HL.out.drewN 1) (by rw [HNA.out]; omega)).mono ?_; rintro e W3 ⟨u3, A3, c3, rfl, hL3, k3, z3⟩; have q3 := k3 _ _ (HQ.out.drewN 1)))
    have p1 : W3.cell? ⟨q, 1, none⟩ = some (.pointer y) := q3.cell 1
    have f1 : W3.cell? ⟨fb, 0, none⟩ = some (.func (.func 177) #[] #[.pointer (some ⟨g, 0, none⟩), .pointer (some ⟨fb, 0, none⟩)]) := hL3.fn.cell 0
    have HL3 := Lib.hid hL3
    have HQ3 := Lib.hid q3
    have HK3 := Lib.hid (HK1.out.trans k3.undrew)
    have HYB3 := Lib.hid (HYB.out.kt k3.undrew)
    have HZ3 := Lib.hid (HZ.out.trans (below_undrew z3))
    clear hL3 q3 k3 z3 c0 c1
    go_wp2_with fail
    go_region_held3 (fun w' => w'.cell? ⟨q, 1, none⟩ = some (.pointer y) ∧ w'.cell? ⟨fb, 0, none⟩ = some (.func (.func 177) #[] #[.pointer (some ⟨g, 0, none⟩), .pointer (some ⟨fb, 0, none⟩)]))
      (first | (go_keep; done) | (exact ⟨q4.cell 1, hL4.fn.cell 0⟩))
      ((refine (HIB.out y A3 (m + 1 + a.nodes) c3 (xs ++ [true] ++ a.enc) _ (HYB3.out.drewN 1) (HL3.out.drewN 1) (by rw [HNA.out, HNB.out]; omega)).mono ?_; rintro e W4 ⟨u4, A4, c4, rfl, hL4, k4, z4⟩; have q4 := k4 _ _ (HQ3.out.drewN 1)))
    have HF : Hid (VisitP w lo g fb m xs (.nd a b) (.returned (.tuple #[])) W4) := Lib.hid (by
      refine ⟨_, A4, c4, rfl, ?_, HK3.out.trans k4.undrew, HZ3.out.trans (below_undrew z4)⟩
      have e1 : m + 1 + a.nodes + b.nodes = m + (Tr.nd a b).nodes := by rw [Tr.nodes]; omega
      have e2 : xs ++ [true] ++ a.enc ++ b.enc = xs ++ (Tr.nd a b).enc := by simp [Tr.enc]
      rw [← e1, ← e2]
      exact hL4)
    clear hL4 k4 z4 q4
    go_wp2_with fail
    go_end0
    exact HF.out
end Go.Proofs.Ytfheepjfpgiaoaa
