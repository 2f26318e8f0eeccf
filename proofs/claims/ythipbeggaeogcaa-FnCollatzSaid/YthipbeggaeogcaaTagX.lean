/-
  A step of impl's tagRun beside blocks that stay as they are; its word.
-/
import Derived.Test.YthipbeggaeogcaaTagK0
import Derived.Test.YthipbeggaeogcaaFrameT
namespace Go.Proofs.Ythipbeggaeogcaa
open Go.RowKit

def StepXT (X : Nat → Prop) (w w0 : World) (g : Nat) (d : Int) (A : Option Addr) (n c : Nat) (B : Option Addr) (m k : Nat) (xs word : List Int) (e : Ending) (w' : World) : Prop :=
  ∃ Q r, e = .returned (.bool (decide ((xs ++ word).length ≤ 1000))) ∧ RunAt w' g d A n c B m k Q ((xs ++ word).drop d.toNat).length r ∧ Own w' w0.heap.size 2 1 Q ((xs ++ word).drop d.toNat).length r (ints ((xs ++ word).drop d.toNat)) ∧ (∀ b, blk Q = some b → ¬ X b) ∧ Below w0.heap.size w0 w' ∧ Fr X w w'
theorem blk_from (A : Option Addr) (c k : Nat) : blk (if c = k then A else A.map (fun x => x.add k)) = blk A := by
  unfold blk
  split
  · rfl
  · cases A with
    | none => rfl
    | some a =>
      simp only [Option.map_some]
      congr 1
      unfold Addr.add
      split <;> rfl

set_option maxHeartbeats 2000000 in
theorem tagStep_x (X : Nat → Prop) (w0 : World) (g : Nat) (d : Int) (A : Option Addr) (n c : Nat) (ts : List Sl) (B : Option Addr) (m k : Nat) (Q : Option Addr) (l r x0 : Nat) (xs : List Int) (t : Sl) (w : World) (hx : SII w0 A n ts) (hb0 : Below w0.heap.size w0 w) (hg : w0.heap.size ≤ g)
    (hr : RunAt w g d A n c B m k Q l r) (hQ : Own w w0.heap.size 2 1 Q l r (ints xs)) (hXg : Hid (¬ X g)) (hXQ : Hid (∀ b, blk Q = some b → ¬ X b)) (hXt : Hid (∀ b, X b → b < w.heap.size)) (hl : l ≤ 1048576) (hd : 1 ≤ d) (hdl : d ≤ l) (h0 : Hid (xs.headD 0 = (x0 : Int))) (hT : Hid (ts[x0]? = some t)) (hx0 : x0 < n) (htl : t.xs.length ≤ 1048576) :
    Calls Try.prog 152 #[.pointer (some ⟨g, 0, none⟩)] w (StepXT X w w0 g d A n c B m k xs t.xs) := by
  obtain ⟨k0, k1, k2, k3⟩ := runAt_cell hr
  have hl0 : 0 < l := by omega
  obtain ⟨b, off, rfl, hbl, hc⟩ := SI.at0 (xs := xs) hQ.rd hl0
  rw [h0.out] at hc
  obtain ⟨t', b', off', hT', htm, rfl, hbl', hc', hrow⟩ := (hx.below hb0).pick hx0
  obtain rfl : t = t' := by have h1 := hT.out; have h2 := hT'.out; rw [h1] at h2; simpa using h2
  clear hT'
  have i1 : (0 : Int) ≤ (x0 : Int) := by omega
  have i2 : (x0 : Int) < (n : Int) := by omega
  have i3 : (0 : Int) < (l : Int) := by omega
  have hb1 : b' < w0.heap.size := by
    obtain ⟨_, b1, o1, _, _, he, h, _⟩ := hx.pick hx0
    simp only [Option.some.injEq, Addr.mk.injEq, and_true] at he
    omega
  have hbb' : b' ≠ b := by have := hQ.blk_ge b rfl; omega
  have gne := hr.blk_ne hQ
  have HG := Lib.hid gne
  clear gne
  have gz : g < w.heap.size := (Array.getElem?_eq_some_iff.1 hr).1
  go_enter Try.func152, Try.ntmps152
  go_upto_region 1 with fail
  go_cut [2] (fun s2 wx => s2 = .bool false ∧ ∃ A2 c2, RunAt wx g d (some ⟨b', off', none⟩) n c B m k A2 (l + t.xs.length) c2 ∧ Own wx w0.heap.size 2 1 A2 (l + t.xs.length) c2 (ints (xs ++ t.xs)) ∧ Hid (∀ b, blk A2 = some b → ¬ X b) ∧ Below w0.heap.size w0 wx ∧ Fr X w wx)
  case first =>
    go_region_law
      ((refine step_append_Own rfl (.tmp 8) (.tmp 21) rfl elI (lo := w0.heap.size) rfl (by exact hQ.drewN _) rfl (by exact hrow.drewN _) (ints_one t.xs) (by omega) (by simp only [maxLen]; omega) (by exact hb0.size) ?_; intro A2 c2 w2 ho2 hg2 hwh2
        have hr2 : RunAt w2 g d (some ⟨b', off', none⟩) n c B m k (some ⟨b, off, none⟩) l r := RunAt.grown (w := w.drewN 1) hr hg2 HG.out
        have e3 := (runAt_cell hr2).2.2.2
        have f3 := hr2.frozen 3))
    all_goals
      go_wp2_with fail
      go_meet
      refine ⟨rfl, A2, c2, hr2.set3 A2 (l + t.xs.length) c2, ?_, ?_, ?_, ?_⟩
      · rw [← ints_append]
        exact ho2.far (p := ⟨g, 3, none⟩) (hr2.blk_ne ho2) _
      · show ∀ b2, blk A2 = some b2 → ¬ X b2
        intro b2 hb2 hX2
        rcases hwh2.1 with h | h
        · rw [h] at hb2; exact hXQ.out b2 hb2 hX2
        · rw [h] at hb2
          have h9 := hXt.out b2 hX2
          simp at hb2
          omega
      · have hb2 : Below w0.heap.size w0 w2 := (hQ.drewN 1).below_of (below_drewN hb0 1) hg2 hb0.size
        exact hb2.setCell (p := ⟨g, 3, none⟩) hg _
      · exact ((((Fr.refl X w).drewN 1).grown hg2 hXQ.out)).set_ (p := ⟨g, 3, none⟩) hXg.out _
  case rest =>
    obtain ⟨rfl, A2, c2, hr3, ho3, hXA, hb3, hf3⟩ := hcut
    obtain ⟨m0, m1, m2, m3⟩ := runAt_cell hr3
    have f3 := hr3.frozen 3
    clear k0 k1 k2 k3
    obtain ⟨dn, rfl⟩ := Int.eq_ofNat_of_zero_le (show 0 ≤ d by omega)
    have hdn : dn ≤ l + t.xs.length := by omega
    have hcap := ho3.le
    have hbk := Lib.hid (blk_from A2 c2 dn)
    go_wp2_with fail
    go_region
    have ho4 := ho3.from_ hdn
    rw [ints_drop] at ho4
    generalize hA3 : (if c2 = dn then A2 else Option.map (fun x => x.add dn) A2) = A3 at *
    clear hA3
    have hr4 := hr3.set3 A3 (l + t.xs.length - dn) (c2 - dn)
    have ho5 := ho4.far (p := ⟨g, 3, none⟩) (hr3.blk_ne ho4) (.slice A3 (l + t.xs.length - dn) (c2 - dn))
    have hb5 := (hb3.setCell (p := ⟨g, 3, none⟩) hg (.slice A3 (l + t.xs.length - dn) (c2 - dn))).drew
    have hf5 := (hf3.set_ (p := ⟨g, 3, none⟩) hXg.out (.slice A3 (l + t.xs.length - dn) (c2 - dn))).drewN 1
    have HXL : Hid (xs.length = l) := by have := hQ.1; rw [length_ints] at this; show _ = _; omega
    have e1 : ((xs ++ t.xs).drop dn).length = l + t.xs.length - dn := by rw [List.length_drop, List.length_append, HXL.out]
    have E1 := Lib.hid e1
    clear e1
    go_wp2_with fail
    go_ret
    refine ⟨A3, c2 - dn, ret_bool ?_, ?_, ?_, ?_, hb5, hf5⟩
    · rw [List.length_append, HXL.out, decide_eq_decide]; omega
    · rw [Int.toNat_natCast, E1.out]; exact hr4
    · rw [Int.toNat_natCast, E1.out]; exact ho5
    · intro b2 hb2; rw [hbk.out] at hb2; exact hXA.out b2 hb2

theorem tagWord_any (g : Nat) (d : Int) (A : Option Addr) (n c : Nat) (B : Option Addr) (m k : Nat) (Q : Option Addr) (l r : Nat) (w : World) (hr : RunAt w g d A n c B m k Q l r) :
    Calls Try.prog 246 #[.pointer (some ⟨g, 0, none⟩)] w fun e w' => e = .returned (.slice Q l r) ∧ w = w' := by
  obtain ⟨k0, k1, k2, k3⟩ := runAt_cell hr
  go_enter Try.func246, Try.ntmps246
  go_wp2
  go_ret
  exact ⟨rfl, rfl⟩
end Go.Proofs.Ythipbeggaeogcaa
