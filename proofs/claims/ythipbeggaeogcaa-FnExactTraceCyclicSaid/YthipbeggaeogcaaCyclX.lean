/-
  A step of a cyclic tag system that runs.
-/
import Derived.Test.YthipbeggaeogcaaCyclR
import Derived.BigRegion
namespace Go.Proofs.Ythipbeggaeogcaa
open Go.RowKit

def StepXC (X : Nat → Prop) (w w0 : World) (g : Nat) (A : Option Addr) (n c : Nat) (a : Int) (ys : List Int) (e : Ending) (w' : World) : Prop :=
  ∃ Q r, e = .returned (.bool (decide (ys.length ≤ 1000))) ∧ CRun w' g A n c a Q ys.length r ∧ Own w' w0.heap.size 2 1 Q ys.length r (ints ys) ∧ (∀ b, blk Q = some b → ¬ X b) ∧ Below w0.heap.size w0 w' ∧ Fr X w w'
theorem CRun.apt {w : World} {g : Nat} {A : Option Addr} {n c : Nat} {a : Int} {Q : Option Addr} {l r : Nat} (h : CRun w g A n c a Q l r) {lo s n' c' : Nat} {B : Option Addr} {cs : List Value} (ho : Own w lo 2 s B n' c' cs) : blk B ≠ some g := Blk.aptt h ho (by decide)

theorem CRun.cells {w : World} {g : Nat} {A : Option Addr} {n c : Nat} {a : Int} {Q : Option Addr} {l r : Nat} (h : CRun w g A n c a Q l r) : w.cell? ⟨g, 0, none⟩ = some (.slice A n c) ∧ w.cell? ⟨g, 1, none⟩ = some (.int .i64 a) ∧ w.cell? ⟨g, 2, none⟩ = some (.slice Q l r) := ⟨h.cell 0, h.cell 1, h.cell 2⟩
theorem CRun.set2 {w : World} {g : Nat} {A : Option Addr} {n c : Nat} {a : Int} {Q : Option Addr} {l r : Nat} (h : CRun w g A n c a Q l r) (Q' : Option Addr) (l' r' : Nat) : CRun (w.setCell ⟨g, 2, none⟩ (.slice Q' l' r')) g A n c a Q' l' r' := Blk.set_ h 2 (.slice Q' l' r')
theorem CRun.set1 {w : World} {g : Nat} {A : Option Addr} {n c : Nat} {a : Int} {Q : Option Addr} {l r : Nat} (h : CRun w g A n c a Q l r) (a' : Int) : CRun (w.setCell ⟨g, 1, none⟩ (.int .i64 a')) g A n c a' Q l r := Blk.set_ h 1 (.int .i64 a')
theorem CRun.grown {w w2 : World} {g : Nat} {A : Option Addr} {n c : Nat} {a : Int} {Q : Option Addr} {l r : Nat} (h : CRun w g A n c a Q l r) {row : Option Nat} (hg : w.grownBy w2 row) (hr : row ≠ some g) : CRun w2 g A n c a Q l r := (hg.block g h.lt (Ne.symm hr)).trans h

set_option maxRecDepth 100000 in
set_option maxHeartbeats 4000000 in
theorem cyclicStep_x (X : Nat → Prop) (w0 : World) (g : Nat) (A : Option Addr) (n c : Nat) (ts : List Sl) (a : Nat) (Q : Option Addr) (l r : Nat) (xs : List Int) (t : Sl) (w : World) (hx : SII w0 A n ts) (hb0 : Below w0.heap.size w0 w) (hg : w0.heap.size ≤ g)
    (hr : CRun w g A n c (a : Int) Q l r) (hQ : Own w w0.heap.size 2 1 Q l r (ints xs)) (hXg : Hid (¬ X g)) (hXQ : Hid (∀ b, blk Q = some b → ¬ X b)) (hXt : Hid (∀ b, X b → b < w.heap.size)) (hl0 : 0 < l) (hl : l ≤ 1048576) (hn : n ≤ 1048576) (ha : a < n) (hT : Hid (ts[a]? = some t)) (htl : t.xs.length ≤ 1048576) :
    Calls Try.prog 98 #[.pointer (some ⟨g, 0, none⟩)] w (StepXC X w w0 g A n c (((a : Int) + 1).tmod n) (xs.tail ++ if xs.headD 0 = 1 then t.xs else [])) := by
  have k0 : w.cell? ⟨g, 0, none⟩ = some (.slice A n c) := hr.cell 0
  have k1 : w.cell? ⟨g, 1, none⟩ = some (.int .i64 (a : Int)) := hr.cell 1
  have k2 : w.cell? ⟨g, 2, none⟩ = some (.slice Q l r) := hr.cell 2
  have f2 := hr.frozen 2
  have hapt := Lib.hid (hr.apt hQ)
  obtain ⟨b, off, rfl, hbl, hc⟩ := SI.at0 (xs := xs) hQ.rd hl0
  have HXL : Hid (xs.length = l) := by have := hQ.1; rw [length_ints] at this; show _ = _; omega
  have i3 : (0 : Int) < (l : Int) := by omega
  have hcap := hQ.le
  obtain ⟨x0, ex0⟩ : ∃ x, x = xs.headD 0 := ⟨_, rfl⟩
  rw [← ex0] at hc ⊢
  have EX0 := Lib.hid ex0
  have ho1 := hQ.from_ (k := 1) hl0
  rw [ints_drop] at ho1
  have e1 : (xs.drop 1).length = l - 1 := by rw [List.length_drop, HXL.out]
  have E1 := Lib.hid e1
  clear e1 ex0
  obtain ⟨ys, eys⟩ : ∃ ys, ys = xs.tail ++ (if x0 = 1 then t.xs else []) := ⟨_, rfl⟩
  obtain ⟨a', ea⟩ : ∃ a', a' = ((a : Int) + 1) % n := ⟨_, rfl⟩
  rw [← eys, Int.tmod_eq_emod_of_nonneg (by omega), ← ea]
  have EYS := Lib.hid eys
  have EA := Lib.hid ea
  clear eys ea
  go_enter Try.func98, Try.ntmps98
  go_upto_region 2 with fail
  go_cut [2, 3] (fun s2 s3 wx => s2 = .bool false ∧ s3 = .int .i64 x0 ∧ ∃ Q1 r1, CRun wx g A n c (a : Int) Q1 (l - 1) r1 ∧ Own wx w0.heap.size 2 1 Q1 (l - 1) r1 (ints (xs.drop 1)) ∧ Hid (∀ b, blk Q1 = some b → ¬ X b) ∧ Below w0.heap.size w0 wx ∧ Fr X w wx)
  case first =>
    go_wp2_with fail
    all_goals
      go_meet
      first | rw [if_pos (by assumption)] at ho1 | rw [if_neg (by assumption)] at ho1
      try simp only [Option.map_some, add_lit] at ho1
      try rw [show r - 1 = 0 by omega] at ho1
      refine ⟨rfl, rfl, _, _, hr.set2 _ _ _, ho1.far (p := ⟨g, 2, none⟩) (by simpa [blk] using hapt.out) _, ?_, hb0.setCell (p := ⟨g, 2, none⟩) hg _, (Fr.refl X w).set_ (p := ⟨g, 2, none⟩) hXg.out _⟩
      show ∀ b2, blk _ = some b2 → ¬ X b2
      intro b2 hb2
      exact hXQ.out b2 (by simpa [blk] using hb2)
  case rest =>
    obtain ⟨rfl, rfl, Q1, r1, hr1, ho1, hX1, hb1, hf1⟩ := hcut
    clear k0 k1 k2 f2 hc
    by_cases hone : x0 = 1
    · subst hone
      obtain ⟨t', b', off', hT', htm, rfl, hbl', hc', hrow⟩ := (hx.below hb1).pick ha
      obtain rfl : t = t' := by have h1 := hT.out; have h2 := hT'.out; rw [h1] at h2; simpa using h2
      clear hT'
      have j1 : (0 : Int) ≤ (a : Int) := by omega
      have j2 : (a : Int) < (n : Int) := by omega
      obtain ⟨k0, k1, k2⟩ := hr1.cells
      have HG := Lib.hid (hr1.apt ho1)
      go_upto_region 4 with fail
      go_cut [2] (fun s2 wy => s2 = .bool false ∧ ∃ A2 c2, CRun wy g (some ⟨b', off', none⟩) n c (a : Int) A2 (l - 1 + t.xs.length) c2 ∧ Own wy w0.heap.size 2 1 A2 (l - 1 + t.xs.length) c2 (ints (xs.drop 1 ++ t.xs)) ∧ Hid (∀ b, blk A2 = some b → ¬ X b) ∧ Below w0.heap.size w0 wy ∧ Fr X w wy)
      case first =>
        go_region_law
          ((refine step_append_Own rfl (.tmp 24) (.tmp 35) rfl elI (lo := w0.heap.size) rfl (by exact ho1.drewN _) rfl (by exact hrow.drewN _) (ints_one t.xs) (by omega) (by simp only [maxLen]; omega) (by exact hb1.size) ?_; intro A2 c2 w2 ho2 hg2 hwh2
            have hr2 : CRun w2 g (some ⟨b', off', none⟩) n c (a : Int) Q1 (l - 1) r1 := CRun.grown (w := wc.drewN 1) hr1 hg2 HG.out
            have e3 : w2.cell? ⟨g, 2, none⟩ = some (.slice Q1 (l - 1) r1) := hr2.cell 2
            have f3 := hr2.frozen 2))
        all_goals
          go_wp2_with fail
          go_meet
          refine ⟨rfl, A2, c2, hr2.set2 A2 (l - 1 + t.xs.length) c2, ?_, ?_, ?_, ?_⟩
          · rw [← ints_append]
            exact ho2.far (p := ⟨g, 2, none⟩) (hr2.apt ho2) _
          · show ∀ b2, blk A2 = some b2 → ¬ X b2
            intro b2 hb2 hX2
            rcases hwh2.1 with h | h
            · rw [h] at hb2; exact hX1.out b2 hb2 hX2
            · rw [h] at hb2
              have h9 := hXt.out b2 hX2
              have h8 := hf1.size
              simp at hb2
              omega
          · have hb2 : Below w0.heap.size w0 w2 := (ho1.drewN 1).below_of (below_drewN hb1 1) hg2 hb1.size
            exact hb2.setCell (p := ⟨g, 2, none⟩) hg _
          · exact (((hf1.drewN 1).grown hg2 hX1.out)).set_ (p := ⟨g, 2, none⟩) hXg.out _
      case rest =>
        obtain ⟨rfl, Q5, r5, hr5, ho5, hX5, hb5, hf5⟩ := hcut
        clear k0 k1 k2
        obtain ⟨l5, el5⟩ : ∃ l5, l5 = l - 1 + t.xs.length := ⟨_, rfl⟩
        rw [← el5] at hr5 ho5
        have HYS : Hid (ys = xs.drop 1 ++ t.xs) := Lib.hid (by rw [EYS.out]; simp)
        have hxl := HXL.out
        obtain ⟨kk0, kk1, kk2⟩ := hr5.cells
        have ff1 := hr5.frozen 1
        go_upto_region 5 with fail
        go_cut [2] (fun s2 wz => s2 = .bool false ∧ CRun wz g (some ⟨b', off', none⟩) n c a' Q5 l5 r5 ∧ Own wz w0.heap.size 2 1 Q5 l5 r5 (ints (xs.drop 1 ++ t.xs)) ∧ Below w0.heap.size w0 wz ∧ Fr X w wz)
        case first =>
          go_region_with (go_at_call 96; refine (sizeII_any _ _ _ _ (by omega)).mono ?_; rintro e w' ⟨rfl, rfl⟩)
          all_goals
            go_wp2_with fail
            go_meet
            rw [EA.out]
            exact ⟨rfl, hr5.set1 _, ho5.far (p := ⟨g, 1, none⟩) (hr5.apt ho5) _, (hb5.setCell (p := ⟨g, 1, none⟩) hg _).drew, (hf5.set_ (p := ⟨g, 1, none⟩) hXg.out _).drewN 1⟩
        case rest =>
          obtain ⟨rfl, hr6, ho6, hb6, hf6⟩ := hcut
          obtain ⟨m0, m1, m2⟩ := hr6.cells
          clear kk0 kk1 kk2
          have HYL : Hid (ys.length = l5) := Lib.hid (by rw [HYS.out]; simp; omega)
          go_wp2_with fail
          go_ret
          refine ⟨Q5, r5, ret_bool (by rw [HYL.out, decide_eq_decide]; omega), ?_, ?_, hX5.out, hb6, hf6⟩
          · rw [HYL.out]; exact hr6
          · rw [HYL.out, HYS.out]; exact ho6
    · have hne : (x0 == 1) = false := by simpa using hone
      obtain ⟨l5, el5⟩ : ∃ l5, l5 = l - 1 := ⟨_, rfl⟩
      rw [← el5] at hr1 ho1
      have HYS : Hid (ys = xs.drop 1) := Lib.hid (by rw [EYS.out, if_neg hone]; simp)
      have hxl := HXL.out
      obtain ⟨kk0, kk1, kk2⟩ := hr1.cells
      have ff1 := hr1.frozen 1
      go_upto_region 5 with fail
      go_cut [2] (fun s2 wz => s2 = .bool false ∧ CRun wz g A n c a' Q1 l5 r1 ∧ Own wz w0.heap.size 2 1 Q1 l5 r1 (ints (xs.drop 1)) ∧ Below w0.heap.size w0 wz ∧ Fr X w wz)
      case first =>
        go_region_with (go_at_call 96; refine (sizeII_any _ _ _ _ (by omega)).mono ?_; rintro e w' ⟨rfl, rfl⟩)
        all_goals
          go_wp2_with fail
          go_meet
          rw [EA.out]
          exact ⟨rfl, hr1.set1 _, ho1.far (p := ⟨g, 1, none⟩) (hr1.apt ho1) _, (hb1.setCell (p := ⟨g, 1, none⟩) hg _).drew, (hf1.set_ (p := ⟨g, 1, none⟩) hXg.out _).drewN 1⟩
      case rest =>
        obtain ⟨rfl, hr6, ho6, hb6, hf6⟩ := hcut
        obtain ⟨m0, m1, m2⟩ := hr6.cells
        clear kk0 kk1 kk2
        have HYL : Hid (ys.length = l5) := Lib.hid (by rw [HYS.out]; simp; omega)
        go_wp2_with fail
        go_ret
        refine ⟨Q1, r1, ret_bool (by rw [HYL.out, decide_eq_decide]; omega), ?_, ?_, hX1.out, hb6, hf6⟩
        · rw [HYL.out]; exact hr6
        · rw [HYL.out, HYS.out]; exact ho6
end Go.Proofs.Ythipbeggaeogcaa
