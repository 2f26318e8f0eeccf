/-
  Contracts of the reference's l09Next, l09RunCyclic, RunCyclic.
-/
import Derived.Test.YthipbeggaeogcaaCyclS
import Derived.Test.YthipbeggaeogcaaRunCycI
namespace Go.Proofs.Ythipbeggaeogcaa
open Go.RowKit

/-- What l09Next returns. -/
def NextTu (w : World) (x : Tu) (room : Bool) (e : Ending) (w' : World) : Prop :=
  ∃ Q r, e = .returned (.tuple #[.agg #[.int .i64 x.at_, .slice Q x.word.length r], .bool room]) ∧ Own w' w.heap.size 2 1 Q x.word.length r (ints x.word) ∧ Below w.heap.size w w'

set_option maxRecDepth 100000 in
set_option maxHeartbeats 4000000 in
theorem l09Next_any (g f : Nat) (A : Option Addr) (n c : Nat) (ts : List Sl) (a : Nat) (C : Option Addr) (l r : Nat) (xs : List Int) (t : Sl) (w : World) (ht : CyclAt w g A n c) (hf : TurnAt w f (a : Int) C l r) (hx : SII w A n ts) (hz : SI w C l xs) (hn : n ≤ 1048576) (hl0 : 0 < l) (hl : l ≤ r) (hl1 : l ≤ 1048576) (ha : a < n) (hT : Hid (ts[a]? = some t)) (htl : t.xs.length ≤ 1048576) :
    Calls Try.prog 84 #[.pointer (some ⟨g, 0, none⟩), .pointer (some ⟨f, 0, none⟩)] w (NextTu w ⟨((a : Int) + 1).tmod n, xs.tail ++ if xs.headD 0 = 1 then t.xs else []⟩ (decide ((xs.tail ++ if xs.headD 0 = 1 then t.xs else []).length ≤ 1000))) := by
  obtain rfl : xs.length = l := hz.len
  obtain ⟨ys, eys⟩ : ∃ ys, ys = xs.tail ++ (if xs.headD 0 = 1 then t.xs else []) := ⟨_, rfl⟩
  obtain ⟨a', ea⟩ : ∃ a', a' = ((a : Int) + 1) % n := ⟨_, rfl⟩
  rw [← eys, Int.tmod_eq_emod_of_nonneg (by omega), ← ea]
  have EYS := Lib.hid eys
  have EA := Lib.hid ea
  clear eys ea
  obtain ⟨W, hW_⟩ : ∃ W, W = w.alloc (.cells #[.int .i64 0, .slice none 0 0] 30) := ⟨_, rfl⟩
  have b0 : Blk W w.heap.size 30 #[.int .i64 0, .slice none 0 0] := by rw [hW_]; exact Blk.new w _ _
  have y0 : Below w.heap.size w W := by rw [hW_]; exact (Below.refl _ _).alloc (Nat.le_refl _) _
  have HW := Lib.hid hW_
  clear hW_
  have ht0 := ht.below y0
  have hf0 := hf.below y0
  have gl := ht0.lt
  have fl := hf0.lt
  have hf0' := hf0
  obtain ⟨c1, c2⟩ := hf0'
  have c0 : W.cell? ⟨g, 0, none⟩ = some (.slice A n c) := ht0
  have hz0 := hz.below y0
  have hi3 : (0 : Int) < (xs.length : Int) := by omega
  have hq := Rd.from_ (k := 1) hz0 hl0 hl
  rw [ints_drop] at hq
  have KEEP : Hid (∀ cur, Below W.heap.size W cur → cur.cell? ⟨f, 0, none⟩ = some (.int .i64 (a : Int)) ∧ cur.cell? ⟨g, 0, none⟩ = some (.slice A n c) ∧ cur.cell? ⟨f, 1, none⟩ = some (.slice C xs.length r)) := fun cur h =>
    ⟨(h.cell (p := ⟨f, 0, none⟩) fl).trans c1, (h.cell (p := ⟨g, 0, none⟩) gl).trans c0, (h.cell (p := ⟨f, 1, none⟩) fl).trans c2⟩
  have ZA : Hid (∀ q, Below W.heap.size W ((W.drewN q).alloc (.cells #[.int .i64 0, .slice none 0 0] 30))) := Lib.hid fun q => (below_drewN (Below.refl _ _) q).alloc (Nat.le_refl _) _
  go_enter Try.func84, Try.ntmps84
  go_upto_region 1 with fail
  rw [← HW.out]
  go_cut [5, 6] (fun s5 s6 wx => s5 = .bool false ∧ ∃ k Q2 r2, s6 = .pointer (some ⟨k, 0, none⟩) ∧ W.heap.size ≤ k ∧ Blk wx k 30 #[.int .i64 a', .slice Q2 (xs.length - 1) r2] ∧ Own wx W.heap.size 2 1 Q2 (xs.length - 1) r2 (ints (xs.drop 1)) ∧ Below W.heap.size W wx)
  case first =>
    have TM : Hid (((a : Int) + 1).tmod n = a') := Lib.hid (by rw [EA.out]; exact Int.tmod_eq_emod_of_nonneg (by omega))
    have E1 : Hid ((xs.drop 1).length = xs.length - 1) := Lib.hid (by rw [List.length_drop])
    have n0 : ¬ n = 0 := by omega
    have n1 : ¬ (n : Int) = 0 := by omega
    have w1 : IntKind.i64.wrap ((a : Int) + 1) = (a : Int) + 1 := IntWalk.i64_in _ (by omega)
    have l1 : (1 : Int) ≤ (xs.length : Int) := by omega
    have l2 : (xs.length : Int) ≤ (r : Int) := by omega
    by_cases hr1 : r = 1
    all_goals
      first | rw [if_pos hr1] at hq | rw [if_neg hr1] at hq
      go_region_held3 (fun w' => w'.cell? ⟨f, 0, none⟩ = some (.int .i64 (a : Int)) ∧ w'.cell? ⟨g, 0, none⟩ = some (.slice A n c) ∧ w'.cell? ⟨f, 1, none⟩ = some (.slice C xs.length r))
        (first
          | (go_keep; done)
          | (exact KEEP.out _ zz)
          | (exact KEEP.out _ (zz.alloc zz.size _))
          | (exact KEEP.out _ (ZA.out _))
          | (exact KEEP.out _ ((zz.setCell (Nat.le_refl _) _).setCell (Nat.le_refl _) _)))
        (first
          | (go_at_call 83; refine (l00Own_any _ _ _ (xs.drop 1) _ (by first | exact hq.drewN _ | exact (hq.drewN _).alloc _) (by omega)).mono ?_; rintro e w' ⟨A2, c2', rfl, ho, hb⟩; 
             first
               | (have zz : Below W.heap.size W w' := below_undrew hb)
               | (have zz : Below W.heap.size W w' := (ZA.out _).trans (hb.mono (by simp))
                  have ba : Blk w' W.heap.size 30 #[.int .i64 0, .slice none 0 0] := (Blk.new W 30 #[.int .i64 0, .slice none 0 0]).below' (below_undrew (n := 1) hb)
                  have p0 : w'.cell? ⟨W.heap.size, 0, none⟩ = some (.int .i64 0) := ba.cell 0
                  have p1 : w'.cell? ⟨W.heap.size, 1, none⟩ = some (.slice none 0 0) := ba.cell 1
                  have q0 := ba.frozen 0
                  have q1 := ba.frozen 1)))
    all_goals
      go_wp2_with fail
      go_meet
      try rw [TM.out]
      rw [E1.out] at ho
      first
        | exact ⟨rfl, W.heap.size, A2, c2', rfl, Nat.le_refl _, turn_set ba _ _, (turn_far ho (by simp) _ _).mono (by simp), turn_below zz (Nat.le_refl _) _ _⟩
        | exact ⟨rfl, w'.heap.size, A2, c2', rfl, zz.size, Blk.new w' _ _, (ho.alloc _).mono (by simp), zz.alloc zz.size _⟩
        | trace_state
  case rest =>
    obtain ⟨rfl, k, Q2, r2, rfl, hk, hB, hO, hZ⟩ := hcut
    obtain ⟨b, off, hC, _, hc⟩ := SI.at0 (xs := xs) (hz0.below hZ) hl0
    obtain ⟨x0, ex0⟩ : ∃ x, x = xs.headD 0 := ⟨_, rfl⟩
    rw [← ex0] at hc EYS
    clear c0 c1 c2 ex0 hq
    subst hC
    obtain ⟨c1, c0, c2⟩ := KEEP.out _ hZ
    by_cases hone : x0 = 1
    · subst hone
      obtain ⟨t', b', off', hT', htm, rfl, hbl', hc', hrow⟩ := ((hx.below y0).below hZ).pick ha
      obtain rfl : t = t' := by have h1 := hT.out; have h2 := hT'.out; rw [h1] at h2; simpa using h2
      clear hT'
      have j1 : (0 : Int) ≤ (a : Int) := by omega
      have j2 : (a : Int) < (n : Int) := by omega
      have e1 : wc.cell? ⟨k, 1, none⟩ = some (.slice Q2 (xs.length - 1) r2) := hB.cell 1
      have e2 := hB.frozen 1
      have HG : Hid (blk Q2 ≠ some k) := Lib.hid (hB.aptt hO (by decide))
      have HYS : Hid (ys = xs.drop 1 ++ t.xs) := Lib.hid (by rw [EYS.out]; simp)
      go_upto_region 3 with fail
      go_cut [5, 6] (fun s5 s6 wy => s5 = .bool false ∧ s6 = .pointer (some ⟨k, 0, none⟩) ∧ ∃ A2 r3, Blk wy k 30 #[.int .i64 a', .slice A2 (xs.length - 1 + t.xs.length) r3] ∧ Own wy W.heap.size 2 1 A2 (xs.length - 1 + t.xs.length) r3 (ints (xs.drop 1 ++ t.xs)) ∧ Below W.heap.size W wy)
      case first =>
        go_region_law
          ((refine step_append_Own rfl (.tmp 33) (.tmp 43) rfl elI (lo := W.heap.size) rfl (by exact hO.drewN _) rfl (by exact hrow.drewN _) (ints_one t.xs) (by omega) (by simp only [maxLen]; omega) (by exact hZ.size) ?_; intro A2 c2' w2 ho2 hg2 hwh2
            have hB2 : Blk w2 k 30 #[.int .i64 a', .slice Q2 (xs.length - 1) r2] := Blk.growt (w := wc.drewN 1) hB (hO.drewN 1) hg2 (by decide)
            have e3 : w2.cell? ⟨k, 1, none⟩ = some (.slice Q2 (xs.length - 1) r2) := hB2.cell 1
            have f3 := hB2.frozen 1))
        all_goals
          go_wp2_with fail
          go_meet
          refine ⟨rfl, rfl, A2, c2', hB2.set_ 1 _, ?_, ?_⟩
          · rw [← ints_append]
            exact ho2.far (p := ⟨k, 1, none⟩) (hB2.aptt ho2 (by decide)) _
          · exact ((hO.drewN 1).below_of (below_drewN hZ 1) hg2 hZ.size).setCell (p := ⟨k, 1, none⟩) hk _
      case rest =>
        obtain ⟨rfl, rfl, Q3, r3, hB3, hO3, hZ3⟩ := hcut
        clear c0 c1 c2 e1
        obtain ⟨l3, el3⟩ : ∃ l3, l3 = xs.length - 1 + t.xs.length := ⟨_, rfl⟩
        rw [← el3] at hB3 hO3
        have EL := Lib.hid el3
        clear el3
        go_wp2_with fail
        have HYL : Hid (ys.length = l3) := Lib.hid (by rw [HYS.out]; have := EL.out; simp; omega)
        have hkne : ¬ k = w.heap.size := by have := b0.lt; omega
        have bx := b0.below' (hZ3)
        obtain ⟨z0, z1⟩ : wc.cell? ⟨k, 0, none⟩ = some (.int .i64 a') ∧ wc.cell? ⟨k, 1, none⟩ = some (.slice Q3 (l3) r3) := ⟨hB3.cell 0, hB3.cell 1⟩
        obtain ⟨x0, x1⟩ : wc.cell? ⟨w.heap.size, 0, none⟩ = some (.int .i64 0) ∧ wc.cell? ⟨w.heap.size, 1, none⟩ = some (.slice none 0 0) := ⟨bx.cell 0, bx.cell 1⟩
        have xf0 := bx.frozen 0
        have xf1 := bx.frozen 1
        have hys := hO3
        cases v1 : decide (((l3 : Nat) : Int) ≤ 1000)
        all_goals
          have V1 := Lib.hid v1
          go_region
          go_wp2_with fail
          have dd := turn_set bx (.int .i64 a') (.slice Q3 (l3) r3)
          have V2 : Hid (decide (ys.length ≤ 1000) = decide (((l3 : Nat) : Int) ≤ 1000)) := Lib.hid (by rw [HYL.out, decide_eq_decide]; omega)
          refine bodyPost_ret (v := .tuple #[.agg #[.int .i64 a', .slice Q3 (l3) r3], .bool (decide (ys.length ≤ 1000))]) (by rw [V2.out, V1.out]; simp [results, Try.results84, go_sem, dd.cell 0, dd.cell 1]) rfl ?_
          refine ⟨Q3, r3, by rw [HYL.out], ?_, below_drewN (turn_below (y0.trans ((hZ3).mono y0.size)) (Nat.le_refl _) _ _) 1⟩
          show Own _ _ _ _ _ ys.length _ (ints ys)
          rw [HYL.out, HYS.out]
          exact ((turn_far hys b0.lt _ _).mono y0.size).drewN 1
    · have hne : (x0 == 1) = false := by simpa using hone
      have HYS : Hid (ys = xs.drop 1) := Lib.hid (by rw [EYS.out, if_neg hone]; simp)
      obtain ⟨l3, el3⟩ : ∃ l3, l3 = xs.length - 1 := ⟨_, rfl⟩
      rw [← el3] at hB hO
      have EL := Lib.hid el3
      clear el3
      go_wp2_with fail
      have HYL : Hid (ys.length = l3) := Lib.hid (by rw [HYS.out]; have := EL.out; simp; omega)
      have hkne : ¬ k = w.heap.size := by have := b0.lt; omega
      have bx := b0.below' (hZ)
      obtain ⟨z0, z1⟩ : wc.cell? ⟨k, 0, none⟩ = some (.int .i64 a') ∧ wc.cell? ⟨k, 1, none⟩ = some (.slice Q2 (l3) r2) := ⟨hB.cell 0, hB.cell 1⟩
      obtain ⟨x0, x1⟩ : wc.cell? ⟨w.heap.size, 0, none⟩ = some (.int .i64 0) ∧ wc.cell? ⟨w.heap.size, 1, none⟩ = some (.slice none 0 0) := ⟨bx.cell 0, bx.cell 1⟩
      have xf0 := bx.frozen 0
      have xf1 := bx.frozen 1
      have hys := hO
      cases v1 : decide (((l3 : Nat) : Int) ≤ 1000)
      all_goals
        have V1 := Lib.hid v1
        go_region
        go_wp2_with fail
        have dd := turn_set bx (.int .i64 a') (.slice Q2 (l3) r2)
        have V2 : Hid (decide (ys.length ≤ 1000) = decide (((l3 : Nat) : Int) ≤ 1000)) := Lib.hid (by rw [HYL.out, decide_eq_decide]; omega)
        refine bodyPost_ret (v := .tuple #[.agg #[.int .i64 a', .slice Q2 (l3) r2], .bool (decide (ys.length ≤ 1000))]) (by rw [V2.out, V1.out]; simp [results, Try.results84, go_sem, dd.cell 0, dd.cell 1]) rfl ?_
        refine ⟨Q2, r2, by rw [HYL.out], ?_, below_drewN (turn_below (y0.trans ((hZ).mono y0.size)) (Nat.le_refl _) _ _) 1⟩
        show Own _ _ _ _ _ ys.length _ (ints ys)
        rw [HYL.out, HYS.out]
        exact ((turn_far hys b0.lt _ _).mono y0.size).drewN 1
end Go.Proofs.Ythipbeggaeogcaa
