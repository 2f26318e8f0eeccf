/-
  Contracts of impl.tracked, HeadTrack, CellsVisited, RecordsOf.
-/
import Derived.Test.YthipbeggaeogcaaQuickC
import Derived.Test.YthipbeggaeogcaaTnfP
import Derived.Test.YthipbeggaeogcaaOiis
namespace Go.Proofs.Ythipbeggaeogcaa
open Go.RowKit

theorem quickM_config (g : Nat) (w : World) : (method 386 179 (.pointer (some ⟨g, 0, none⟩)) "loop.example/g01079/impl.config").run Try.prog w = .ok (247, .pointer (some ⟨g, 0, none⟩)) w := by kernel_rfl
theorem quickM_step (g : Nat) (w : World) : (method 386 179 (.pointer (some ⟨g, 0, none⟩)) "loop.example/g01079/impl.step").run Try.prog w = .ok (248, .pointer (some ⟨g, 0, none⟩)) w := by kernel_rfl

theorem trackerStep_any (g b : Nat) (p a1 a2 a3 : Int) (w : World) : Calls Try.prog 248 #[.pointer (some ⟨b, 0, none⟩), .pointer (some ⟨g, 0, none⟩), .int .i64 p, .agg #[.int .i64 a1, .int .i64 a2, .int .i64 a3]] w fun e w' => (∃ u, e = .returned u) ∧ Below w.heap.size w w' := by
  go_enter Try.func248, Try.ntmps248
  go_wp2_with fail
  exact bodyPost_end (results_none rfl _ _ _) rfl ⟨⟨_, rfl⟩, (Below.refl _ _).alloc (Nat.le_refl _) _⟩

def TrackP (w : World) (sy : Int) (rs : List R3) (N : Nat) (e : Ending) (w' : World) : Prop :=
  (∃ (i b : Nat) (P : Option Addr) (pc : Nat) (R : Option Addr) (rc : Nat) (rq : List Rq), Ended sy rs blankC N i ∧ e = .returned (.tuple #[.pointer (some ⟨b, 0, none⟩), .bool (haltC sy rs (itC sy rs blankC i)), .int .i64 0]) ∧ Blk w' b 186 #[.slice P (i + 1) pc, .slice R rq.length rc, .int .i64 (exF sy rs blankC (i + 1)).1, .int .i64 (exF sy rs blankC (i + 1)).2.1] ∧
    Own w' w.heap.size 2 1 P (i + 1) pc (ints (posTo sy rs blankC (i + 1))) ∧ Own w' w.heap.size 194 5 R rq.length rc (rq.flatMap Rq.cells) ∧ rq.map Rq.val = (exF sy rs blankC (i + 1)).2.2 ∧ Below w.heap.size w w') ∨
  (∃ i b, Full sy rs blankC N i ∧ e = .returned (.tuple #[.pointer (some ⟨b, 0, none⟩), .bool false, .int .i64 5]) ∧ Below w.heap.size w w')

set_option maxHeartbeats 2000000 in
theorem tracked_any (sy st : Int) (A : Option Addr) (n k : Nat) (rs : List R3) (N : Nat) (w : World) (hr : S3 w A n rs) (hn : n ≤ 1048576) (hg : goodC sy st rs blankC) (hN : N ≤ 1000000) :
    Calls Try.prog 141 #[.agg #[.int .i64 sy, .int .i64 st, .slice A n k], .int .i64 (N : Int)] w (TrackP w sy rs N) := by
  obtain ⟨W, hW_⟩ : ∃ W, W = (w.alloc (.cells #[.int .i64 sy, .int .i64 st, .slice A n k] 82)).alloc (.cells #[.slice none 0 0, .slice none 0 0, .int .i64 0, .int .i64 0] 186) := ⟨_, rfl⟩
  have s_1 : (w.alloc (.cells #[.int .i64 sy, .int .i64 st, .slice A n k] 82)).heap.size = w.heap.size + 1 := by simp
  have b0 : Blk W w.heap.size 82 #[.int .i64 sy, .int .i64 st, .slice A n k] := by rw [hW_]; exact (Blk.new w _ _).alloc _
  have b1 : Blk W (w.heap.size + 1) 186 #[.slice none 0 0, .slice none 0 0, .int .i64 0, .int .i64 0] := by rw [hW_, ← s_1]; exact Blk.new _ _ _
  have y0 : Below w.heap.size w W := by rw [hW_]; exact ((Below.refl _ _).alloc (Nat.le_refl _) _).alloc (by simp) _
  have HW := Lib.hid hW_
  clear hW_ s_1
  have q0 : W.cell? ⟨w.heap.size, 0, none⟩ = some (.int .i64 sy) := b0.cell 0
  have q1 : W.cell? ⟨w.heap.size, 1, none⟩ = some (.int .i64 st) := b0.cell 1
  have q2 : W.cell? ⟨w.heap.size, 2, none⟩ = some (.slice A n k) := b0.cell 2
  have hd0 : QD w (w.heap.size + 1) sy rs blankC 0 (fun x => x = w.heap.size + 1) W := ⟨none, 0, none, 0, [], rfl, fun x hx => by simp [blk] at hx, fun x hx => by simp [blk] at hx, by omega, b1, Own.nil, Own.nil, rfl⟩
  have hb1 := b1.lt
  have HF := Lib.hid (follow_any w W sy st A n k rs blankC none 0 0 none 0 0 N 179 (.pointer (some ⟨w.heap.size + 1, 0, none⟩)) (.pointer (some ⟨w.heap.size + 1, 0, none⟩)) _ _ (fun i => QD w (w.heap.size + 1) sy rs blankC i) (fun i => QD w (w.heap.size + 1) sy rs blankC (i + 1)) (fun x => x = w.heap.size + 1)
    hr SI.nil SI.nil hn (by omega) (by omega) hg hN y0 (fun b hb => by subst hb; exact hb1) hd0 (fun i => QD.st _ _ _ _ _ _) (fun i => QD.st _ _ _ _ _ _) (quickM_config _) (quickM_step _) Try.call247 Try.call248
    (fun i g W hi hal hS => quickConfig_any w g sy st A n k rs blankC i (w.heap.size + 1) W (hal.good hg) (by omega) hS)
    (fun i g W hi hal hh hS => (trackerStep_any g (w.heap.size + 1) _ _ _ _ W).mono fun e W' ⟨he, z⟩ => ⟨he, hS.below (QD.st _ _ _ _ _ _) z, fun b cs hb => hb.below' z⟩))
  clear b0 b1 hd0 hb1 hg
  go_enter Try.func141, Try.ntmps141
  go_wp2_with fail
  rw [← HW.out]
  refine HF.out.mono ?_
  rintro e W1 (⟨i, g, _, hE, rfl, hS⟩ | ⟨i, hE, rfl, hz⟩)
  · have HE := Lib.hid hE
    obtain ⟨P, pc, R, rc, rq, hq, hv⟩ := hS.qx
    have HV := Lib.hid hv
    clear hE hv hS q0 q1 q2
    go_wp2_with fail
    exact bodyPost_ret (v := .tuple #[.pointer (some ⟨w.heap.size + 1, 0, none⟩), .bool (haltC sy rs (itC sy rs blankC i)), .int .i64 0]) (by simp [results, Try.results141, go_sem]) rfl (.inl ⟨i, w.heap.size + 1, P, pc, R, rc, rq, HE.out, rfl, hq.box, hq.pos, hq.recs, HV.out, hq.low⟩)
  · have HE := Lib.hid hE
    clear hE q0 q1 q2
    go_wp2_with fail
    exact bodyPost_ret (v := .tuple #[.pointer (some ⟨w.heap.size + 1, 0, none⟩), .bool false, .int .i64 5]) (by simp [results, Try.results141, go_sem]) rfl (.inr ⟨i, w.heap.size + 1, HE.out, rfl, hz⟩)

/-- What HeadTrack returns. -/
def headTrackF (sy st : Int) (rs : List R3) (b : Int) : List Int × Int :=
  if machB sy st rs then
    if inB b 0 60 then
      match runN sy rs b.toNat blankC with
      | some i => (posTo sy rs blankC (i + 1), 0)
      | none => ([], 5)
    else ([], 2)
  else ([], 1)
theorem headTrackF_ended {sy st : Int} {rs : List R3} {N i : Nat} (h : machB sy st rs = true) (h1 : inB (N : Int) 0 60 = true) (h2 : Ended sy rs blankC N i) : headTrackF sy st rs (N : Int) = (posTo sy rs blankC (i + 1), 0) := by unfold headTrackF; rw [h, h1, Int.toNat_natCast, runN_ended h2]; rfl
theorem headTrackF_full {sy st : Int} {rs : List R3} {N i : Nat} (h : machB sy st rs = true) (h1 : inB (N : Int) 0 60 = true) (h2 : Full sy rs blankC N i) : headTrackF sy st rs (N : Int) = ([], 5) := by unfold headTrackF; rw [h, h1, Int.toNat_natCast, runN_full h2]; rfl
theorem headTrackF_len (sy st : Int) (rs : List R3) (b : Int) : (headTrackF sy st rs b).1.length ≤ 1048576 := by
  unfold headTrackF
  split
  · split
    · rename_i h
      have hb := (inB_iff _ _ _).1 h
      rcases run_cases sy rs b.toNat blankC with ⟨i, hi⟩ | ⟨i, hi⟩
      · rw [runN_ended hi]
        show (posTo sy rs blankC (i + 1)).length ≤ _
        rw [posTo_len]
        have := hi.1
        omega
      · rw [runN_full hi]; simp
    · simp
  · simp
theorem newI2_nil' {w wf : World} {k : Int} {r : List Int × Int} (hr : r = ([], k)) (hz : Below w.heap.size w wf) : NewI2 w r (.returned (.tuple #[.slice none 0 0, .int .i64 k])) wf := by
  subst hr
  exact ⟨none, 0, rfl, Own.nil, hz⟩
theorem newI2_of' {w wf : World} {k : Int} {r : List Int × Int} {xs : List Int} {n : Nat} {A : Option Addr} {c : Nat} (hr : r = (xs, k)) (hn : xs.length = n) (ho : Own wf w.heap.size 2 1 A n c (ints xs)) (hz : Below w.heap.size w wf) : NewI2 w r (.returned (.tuple #[.slice A n c, .int .i64 k])) wf := by
  subst hr
  subst hn
  exact ⟨A, c, rfl, ho, hz⟩

set_option maxHeartbeats 2000000 in
theorem headTrackI_any (sy st : Int) (A : Option Addr) (n k : Nat) (rs : List R3) (b : Int) (w : World) (hr : S3 w A n rs) (hn : n ≤ 1048576) :
    Calls Try.prog 62 #[.agg #[.int .i64 sy, .int .i64 st, .slice A n k], .int .i64 b] w (NewI2 w (headTrackF sy st rs b)) := by
  obtain ⟨W, hW_⟩ : ∃ W, W = w.alloc (.cells #[.int .i64 sy, .int .i64 st, .slice A n k] 82) := ⟨_, rfl⟩
  have b0 : Blk W w.heap.size 82 #[.int .i64 sy, .int .i64 st, .slice A n k] := by rw [hW_]; exact Blk.new w _ _
  have y0 : Below w.heap.size w W := by rw [hW_]; exact (Below.refl _ _).alloc (Nat.le_refl _) _
  have HW := Lib.hid hW_
  clear hW_
  have q0 : W.cell? ⟨w.heap.size, 0, none⟩ = some (.int .i64 sy) := b0.cell 0
  have q1 : W.cell? ⟨w.heap.size, 1, none⟩ = some (.int .i64 st) := b0.cell 1
  have q2 : W.cell? ⟨w.heap.size, 2, none⟩ = some (.slice A n k) := b0.cell 2
  go_enter Try.func62, Try.ntmps62
  go_wp2_with fail
  rw [← HW.out]
  refine (validMachine_any _ _ _ _ _ rs _ (hr.below y0) hn).mono ?_
  rintro e W1 ⟨rfl, z1⟩
  have y1 := y0.trans (z1.mono y0.size)
  have b1 := b0.below' z1
  clear q0 q1 q2
  have q0 : W1.cell? ⟨w.heap.size, 0, none⟩ = some (.int .i64 sy) := b1.cell 0
  have q1 : W1.cell? ⟨w.heap.size, 1, none⟩ = some (.int .i64 st) := b1.cell 1
  have q2 : W1.cell? ⟨w.heap.size, 2, none⟩ = some (.slice A n k) := b1.cell 2
  cases a0 : machB sy st rs
  · have HF : Hid (headTrackF sy st rs b = ([], 1)) := Lib.hid (by unfold headTrackF; rw [a0]; rfl)
    clear a0
    go_wp2_with fail
    exact bodyPost_ret (v := .tuple #[.slice none 0 0, .int .i64 1]) (by simp [results, Try.results62, go_sem]) rfl (newI2_nil' HF.out y1)
  have A0 := Lib.hid a0
  have hg : goodC sy st rs blankC := by show validConfB sy st rs 0 [] [] = true; rw [blank_good]; exact a0
  clear a0
  cases a1 : inB b 0 60
  · have HF : Hid (headTrackF sy st rs b = ([], 2)) := Lib.hid (by unfold headTrackF; rw [A0.out, a1]; rfl)
    have A1 := Lib.hid a1
    clear a1
    go_wp2_with (go_at_call 85; refine (within_is A1.out _).mono ?_; rintro e w' ⟨rfl, rfl⟩)
    exact bodyPost_ret (v := .tuple #[.slice none 0 0, .int .i64 2]) (by simp [results, Try.results62, go_sem]) rfl (newI2_nil' HF.out y1)
  have A1 := Lib.hid a1
  have hb := (inB_iff _ _ _).1 a1
  clear a1
  obtain ⟨N, rfl⟩ : ∃ N : Nat, b = (N : Int) := ⟨b.toNat, by omega⟩
  have HTR := Lib.hid (tracked_any sy st A n k rs N W1 (hr.below y1) hn hg (by omega))
  go_wp2_with (go_at_call 85; refine (within_is A1.out _).mono ?_; rintro e w' ⟨rfl, rfl⟩)
  refine HTR.out.mono ?_
  rintro e W2 (⟨i, b, P, pc, R, rc, rq, hE, rfl, hbx, hps, hrs, hv, z2⟩ | ⟨i, b, hE, rfl, z2⟩)
  · have HF := Lib.hid (headTrackF_ended A0.out A1.out hE)
    have HLN : Hid ((posTo sy rs blankC (i + 1)).length = i + 1) := Lib.hid (posTo_len _ _ _ _)
    have y2 := y1.trans (z2.mono y1.size)
    have x0 := hbx.cell 0
    clear hE hv q0 q1 q2
    go_wp2_with fail
    exact bodyPost_ret (v := .tuple #[.slice P (i + 1) pc, .int .i64 0]) (by simp [results, Try.results62, go_sem]) rfl (newI2_of' HF.out HLN.out (hps.mono y1.size) y2)
  · have HF := Lib.hid (headTrackF_full A0.out A1.out hE)
    have y2 := y1.trans (z2.mono y1.size)
    clear hE q0 q1 q2
    go_wp2_with fail
    exact bodyPost_ret (v := .tuple #[.slice none 0 0, .int .i64 5]) (by simp [results, Try.results62, go_sem]) rfl (newI2_nil' HF.out y2)
end Go.Proofs.Ythipbeggaeogcaa
