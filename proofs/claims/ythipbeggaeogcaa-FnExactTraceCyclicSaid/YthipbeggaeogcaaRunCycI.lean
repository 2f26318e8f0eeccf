/-
  Contract of impl.RunCyclic.
-/
import Derived.Test.YthipbeggaeogcaaCyclG
import Derived.Test.YthipbeggaeogcaaRunTagI
import Derived.Test.YthipbeggaeogcaaHelpTurnC
namespace Go.Proofs.Ythipbeggaeogcaa
open Go.RowKit

/-- A new turn, a number, a Bool and a code. -/
def NewTu4 (w : World) (r : Tu × Int × Bool × Int) (e : Ending) (w' : World) : Prop :=
  ∃ A c, e = .returned (.tuple #[.agg #[.int .i64 r.1.at_, .slice A r.1.word.length c], .int .i64 r.2.1, .bool r.2.2.1, .int .i64 r.2.2.2]) ∧ Own w' w.heap.size 2 1 A r.1.word.length c (ints r.1.word) ∧ Below w.heap.size w w'
theorem tu4_nil {w wf : World} {k : Int} {r : Tu × Int × Bool × Int} (hr : r = (⟨0, []⟩, 0, false, k)) (hz : Below w.heap.size w wf) : NewTu4 w r (.returned (.tuple #[.agg #[.int .i64 0, .slice none 0 0], .int .i64 0, .bool false, .int .i64 k])) wf := by
  subst hr; exact ⟨none, 0, rfl, Own.nil, hz⟩
theorem tu4_of {w wf : World} {a n' k : Int} {b : Bool} {r : Tu × Int × Bool × Int} {x : Tu} {A : Option Addr} {n c : Nat} (hr : r = (x, n', b, k)) (ha : a = x.at_) (hn : n = x.word.length) (ho : Own wf w.heap.size 2 1 A n c (ints x.word)) (hz : Below w.heap.size w wf) : NewTu4 w r (.returned (.tuple #[.agg #[.int .i64 a, .slice A n c], .int .i64 n', .bool b, .int .i64 k])) wf := by
  subst hr; subst hn; subst ha; exact ⟨A, c, rfl, ho, hz⟩
theorem runCycF_bad {words : List (List Int)} {x : Tu} {b : Int} (h : validTurnB words x = false) : runCycF words x b = (⟨0, []⟩, 0, false, 1) := by unfold runCycF; rw [h]; simp
theorem runCycF_range {words : List (List Int)} {x : Tu} {b : Int} (h : validTurnB words x = true) (h1 : inB b 1 20000 = false) : runCycF words x b = (⟨0, []⟩, 0, false, 2) := by unfold runCycF; rw [h, h1]; simp
theorem runCycF_ended {words : List (List Int)} {x : Tu} {N i : Nat} (h : validTurnB words x = true) (h1 : inB (N : Int) 1 20000 = true) (h2 : (cycSys words).Ended x N i) :
    runCycF words x (N : Int) = ((cycSys words).it x i, (i : Int), decide (((cycSys words).it x i).word.length = 0), 0) := by
  unfold runCycF; rw [h, h1, Int.toNat_natCast, Sys.run_ended h2]; simp
theorem runCycF_full {words : List (List Int)} {x : Tu} {N i : Nat} (h : validTurnB words x = true) (h1 : inB (N : Int) 1 20000 = true) (h2 : (cycSys words).Full x N i) :
    runCycF words x (N : Int) = (⟨0, []⟩, 0, false, 5) := by
  unfold runCycF; rw [h, h1, Int.toNat_natCast, Sys.run_full h2]; simp
theorem runCycF_len (words : List (List Int)) (x : Tu) (b : Int) : (runCycF words x b).1.word.length ≤ 1048576 := by
  unfold runCycF
  split
  · rename_i h
    split
    · split
      · rename_i i hi
        have := (validTurn_parts (cycAlive_good h (Sys.run_alive hi))).2.2.2.2.2.1
        show ((cycSys words).it x i).word.length ≤ _
        omega
      · simp
    · simp
  · simp

set_option maxRecDepth 100000 in
set_option maxHeartbeats 4000000 in
theorem runCycI_any (A : Option Addr) (n c : Nat) (ts : List Sl) (a : Int) (C : Option Addr) (l r : Nat) (xs : List Int) (b : Int) (w : World) (hx : SII w A n ts) (hz : SI w C l xs) (hn : n ≤ 1048576) (hns : ∀ t ∈ ts, t.xs.length ≤ 1048576) (hl : l ≤ 1048576) :
    Calls Try.prog 19 #[.agg #[.slice A n c], .agg #[.int .i64 a, .slice C l r], .int .i64 b] w (NewTu4 w (runCycF (nums ts) ⟨a, xs⟩ b)) := by
  obtain ⟨W, hW_⟩ : ∃ W, W = ((w.alloc (.cells #[.slice A n c] 33)).alloc (.cells #[.int .i64 a, .slice C l r] 30)).alloc (.cells #[.int .i64 0, .slice none 0 0] 30) := ⟨_, rfl⟩
  have s_1 : (w.alloc (.cells #[.slice A n c] 33)).heap.size = w.heap.size + 1 := by simp
  have s_2 : ((w.alloc (.cells #[.slice A n c] 33)).alloc (.cells #[.int .i64 a, .slice C l r] 30)).heap.size = w.heap.size + 1 + 1 := by simp
  have b0 : Blk W w.heap.size 33 #[.slice A n c] := by rw [hW_]; exact ((Blk.new w _ _).alloc _).alloc _
  have b1 : Blk W (w.heap.size + 1) 30 #[.int .i64 a, .slice C l r] := by rw [hW_, ← s_1]; exact (Blk.new _ _ _).alloc _
  have b2 : Blk W (w.heap.size + 1 + 1) 30 #[.int .i64 0, .slice none 0 0] := by rw [hW_, ← s_2]; exact Blk.new _ _ _
  have y0 : Below w.heap.size w W := by rw [hW_]; exact (((Below.refl _ _).alloc (Nat.le_refl _) _).alloc (by simp) _).alloc (by simp; omega) _
  have HW := Lib.hid hW_
  clear hW_ s_1 s_2
  have HNS := Lib.hid hns
  clear hns
  go_enter Try.func19, Try.ntmps19
  go_wp2_with fail
  rw [← HW.out]
  refine (validTurn_any _ _ _ ts _ _ _ _ xs _ (hx.below y0) (hz.below y0) hn hl HNS.out).mono ?_
  rintro e w2 ⟨rfl, z2⟩
  have y2 := y0.trans (z2.mono y0.size)
  have c0 := b0.below' z2
  have c1 := b1.below' z2
  have c2 := b2.below' z2
  have hg2 : w.heap.size + 1 + 1 < w2.heap.size := c2.lt
  have q0 : w2.cell? ⟨w.heap.size, 0, none⟩ = some (.slice A n c) := c0.cell 0
  have p0 : w2.cell? ⟨(w.heap.size + 1), 0, none⟩ = some (.int .i64 a) := c1.cell 0
  have p1 : w2.cell? ⟨(w.heap.size + 1), 1, none⟩ = some (.slice C l r) := c1.cell 1
  have u0 : w2.cell? ⟨(w.heap.size + 1 + 1), 0, none⟩ = some (.int .i64 0) := c2.cell 0
  have u1 : w2.cell? ⟨(w.heap.size + 1 + 1), 1, none⟩ = some (.slice none 0 0) := c2.cell 1
  have f0 := c2.frozen 0
  have f1 := c2.frozen 1
  cases a1 : validTurnB (nums ts) ⟨a, xs⟩
  · have HF := Lib.hid (runCycF_bad (b := b) a1)
    clear a1
    go_wp2_with fail
    have d1 := turn_set c2 (.int .i64 0) (.slice none 0 0)
    exact bodyPost_ret (v := .tuple #[.agg #[.int .i64 0, .slice none 0 0], .int .i64 0, .bool false, .int .i64 1]) (by simp [results, Try.results19, go_sem, d1.cell 0, d1.cell 1]) rfl (tu4_nil HF.out (turn_below y2 (by omega) _ _))
  have A1 := Lib.hid a1
  clear a1
  cases a2 : inB b 1 20000
  · have HF := Lib.hid (runCycF_range A1.out a2)
    have A2 := Lib.hid a2
    clear a2
    go_wp2_with (go_at_call 77; refine (budgetOk_is A2.out _).mono ?_; rintro e w' ⟨rfl, rfl⟩)
    have d1 := turn_set c2 (.int .i64 0) (.slice none 0 0)
    exact bodyPost_ret (v := .tuple #[.agg #[.int .i64 0, .slice none 0 0], .int .i64 0, .bool false, .int .i64 2]) (by simp [results, Try.results19, go_sem, d1.cell 0, d1.cell 1]) rfl (tu4_nil HF.out (turn_below y2 (by omega) _ _))
  have A2 := Lib.hid a2
  have hb := (inB_iff _ _ _).1 a2
  obtain ⟨N, rfl⟩ : ∃ N : Nat, b = (N : Int) := ⟨b.toNat, by omega⟩
  clear a2
  go_wp2_with (go_at_call 77; refine (budgetOk_is A2.out _).mono ?_; rintro e w' ⟨rfl, rfl⟩)
  refine (cyclicRunOf_any _ _ _ _ _ _ _ xs _ (hz.below y2) hl).mono ?_
  rintro e w3 ⟨g, Q, r3, rfl, hg3, hr3, ho3, hb3⟩
  have c3 := c2.below' hb3
  clear q0 p0 p1 u0 u1 f0 f1
  obtain ⟨p, hp⟩ : ∃ p : Cg, p = ⟨w2, g, A, n, c, ts, ⟨a, xs⟩⟩ := ⟨_, rfl⟩
  have hok : p.Ok := by rw [hp]; exact ⟨A1.out, hx.below y2, hg3, hn⟩
  have h0 : CgS p 0 (fun X W => X (w.heap.size + 1 + 1) ∧ Blk W (w.heap.size + 1 + 1) 30 #[.int .i64 0, .slice none 0 0]) w3 := by
    rw [hp]
    refine ⟨_, Q, r3, fun b => b = w.heap.size + 1 + 1, rfl, ⟨?_, ?_, hr3, ho3, ?_, hb3⟩, rfl, c3⟩
    · show ¬ g = _; omega
    · rintro b rfl; exact c3.lt
    · rintro b hb rfl; have := ho3.blk_ge _ hb; omega
  have hrun := runCycSys p hok N 80 #[] (fun _ => true) (fun _ X W => X (w.heap.size + 1 + 1) ∧ Blk W (w.heap.size + 1 + 1) 30 #[.int .i64 0, .slice none 0 0]) (fun _ X W W' h k => ⟨h.1, h.2.fr k h.1⟩) w3 (by omega) Try.call80 (fun i u W _ _ hv => (all_any u W).mono fun e W' ⟨he, hW⟩ => ⟨he, u, hW ▸ hv⟩) h0
  have hpg : p.g = g := by rw [hp]
  rw [hpg] at hrun
  have HRUN := Lib.hid hrun
  have HP := Lib.hid hp
  clear hrun hp h0 hpg hok c3
  go_wp2_with fail
  refine HRUN.out.mono ?_
  rintro e w4 (⟨i, hi, hal, _, hend, rfl, ⟨u, Q4, r4, X, _, ho, _, e4⟩⟩ | ⟨i, hi, hal, _, hh, hro, rfl, hF⟩)
  · have hen : (cycSys (nums ts)).Ended ⟨a, xs⟩ N i := by
      rw [HP.out] at hal hend
      refine ⟨hi, hal, ?_⟩
      rcases hend with h | h | h
      · cases h
      · exact .inl h
      · exact .inr h
    have HF := Lib.hid (runCycF_ended A1.out A2.out hen)
    have hit : p.it i = (cycSys (nums ts)).it ⟨a, xs⟩ i := by rw [HP.out]
    have hhal : p.sys.halt (p.it i) = decide (((cycSys (nums ts)).it ⟨a, xs⟩ i).word.length = 0) := by rw [HP.out]; rfl
    have hlow : Below w2.heap.size w2 w4 := by have := ho.low; rwa [HP.out] at this
    have hrn : CRun w4 g A n c (p.it i).at_ Q4 (p.it i).word.length r4 := by have := ho.run; rwa [HP.out] at this ⊢
    have hown := ho.own.rd
    rw [hit] at hrn hown
    rw [show p.sys.halt (p.sys.it p.x i) = _ from hhal]
    have hlen := (validTurn_parts (cycAlive_good A1.out hen.2.1)).2.2.2.2.2.1
    have y4 := y2.trans (hlow.mono y2.size)
    have hs4 := hlow.size
    clear ho hal hend hen hit hhal
    generalize (cycSys (nums ts)).it ⟨a, xs⟩ i = zs at *
    go_wp2_with fail
    refine (cyclicTurn_any hrn hown (by omega)).mono ?_
    rintro e w5 ⟨A5, c5, rfl, ho5, hb5⟩
    have e5 := e4.below' hb5
    have y5 := y4.trans (hb5.mono y4.size)
    have u0 : w5.cell? ⟨(w.heap.size + 1 + 1), 0, none⟩ = some (.int .i64 0) := e5.cell 0
    have u1 : w5.cell? ⟨(w.heap.size + 1 + 1), 1, none⟩ = some (.slice none 0 0) := e5.cell 1
    have f0 := e5.frozen 0
    have f1 := e5.frozen 1
    go_wp2_with fail
    have d1 := turn_set e5 (.int .i64 zs.at_) (.slice A5 zs.word.length c5)
    exact bodyPost_ret (v := .tuple #[.agg #[.int .i64 zs.at_, .slice A5 zs.word.length c5], .int .i64 (i : Int), .bool (decide (zs.word.length = 0)), .int .i64 0]) (by simp [results, Try.results19, go_sem, d1.cell 0, d1.cell 1]) rfl (tu4_of HF.out rfl rfl ((turn_far ho5 (by omega) _ _).mono (by omega)) (turn_below y5 (by omega) _ _))
  · have hfu : (cycSys (nums ts)).Full ⟨a, xs⟩ N i := by
      rw [HP.out] at hal hh hro
      exact ⟨hi, hal, hh, hro⟩
    have HF := Lib.hid (runCycF_full A1.out A2.out hfu)
    have hlow : Below w2.heap.size w2 w4 := by have := hF; rwa [HP.out] at this
    clear hal hh hro hfu
    have e5 := c2.below' hlow
    have y5 := y2.trans (hlow.mono y2.size)
    have u0 : w4.cell? ⟨(w.heap.size + 1 + 1), 0, none⟩ = some (.int .i64 0) := e5.cell 0
    have u1 : w4.cell? ⟨(w.heap.size + 1 + 1), 1, none⟩ = some (.slice none 0 0) := e5.cell 1
    have f0 := e5.frozen 0
    have f1 := e5.frozen 1
    go_wp2_with fail
    have d1 := turn_set e5 (.int .i64 0) (.slice none 0 0)
    exact bodyPost_ret (v := .tuple #[.agg #[.int .i64 0, .slice none 0 0], .int .i64 0, .bool false, .int .i64 5]) (by simp [results, Try.results19, go_sem, d1.cell 0, d1.cell 1]) rfl (tu4_nil HF.out (turn_below y5 (by omega) _ _))
end Go.Proofs.Ythipbeggaeogcaa
