/-
  Contract of impl.RunCyclic.
-/
import Derived.Test.YthipbeggaeogcaaPkRunCyclicTag3
import Derived.Test.YthipbeggaeogcaaPkRunCyclicTag5
import Derived.Test.YthipbeggaeogcaaPkRunCyclicTag6
import Derived.Test.YthipbeggaeogcaaPkRunCyclicTag7
namespace Go.Proofs.Ythipbeggaeogcaa
open Go.RowKit

/-- A new turn, a number, a Bool and a code. -/
def NewTu4 (w : World) (r : Tu × Int × Bool × Int) (e : Ending) (w' : World) : Prop :=
  ∃ A c, e = .returned (.tuple #[.agg #[.int .i64 r.1.at_, .slice A r.1.word.length c], .int .i64 r.2.1, .bool r.2.2.1, .int .i64 r.2.2.2]) ∧ Own w' w.heap.size 2 1 A r.1.word.length c (ints r.1.word) ∧ Below w.heap.size w w'
theorem tu4_nil {w wf : World} {k : Int} {r : Tu × Int × Bool × Int} (hr : r = (⟨0, []⟩, 0, false, k)) (hz : Below w.heap.size w wf) : NewTu4 w r (.returned (.tuple #[.agg #[.int .i64 0, .slice none 0 0], .int .i64 0, .bool false, .int .i64 k])) wf := by
  subst hr; exact ⟨none, 0, rfl, Own.nil, hz⟩
theorem tu4_of {w wf : World} {a n' k : Int} {b : Bool} {r : Tu × Int × Bool × Int} {x : Tu} {A : Option Addr} {n c : Nat} (hr : r = (x, n', b, k)) (ha : a = x.at_) (hn : n = x.word.length) (ho : Own wf w.heap.size 2 1 A n c (ints x.word)) (hz : Below w.heap.size w wf) : NewTu4 w r (.returned (.tuple #[.agg #[.int .i64 a, .slice A n c], .int .i64 n', .bool b, .int .i64 k])) wf := by
  subst hr; subst hn; subst ha; exact ⟨A, c, rfl, ho, hz⟩
theorem runCycF_bad {words : List (List Int)} {x : Tu} {b : Int} (h : validTurnB words x = false) : runCycF words x b = (⟨0, []⟩, 0, false, 1) := by unfold runCycF; rw [h]; simp
theorem runCycF_range {words : List (List Int)} {x : Tu} {b : Int} (h : validTurnB words x = true) (h1 : inB b 1 20000 = false) : runCycF words x b = (⟨0, []⟩, 0, false, 2) := by unfold runCycF; rw [h, h1]; simp
theorem runCycF_ended {words : List (List Int)} {x : Tu} {N i : Nat} (h : validTurnB words x = true) (h1 : inB (N : Int) 1 20000 = true) (h2 : (cycSys words).Ended x N i) :
    runCycF words x (N : Int) = ((cycSys words).it x i, (i : Int), decide (((cycSys words).it x i).word.length = 0), 0) := by
  unfold runCycF; rw [h, h1, Int.toNat_natCast, Sys.run_ended h2]; simp
theorem runCycF_full {words : List (List Int)} {x : Tu} {N i : Nat} (h : validTurnB words x = true) (h1 : inB (N : Int) 1 20000 = true) (h2 : (cycSys words).Full x N i) :
    runCycF words x (N : Int) = (⟨0, []⟩, 0, false, 5) := by
  unfold runCycF; rw [h, h1, Int.toNat_natCast, Sys.run_full h2]; simp
theorem runCycF_len (words : List (List Int)) (x : Tu) (b : Int) : (runCycF words x b).1.word.length ≤ 1048576 := by
  unfold runCycF
  split
  · rename_i h
    split
    · split
      · rename_i i hi
        have := (validTurn_parts (cycAlive_good h (Sys.run_alive hi))).2.2.2.2.2.1
        show ((cycSys words).it x i).word.length ≤ _
        omega
      · simp
    · simp
  · simp

set_option maxRecDepth 100000 in
set_option maxHeartbeats 4000000 in
theorem runCycI_any (A : Option Addr) (n c : Nat) (ts : List Sl) (a : Int) (C : Option Addr) (l r : Nat) (xs : List Int) (b : Int) (w : World) (hx : SII w A n ts) (hz : SI w C l xs) (hn : n ≤ 1048576) (hns : ∀ t ∈ ts, t.xs.length ≤ 1048576) (hl : l ≤ 1048576) :
    Calls Try.prog 19 #[.agg #[.slice A n c], .agg #[.int .i64 a, .slice C l r], .int .i64 b] w (NewTu4 w (runCycF (nums ts) ⟨a, xs⟩ b)) := by
  obtain ⟨W, hW_⟩ : ∃ W, W = ((w.alloc (.cells #[.slice A n c] 33)).alloc (.cells #[.int .i64 a, .slice C l r] 30)).alloc (.cells #[.int .i64 0, .slice none 0 0] 30) := ⟨_, rfl⟩
  have s_1 : (w.alloc (.cells #[.slice A n c] 33)).heap.size = w.heap.size + 1 := by simp
  have s_2 : ((w.alloc (.cells #[.slice A n c] 33)).alloc (.cells #[.int .i64 a, .slice C l r] 30)).heap.size = w.heap.size + 1 + 1 := by simp
  have b0 : Blk W w.heap.size 33 #[.slice A n c] := by rw [hW_]; exact ((Blk.new w _ _).alloc _).alloc _
  have b1 : Blk W (w.heap.size + 1) 30 #[.int .i64 a, .slice C l r] := by rw [hW_, ← s_1]; exact (Blk.new _ _ _).alloc _
  have b2 : Blk W (w.heap.size + 1 + 1) 30 #[.int .i64 0, .slice none 0 0] := by rw [hW_, ← s_2]; exact Blk.new _ _ _
  have y0 : Below w.heap.size w W := by rw [hW_]; exact (((Below.refl _ _).alloc (Nat.le_refl _) _).alloc (by simp) _).alloc (by simp; omega) _
  have HW := Lib.hid hW_
  clear hW_ s_1 s_2
  have HNS := Lib.hid hns
  clear hns
  go_enter Try.func19, Try.ntmps19
  go_wp2_with fail
  rw [← HW.out]
  refine (validTurn_any _ _ _ ts _ _ _ _ xs _ (hx.below y0) (hz.below y0) hn hl HNS.out).mono ?_
  rintro e w2 ⟨rfl, z2⟩
  have y2 := y0.trans (z2.mono y0.size)
  have c0 := b0.below' z2
  have c1 := b1.below' z2
  have c2 := b2.below' z2
  have hg2 : w.heap.size + 1 + 1 < w2.heap.size := c2.lt
  have q0 : w2.cell? ⟨w.heap.size, 0, none⟩ = some (.slice A n c) := c0.cell 0
  have p0 : w2.cell? ⟨(w.heap.size + 1), 0, none⟩ = some (.int .i64 a) := c1.cell 0
  have p1 : w2.cell? ⟨(w.heap.size + 1), 1, none⟩ = some (.slice C l r) := c1.cell 1
  have u0 : w2.cell? ⟨(w.heap.size + 1 + 1), 0, none⟩ = some (.int .i64 0) := c2.cell 0
  have u1 : w2.cell? ⟨(w.heap.size + 1 + 1), 1, none⟩ = some (.slice none 0 0) := c2.cell 1
  have f0 := c2.frozen 0
  have f1 := c2.frozen 1
  cases a1 : validTurnB (nums ts) ⟨a, xs⟩
  · have HF := Lib.hid (runCycF_bad (b := b) a1)
    clear a1
    go_wp2_with fail
    have d1 := turn_set c2 (.int .i64 0) (.slice none 0 0)
    exact bodyPost_ret (v := .tuple #[.agg #[.int .i64 0, .slice none 0 0], .int .i64 0, .bool false, .int .i64 1]) (by simp [results, Try.results19, go_sem, d1.cell 0, d1.cell 1]) rfl (tu4_nil HF.out (turn_below y2 (by omega) _ _))
  have A1 := Lib.hid a1
  clear a1
  cases a2 : inB b 1 20000
  · have HF := Lib.hid (runCycF_range A1.out a2)
    have A2 := Lib.hid a2
    clear a2
    go_wp2_with (go_at_call 77; refine (budgetOk_is A2.out _).mono ?_; rintro e w' ⟨rfl, rfl⟩)
    have d1 := turn_set c2 (.int .i64 0) (.slice none 0 0)
    exact bodyPost_ret (v := .tuple #[.agg #[.int .i64 0, .slice none 0 0], .int .i64 0, .bool false, .int .i64 2]) (by simp [results, Try.results19, go_sem, d1.cell 0, d1.cell 1]) rfl (tu4_nil HF.out (turn_below y2 (by omega) _ _))
  have A2 := Lib.hid a2
  have hb := (inB_iff _ _ _).1 a2
  obtain ⟨N, rfl⟩ : ∃ N : Nat, b = (N : Int) := ⟨b.toNat, by omega⟩
  clear a2
  go_wp2_with (go_at_call 77; refine (budgetOk_is A2.out _).mono ?_; rintro e w' ⟨rfl, rfl⟩)
  refine (cyclicRunOf_any _ _ _ _ _ _ _ xs _ (hz.below y2) hl).mono ?_
  rintro e w3 ⟨g, Q, r3, rfl, hg3, hr3, ho3, hb3⟩
  have c3 := c2.below' hb3
  clear q0 p0 p1 u0 u1 f0 f1
  obtain ⟨p, hp⟩ : ∃ p : Cg, p = ⟨w2, g, A, n, c, ts, ⟨a, xs⟩⟩ := ⟨_, rfl⟩
  have hok : p.Ok := by rw [hp]; exact ⟨A1.out, hx.below y2, hg3, hn⟩
  have h0 : CgS p 0 (fun X W => X (w.heap.size + 1 + 1) ∧ Blk W (w.heap.size + 1 + 1) 30 #[.int .i64 0, .slice none 0 0]) w3 := by
    rw [hp]
    refine ⟨_, Q, r3, fun b => b = w.heap.size + 1 + 1, rfl, ⟨?_, ?_, hr3, ho3, ?_, hb3⟩, rfl, c3⟩
    · show ¬ g = _; omega
    · rintro b rfl; exact c3.lt
    · rintro b hb rfl; have := ho3.blk_ge _ hb; omega
  have hrun := runCycSys p hok N 80 #[] (fun _ => true) (fun _ X W => X (w.heap.size + 1 + 1) ∧ Blk W (w.heap.size + 1 + 1) 30 #[.int .i64 0, .slice none 0 0]) (fun _ X W W' h k => ⟨h.1, h.2.fr k h.1⟩) w3 (by omega) Try.call80 (fun i u W _ _ hv => (all_any u W).mono fun e W' ⟨he, hW⟩ => ⟨he, u, hW ▸ hv⟩) h0
  have hpg : p.g = g := by rw [hp]
  rw [hpg] at hrun
  have HRUN := Lib.hid hrun
  have HP := Lib.hid hp
  clear hrun hp h0 hpg hok c3
  go_wp2_with fail
  refine HRUN.out.mono ?_
  rintro e w4 (⟨i, hi, hal, _, hend, rfl, ⟨u, Q4, r4, X, _, ho, _, e4⟩⟩ | ⟨i, hi, hal, _, hh, hro, rfl, hF⟩)
  · have hen : (cycSys (nums ts)).Ended ⟨a, xs⟩ N i := by
      rw [HP.out] at hal hend
      refine ⟨hi, hal, ?_⟩
      rcases hend with h | h | h
      · cases h
      · exact .inl h
      · exact .inr h
    have HF := Lib.hid (runCycF_ended A1.out A2.out hen)
    have hit : p.it i = (cycSys (nums ts)).it ⟨a, xs⟩ i := by rw [HP.out]
    have hhal : p.sys.halt (p.it i) = decide (((cycSys (nums ts)).it ⟨a, xs⟩ i).word.length = 0) := by rw [HP.out]; rfl
    have hlow : Below w2.heap.size w2 w4 := by have := ho.low; rwa [HP.out] at this
    have hrn : CRun w4 g A n c (p.it i).at_ Q4 (p.it i).word.length r4 := by have := ho.run; rwa [HP.out] at this ⊢
    have hown := ho.own.rd
    rw [hit] at hrn hown
    rw [show p.sys.halt (p.sys.it p.x i) = _ from hhal]
    have hlen := (validTurn_parts (cycAlive_good A1.out hen.2.1)).2.2.2.2.2.1
    have y4 := y2.trans (hlow.mono y2.size)
    have hs4 := hlow.size
    clear ho hal hend hen hit hhal
    generalize (cycSys (nums ts)).it ⟨a, xs⟩ i = zs at *
    go_wp2_with fail
    refine (cyclicTurn_any hrn hown (by omega)).mono ?_
    rintro e w5 ⟨A5, c5, rfl, ho5, hb5⟩
    have e5 := e4.below' hb5
    have y5 := y4.trans (hb5.mono y4.size)
    have u0 : w5.cell? ⟨(w.heap.size + 1 + 1), 0, none⟩ = some (.int .i64 0) := e5.cell 0
    have u1 : w5.cell? ⟨(w.heap.size + 1 + 1), 1, none⟩ = some (.slice none 0 0) := e5.cell 1
    have f0 := e5.frozen 0
    have f1 := e5.frozen 1
    go_wp2_with fail
    have d1 := turn_set e5 (.int .i64 zs.at_) (.slice A5 zs.word.length c5)
    exact bodyPost_ret (v := .tuple #[.agg #[.int .i64 zs.at_, .slice A5 zs.word.length c5], .int .i64 (i : Int), .bool (decide (zs.word.length = 0)), .int .i64 0]) (by simp [results, Try.results19, go_sem, d1.cell 0, d1.cell 1]) rfl (tu4_of HF.out rfl rfl ((turn_far ho5 (by omega) _ _).mono (by omega)) (turn_below y5 (by omega) _ _))
  · have hfu : (cycSys (nums ts)).Full ⟨a, xs⟩ N i := by
      rw [HP.out] at hal hh hro
      exact ⟨hi, hal, hh, hro⟩
    have HF := Lib.hid (runCycF_full A1.out A2.out hfu)
    have hlow : Below w2.heap.size w2 w4 := by have := hF; rwa [HP.out] at this
    clear hal hh hro hfu
    have e5 := c2.below' hlow
    have y5 := y2.trans (hlow.mono y2.size)
    have u0 : w4.cell? ⟨(w.heap.size + 1 + 1), 0, none⟩ = some (.int .i64 0) := e5.cell 0
    have u1 : w4.cell? ⟨(w.heap.size + 1 + 1), 1, none⟩ = some (.slice none 0 0) := e5.cell 1
    have f0 := e5.frozen 0
    have f1 := e5.frozen 1
    go_wp2_with fail
    have d1 := turn_set e5 (.int .i64 0) (.slice none 0 0)
    exact bodyPost_ret (v := .tuple #[.agg #[.int .i64 0, .slice none 0 0], .int .i64 0, .bool false, .int .i64 5]) (by simp [results, Try.results19, go_sem, d1.cell 0, d1.cell 1]) rfl (tu4_nil HF.out (turn_below y5 (by omega) _ _))
end Go.Proofs.Ythipbeggaeogcaa

/-
  Contracts of the reference's l09Next, l09RunCyclic, RunCyclic.
-/
namespace Go.Proofs.Ythipbeggaeogcaa
open Go.RowKit

/-- What l09Next returns. -/
def NextTu (w : World) (x : Tu) (room : Bool) (e : Ending) (w' : World) : Prop :=
  ∃ Q r, e = .returned (.tuple #[.agg #[.int .i64 x.at_, .slice Q x.word.length r], .bool room]) ∧ Own w' w.heap.size 2 1 Q x.word.length r (ints x.word) ∧ Below w.heap.size w w'

set_option maxRecDepth 100000 in
set_option maxHeartbeats 4000000 in
theorem l09Next_any (g f : Nat) (A : Option Addr) (n c : Nat) (ts : List Sl) (a : Nat) (C : Option Addr) (l r : Nat) (xs : List Int) (t : Sl) (w : World) (ht : CyclAt w g A n c) (hf : TurnAt w f (a : Int) C l r) (hx : SII w A n ts) (hz : SI w C l xs) (hn : n ≤ 1048576) (hl0 : 0 < l) (hl : l ≤ r) (hl1 : l ≤ 1048576) (ha : a < n) (hT : Hid (ts[a]? = some t)) (htl : t.xs.length ≤ 1048576) :
    Calls Try.prog 84 #[.pointer (some ⟨g, 0, none⟩), .pointer (some ⟨f, 0, none⟩)] w (NextTu w ⟨((a : Int) + 1).tmod n, xs.tail ++ if xs.headD 0 = 1 then t.xs else []⟩ (decide ((xs.tail ++ if xs.headD 0 = 1 then t.xs else []).length ≤ 1000))) := by
  obtain rfl : xs.length = l := hz.len
  obtain ⟨ys, eys⟩ : ∃ ys, ys = xs.tail ++ (if xs.headD 0 = 1 then t.xs else []) := ⟨_, rfl⟩
  obtain ⟨a', ea⟩ : ∃ a', a' = ((a : Int) + 1) % n := ⟨_, rfl⟩
  rw [← eys, Int.tmod_eq_emod_of_nonneg (by omega), ← ea]
  have EYS := Lib.hid eys
  have EA := Lib.hid ea
  clear eys ea
  obtain ⟨W, hW_⟩ : ∃ W, W = w.alloc (.cells #[.int .i64 0, .slice none 0 0] 30) := ⟨_, rfl⟩
  have b0 : Blk W w.heap.size 30 #[.int .i64 0, .slice none 0 0] := by rw [hW_]; exact Blk.new w _ _
  have y0 : Below w.heap.size w W := by rw [hW_]; exact (Below.refl _ _).alloc (Nat.le_refl _) _
  have HW := Lib.hid hW_
  clear hW_
  have ht0 := ht.below y0
  have hf0 := hf.below y0
  have gl := ht0.lt
  have fl := hf0.lt
  have hf0' := hf0
  obtain ⟨c1, c2⟩ := hf0'
  have c0 : W.cell? ⟨g, 0, none⟩ = some (.slice A n c) := ht0
  have hz0 := hz.below y0
  have hi3 : (0 : Int) < (xs.length : Int) := by omega
  have hq := Rd.from_ (k := 1) hz0 hl0 hl
  rw [ints_drop] at hq
  have KEEP : Hid (∀ cur, Below W.heap.size W cur → cur.cell? ⟨f, 0, none⟩ = some (.int .i64 (a : Int)) ∧ cur.cell? ⟨g, 0, none⟩ = some (.slice A n c) ∧ cur.cell? ⟨f, 1, none⟩ = some (.slice C xs.length r)) := fun cur h =>
    ⟨(h.cell (p := ⟨f, 0, none⟩) fl).trans c1, (h.cell (p := ⟨g, 0, none⟩) gl).trans c0, (h.cell (p := ⟨f, 1, none⟩) fl).trans c2⟩
  have ZA : Hid (∀ q, Below W.heap.size W ((W.drewN q).alloc (.cells #[.int .i64 0, .slice none 0 0] 30))) := Lib.hid fun q => (below_drewN (Below.refl _ _) q).alloc (Nat.le_refl _) _
  go_enter Try.func84, Try.ntmps84
  go_upto_region 1 with fail
  rw [← HW.out]
  go_cut [5, 6] (fun s5 s6 wx => s5 = .bool false ∧ ∃ k Q2 r2, s6 = .pointer (some ⟨k, 0, none⟩) ∧ W.heap.size ≤ k ∧ Blk wx k 30 #[.int .i64 a', .slice Q2 (xs.length - 1) r2] ∧ Own wx W.heap.size 2 1 Q2 (xs.length - 1) r2 (ints (xs.drop 1)) ∧ Below W.heap.size W wx)
  case first =>
    have TM : Hid (((a : Int) + 1).tmod n = a') := Lib.hid (by rw [EA.out]; exact Int.tmod_eq_emod_of_nonneg (by omega))
    have E1 : Hid ((xs.drop 1).length = xs.length - 1) := Lib.hid (by rw [List.length_drop])
    have n0 : ¬ n = 0 := by omega
    have n1 : ¬ (n : Int) = 0 := by omega
    have w1 : IntKind.i64.wrap ((a : Int) + 1) = (a : Int) + 1 := IntWalk.i64_in _ (by omega)
    have l1 : (1 : Int) ≤ (xs.length : Int) := by omega
    have l2 : (xs.length : Int) ≤ (r : Int) := by omega
    by_cases hr1 : r = 1
    all_goals
      first | rw [if_pos hr1] at hq | rw [if_neg hr1] at hq
      go_region_held3 (fun w' => w'.cell? ⟨f, 0, none⟩ = some (.int .i64 (a : Int)) ∧ w'.cell? ⟨g, 0, none⟩ = some (.slice A n c) ∧ w'.cell? ⟨f, 1, none⟩ = some (.slice C xs.length r))
        (first
          | (go_keep; done)
          | (exact KEEP.out _ zz)
          | (exact KEEP.out _ (zz.alloc zz.size _))
          | (exact KEEP.out _ (ZA.out _))
          | (exact KEEP.out _ ((zz.setCell (Nat.le_refl _) _).setCell (Nat.le_refl _) _)))
        (first
          | (go_at_call 83; refine (l00Own_any _ _ _ (xs.drop 1) _ (by first | exact hq.drewN _ | exact (hq.drewN _).alloc _) (by omega)).mono ?_; rintro e w' ⟨A2, c2', rfl, ho, hb⟩; 
             first
               | (have zz : Below W.heap.size W w' := below_undrew hb)
               | (have zz : Below W.heap.size W w' := (ZA.out _).trans (hb.mono (by simp))
                  have ba : Blk w' W.heap.size 30 #[.int .i64 0, .slice none 0 0] := (Blk.new W 30 #[.int .i64 0, .slice none 0 0]).below' (below_undrew (n := 1) hb)
                  have p0 : w'.cell? ⟨W.heap.size, 0, none⟩ = some (.int .i64 0) := ba.cell 0
                  have p1 : w'.cell? ⟨W.heap.size, 1, none⟩ = some (.slice none 0 0) := ba.cell 1
                  have q0 := ba.frozen 0
                  have q1 := ba.frozen 1)))
    all_goals
      go_wp2_with fail
      go_meet
      try rw [TM.out]
      rw [E1.out] at ho
      first
        | exact ⟨rfl, W.heap.size, A2, c2', rfl, Nat.le_refl _, turn_set ba _ _, (turn_far ho (by simp) _ _).mono (by simp), turn_below zz (Nat.le_refl _) _ _⟩
        | exact ⟨rfl, w'.heap.size, A2, c2', rfl, zz.size, Blk.new w' _ _, (ho.alloc _).mono (by simp), zz.alloc zz.size _⟩
        | trace_state
  case rest =>
    obtain ⟨rfl, k, Q2, r2, rfl, hk, hB, hO, hZ⟩ := hcut
    obtain ⟨b, off, hC, _, hc⟩ := SI.at0 (xs := xs) (hz0.below hZ) hl0
    obtain ⟨x0, ex0⟩ : ∃ x, x = xs.headD 0 := ⟨_, rfl⟩
    rw [← ex0] at hc EYS
    clear c0 c1 c2 ex0 hq
    subst hC
    obtain ⟨c1, c0, c2⟩ := KEEP.out _ hZ
    by_cases hone : x0 = 1
    · subst hone
      obtain ⟨t', b', off', hT', htm, rfl, hbl', hc', hrow⟩ := ((hx.below y0).below hZ).pick ha
      obtain rfl : t = t' := by have h1 := hT.out; have h2 := hT'.out; rw [h1] at h2; simpa using h2
      clear hT'
      have j1 : (0 : Int) ≤ (a : Int) := by omega
      have j2 : (a : Int) < (n : Int) := by omega
      have e1 : wc.cell? ⟨k, 1, none⟩ = some (.slice Q2 (xs.length - 1) r2) := hB.cell 1
      have e2 := hB.frozen 1
      have HG : Hid (blk Q2 ≠ some k) := Lib.hid (hB.aptt hO (by decide))
      have HYS : Hid (ys = xs.drop 1 ++ t.xs) := Lib.hid (by rw [EYS.out]; simp)
      go_upto_region 3 with fail
      go_cut [5, 6] (fun s5 s6 wy => s5 = .bool false ∧ s6 = .pointer (some ⟨k, 0, none⟩) ∧ ∃ A2 r3, Blk wy k 30 #[.int .i64 a', .slice A2 (xs.length - 1 + t.xs.length) r3] ∧ Own wy W.heap.size 2 1 A2 (xs.length - 1 + t.xs.length) r3 (ints (xs.drop 1 ++ t.xs)) ∧ Below W.heap.size W wy)
      case first =>
        go_region_law
          ((refine step_append_Own rfl (.tmp 33) (.tmp 43) rfl elI (lo := W.heap.size) rfl (by exact hO.drewN _) rfl (by exact hrow.drewN _) (ints_one t.xs) (by omega) (by simp only [maxLen]; omega) (by exact hZ.size) ?_; intro A2 c2' w2 ho2 hg2 hwh2
            have hB2 : Blk w2 k 30 #[.int .i64 a', .slice Q2 (xs.length - 1) r2] := Blk.growt (w := wc.drewN 1) hB (hO.drewN 1) hg2 (by decide)
            have e3 : w2.cell? ⟨k, 1, none⟩ = some (.slice Q2 (xs.length - 1) r2) := hB2.cell 1
            have f3 := hB2.frozen 1))
        all_goals
          go_wp2_with fail
          go_meet
          refine ⟨rfl, rfl, A2, c2', hB2.set_ 1 _, ?_, ?_⟩
          · rw [← ints_append]
            exact ho2.far (p := ⟨k, 1, none⟩) (hB2.aptt ho2 (by decide)) _
          · exact ((hO.drewN 1).below_of (below_drewN hZ 1) hg2 hZ.size).setCell (p := ⟨k, 1, none⟩) hk _
      case rest =>
        obtain ⟨rfl, rfl, Q3, r3, hB3, hO3, hZ3⟩ := hcut
        clear c0 c1 c2 e1
        obtain ⟨l3, el3⟩ : ∃ l3, l3 = xs.length - 1 + t.xs.length := ⟨_, rfl⟩
        rw [← el3] at hB3 hO3
        have EL := Lib.hid el3
        clear el3
        go_wp2_with fail
        have HYL : Hid (ys.length = l3) := Lib.hid (by rw [HYS.out]; have := EL.out; simp; omega)
        have hkne : ¬ k = w.heap.size := by have := b0.lt; omega
        have bx := b0.below' (hZ3)
        obtain ⟨z0, z1⟩ : wc.cell? ⟨k, 0, none⟩ = some (.int .i64 a') ∧ wc.cell? ⟨k, 1, none⟩ = some (.slice Q3 (l3) r3) := ⟨hB3.cell 0, hB3.cell 1⟩
        obtain ⟨x0, x1⟩ : wc.cell? ⟨w.heap.size, 0, none⟩ = some (.int .i64 0) ∧ wc.cell? ⟨w.heap.size, 1, none⟩ = some (.slice none 0 0) := ⟨bx.cell 0, bx.cell 1⟩
        have xf0 := bx.frozen 0
        have xf1 := bx.frozen 1
        have hys := hO3
        cases v1 : decide (((l3 : Nat) : Int) ≤ 1000)
        all_goals
          have V1 := Lib.hid v1
          go_region
          go_wp2_with fail
          have dd := turn_set bx (.int .i64 a') (.slice Q3 (l3) r3)
          have V2 : Hid (decide (ys.length ≤ 1000) = decide (((l3 : Nat) : Int) ≤ 1000)) := Lib.hid (by rw [HYL.out, decide_eq_decide]; omega)
          refine bodyPost_ret (v := .tuple #[.agg #[.int .i64 a', .slice Q3 (l3) r3], .bool (decide (ys.length ≤ 1000))]) (by rw [V2.out, V1.out]; simp [results, Try.results84, go_sem, dd.cell 0, dd.cell 1]) rfl ?_
          refine ⟨Q3, r3, by rw [HYL.out], ?_, below_drewN (turn_below (y0.trans ((hZ3).mono y0.size)) (Nat.le_refl _) _ _) 1⟩
          show Own _ _ _ _ _ ys.length _ (ints ys)
          rw [HYL.out, HYS.out]
          exact ((turn_far hys b0.lt _ _).mono y0.size).drewN 1
    · have hne : (x0 == 1) = false := by simpa using hone
      have HYS : Hid (ys = xs.drop 1) := Lib.hid (by rw [EYS.out, if_neg hone]; simp)
      obtain ⟨l3, el3⟩ : ∃ l3, l3 = xs.length - 1 := ⟨_, rfl⟩
      rw [← el3] at hB hO
      have EL := Lib.hid el3
      clear el3
      go_wp2_with fail
      have HYL : Hid (ys.length = l3) := Lib.hid (by rw [HYS.out]; have := EL.out; simp; omega)
      have hkne : ¬ k = w.heap.size := by have := b0.lt; omega
      have bx := b0.below' (hZ)
      obtain ⟨z0, z1⟩ : wc.cell? ⟨k, 0, none⟩ = some (.int .i64 a') ∧ wc.cell? ⟨k, 1, none⟩ = some (.slice Q2 (l3) r2) := ⟨hB.cell 0, hB.cell 1⟩
      obtain ⟨x0, x1⟩ : wc.cell? ⟨w.heap.size, 0, none⟩ = some (.int .i64 0) ∧ wc.cell? ⟨w.heap.size, 1, none⟩ = some (.slice none 0 0) := ⟨bx.cell 0, bx.cell 1⟩
      have xf0 := bx.frozen 0
      have xf1 := bx.frozen 1
      have hys := hO
      cases v1 : decide (((l3 : Nat) : Int) ≤ 1000)
      all_goals
        have V1 := Lib.hid v1
        go_region
        go_wp2_with fail
        have dd := turn_set bx (.int .i64 a') (.slice Q2 (l3) r2)
        have V2 : Hid (decide (ys.length ≤ 1000) = decide (((l3 : Nat) : Int) ≤ 1000)) := Lib.hid (by rw [HYL.out, decide_eq_decide]; omega)
        refine bodyPost_ret (v := .tuple #[.agg #[.int .i64 a', .slice Q2 (l3) r2], .bool (decide (ys.length ≤ 1000))]) (by rw [V2.out, V1.out]; simp [results, Try.results84, go_sem, dd.cell 0, dd.cell 1]) rfl ?_
        refine ⟨Q2, r2, by rw [HYL.out], ?_, below_drewN (turn_below (y0.trans ((hZ).mono y0.size)) (Nat.le_refl _) _ _) 1⟩
        show Own _ _ _ _ _ ys.length _ (ints ys)
        rw [HYL.out, HYS.out]
        exact ((turn_far hys b0.lt _ _).mono y0.size).drewN 1
end Go.Proofs.Ythipbeggaeogcaa

/-
  Contracts of the reference's l09RunCyclic and RunCyclic.
-/
namespace Go.Proofs.Ythipbeggaeogcaa
open Go.RowKit

theorem l09Next_g {g f : Nat} {A : Option Addr} {n c : Nat} {ts : List Sl} {x : Tu} {C : Option Addr} {r : Nat} {w : World} (ht : CyclAt w g A n c) (hf : TurnAt w f x.at_ C x.word.length r) (hx : SII w A n ts) (hz : SI w C x.word.length x.word) (hv : validTurnB (nums ts) x = true) (hh : (cycSys (nums ts)).halt x = false) (hl : x.word.length ≤ r) :
    Calls Try.prog 84 #[.pointer (some ⟨g, 0, none⟩), .pointer (some ⟨f, 0, none⟩)] w (NextTu w ((cycSys (nums ts)).next x) ((cycSys (nums ts)).room x)) := by
  have hln : (nums ts).length = n := by have := hx.len; simpa [nums] using this
  obtain ⟨h1, h2, h3, h4, h5, h6, _⟩ := validTurn_parts hv
  rw [hln] at h1 h2 h5
  have hl0 : 0 < x.word.length := by have : ¬ x.word.length = 0 := by simpa [cycSys] using hh
                                     omega
  obtain ⟨a, ha⟩ : ∃ a : Nat, x.at_ = (a : Int) := ⟨x.at_.toNat, by omega⟩
  have hlt : a < ts.length := by have := hx.len; omega
  have hT : ts[a]? = some ts[a] := List.getElem?_eq_getElem hlt
  have htl : ts[a].xs.length ≤ 1000 := h3 _ (List.mem_map.2 ⟨ts[a], List.getElem_mem hlt, rfl⟩)
  have hnx : (cycSys (nums ts)).next x = ⟨((a : Int) + 1).tmod n, x.word.tail ++ if x.word.headD 0 = 1 then ts[a].xs else []⟩ := by
    show cycNext (nums ts) x = _
    unfold cycNext cycWord
    rw [ha, hln, Int.toNat_natCast]
    have hg : (nums ts).getD a [] = ts[a].xs := by simp [nums, hT]
    rw [hg]
  have hrm : (cycSys (nums ts)).room x = decide ((x.word.tail ++ if x.word.headD 0 = 1 then ts[a].xs else []).length ≤ 1000) := by
    show decide (((cycSys (nums ts)).next x).word.length ≤ 1000) = _
    rw [hnx]
  rw [hnx, hrm]
  rw [ha] at hf
  exact l09Next_any g f A n c ts a C _ r x.word ts[a] w ht hf hx hz (by omega) hl0 hl (by omega) (by omega) (Lib.hid hT) (by omega)

/-- What l09RunCyclic returns. -/
def SpecRunC (w : World) (s : Sys Tu) (x : Tu) (N : Nat) (e : Ending) (w' : World) : Prop :=
  ((∃ i A c, s.Ended x N i ∧ e = .returned (.tuple #[.agg #[.int .i64 (s.it x i).at_, .slice A (s.it x i).word.length c], .int .i64 (i : Int), .bool (decide ((s.it x i).word.length = 0)), .bool true]) ∧ Own w' w.heap.size 2 1 A (s.it x i).word.length c (ints (s.it x i).word)) ∨
    (∃ i, s.Full x N i) ∧ e = .returned (.tuple #[.agg #[.int .i64 0, .slice none 0 0], .int .i64 0, .bool false, .bool false])) ∧ Below w.heap.size w w'

set_option maxRecDepth 100000 in
set_option maxHeartbeats 8000000 in
theorem l09RunCyc_any (g : Nat) (A : Option Addr) (n c : Nat) (ts : List Sl) (a : Int) (C : Option Addr) (l r : Nat) (xs : List Int) (N : Nat) (w : World) (ht : CyclAt w g A n c) (hx : SII w A n ts) (hz : SI w C l xs) (hv : validTurnB (nums ts) ⟨a, xs⟩ = true) (hN : N ≤ 1000000) :
    Calls Try.prog 74 #[.pointer (some ⟨g, 0, none⟩), .agg #[.int .i64 a, .slice C l r], .int .i64 (N : Int)] w (SpecRunC w (cycSys (nums ts)) ⟨a, xs⟩ N) := by
  obtain rfl : xs.length = l := hz.len
  have h6 := (validTurn_parts hv).2.2.2.2.2.1
  have h6' : xs.length ≤ 1000 := h6
  obtain ⟨x, hx_⟩ : ∃ x : Tu, x = ⟨a, xs⟩ := ⟨_, rfl⟩
  obtain ⟨s, hs_⟩ : ∃ s, s = cycSys (nums ts) := ⟨_, rfl⟩
  rw [← hx_] at hv ⊢
  rw [← hs_]
  have HS := Lib.hid hs_
  have HX := Lib.hid hx_
  clear hs_ hx_ h6
  have HG : Hid (∀ i, s.Alive x i → validTurnB (nums ts) (s.it x i) = true ∧ (s.it x i).word.length ≤ 1000) := Lib.hid (fun i hi => by
    rw [HS.out] at hi ⊢
    have h1 := cycAlive_good hv hi
    exact ⟨h1, (validTurn_parts h1).2.2.2.2.2.1⟩)
  have HV := Lib.hid hv
  clear hv
  obtain ⟨W, hW_⟩ : ∃ W, W = (w.alloc (.cells #[.int .i64 a, .slice C xs.length r] 30)).alloc (.cells #[.int .i64 0, .slice none 0 0] 30) := ⟨_, rfl⟩
  have s_1 : (w.alloc (.cells #[.int .i64 a, .slice C xs.length r] 30)).heap.size = w.heap.size + 1 := by simp
  have b0 : Blk W w.heap.size 30 #[.int .i64 a, .slice C xs.length r] := by rw [hW_]; exact (Blk.new w _ _).alloc _
  have b1 : Blk W (w.heap.size + 1) 30 #[.int .i64 0, .slice none 0 0] := by rw [hW_, ← s_1]; exact Blk.new _ _ _
  have y0 : Below w.heap.size w W := by rw [hW_]; exact ((Below.refl _ _).alloc (Nat.le_refl _) _).alloc (by simp) _
  have HW := Lib.hid hW_
  clear hW_ s_1
  have gl := b1.lt
  have c0 : W.cell? ⟨w.heap.size, 0, none⟩ = some (.int .i64 a) := b0.cell 0
  have c1 : W.cell? ⟨w.heap.size, 1, none⟩ = some (.slice C xs.length r) := b0.cell 1
  have hq := hz.below y0
  have KEEP : Hid (∀ cur, Below W.heap.size W cur → cur.cell? ⟨w.heap.size, 0, none⟩ = some (.int .i64 a) ∧ cur.cell? ⟨w.heap.size, 1, none⟩ = some (.slice C xs.length r)) := fun cur h =>
    ⟨(b0.below' h).cell 0, (b0.below' h).cell 1⟩
  have ZA : Hid (∀ q, Below W.heap.size W ((W.drewN q).alloc (.cells #[.int .i64 0, .slice none 0 0] 30))) := Lib.hid fun q => (below_drewN (Below.refl _ _) q).alloc (Nat.le_refl _) _
  go_enter Try.func74, Try.ntmps74
  go_upto_region 1 with fail
  rw [← HW.out]
  go_cut [10] (fun s10 wx => ∃ k Q2 r2, s10 = .pointer (some ⟨k, 0, none⟩) ∧ W.heap.size ≤ k ∧ Blk wx k 30 #[.int .i64 a, .slice Q2 xs.length r2] ∧ Own wx W.heap.size 2 1 Q2 xs.length r2 (ints xs) ∧ Below W.heap.size W wx)
  case first =>
    go_region_held3 (fun w' => w'.cell? ⟨w.heap.size, 0, none⟩ = some (.int .i64 a) ∧ w'.cell? ⟨w.heap.size, 1, none⟩ = some (.slice C xs.length r))
      (first
        | (go_keep; done)
        | (exact KEEP.out _ zz)
        | (exact KEEP.out _ (zz.alloc zz.size _))
        | (exact KEEP.out _ (ZA.out _))
        | (exact KEEP.out _ ((zz.setCell (Nat.le_refl _) _).setCell (Nat.le_refl _) _)))
      (first
        | (go_at_call 83; refine (l00Own_any _ _ _ xs _ (by first | exact hq.drewN _ | exact (hq.drewN _).alloc _) (by omega)).mono ?_; rintro e w' ⟨A2, c2', rfl, ho, hb⟩
           first
             | (have zz : Below W.heap.size W w' := below_undrew hb)
             | (have zz : Below W.heap.size W w' := (ZA.out _).trans (hb.mono (by simp))
                have ba : Blk w' W.heap.size 30 #[.int .i64 0, .slice none 0 0] := (Blk.new W 30 #[.int .i64 0, .slice none 0 0]).below' (below_undrew (n := 1) hb)
                have p0 : w'.cell? ⟨W.heap.size, 0, none⟩ = some (.int .i64 0) := ba.cell 0
                have p1 : w'.cell? ⟨W.heap.size, 1, none⟩ = some (.slice none 0 0) := ba.cell 1
                have q0 := ba.frozen 0
                have q1 := ba.frozen 1)))
    all_goals
      go_wp2_with fail
      go_meet
      first
        | exact ⟨W.heap.size, A2, c2', rfl, Nat.le_refl _, turn_set ba _ _, (turn_far ho (by simp) _ _).mono (by simp), turn_below zz (Nat.le_refl _) _ _⟩
        | exact ⟨w'.heap.size, A2, c2', rfl, zz.size, Blk.new w' _ _, (ho.alloc _).mono (by simp), zz.alloc zz.size _⟩
        | trace_state
  case rest =>
    obtain ⟨k, Q2, r2, rfl, hk, hB, hO, hZ⟩ := hcut
    clear c0 c1
    have hx0 : x.at_ = a ∧ x.word = xs := by rw [HX.out]; exact ⟨rfl, rfl⟩
    go_wp2_with fail
    go_loopw [11] (fun n wr => ∃ (i : Nat) (Q : Option Addr) (cq : Nat), n = .int .i64 (i : Int) ∧ i ≤ N ∧ s.Alive x i ∧ Blk wr k 30 #[.int .i64 (s.it x i).at_, .slice Q (s.it x i).word.length cq] ∧ Own wr W.heap.size 2 1 Q (s.it x i).word.length cq (ints (s.it x i).word) ∧ Below W.heap.size W wr) (fun n _ => N - (intOf n).toNat)
    case atStart => 
      refine ⟨0, Q2, r2, rfl, Nat.zero_le _, Sys.Alive.zero _ _, ?_, ?_, hZ⟩
      · show Blk _ k _ #[.int .i64 x.at_, .slice Q2 x.word.length r2]; rw [hx0.1, hx0.2]; exact hB
      · show Own _ _ _ _ _ x.word.length _ (ints x.word); rw [hx0.2]; exact hO
    case round =>
      obtain ⟨i, Q, cq, rfl, hi, hal, hb, ho, hb'⟩ := hrel
      have HAL := Lib.hid hal
      obtain ⟨hvi, hlen⟩ := HG.out i hal
      have HVI := Lib.hid hvi
      clear hal hvi hB hO hZ
      have hkne : ¬ k = w.heap.size + 1 := by omega
      have bx := b1.below' hb'
      have hcap := ho.le
      have z0 : wr.cell? ⟨k, 0, none⟩ = some (.int .i64 (s.it x i).at_) := hb.cell 0
      have z1 : wr.cell? ⟨k, 1, none⟩ = some (.slice Q (s.it x i).word.length cq) := hb.cell 1
      have u0 : wr.cell? ⟨(w.heap.size + 1), 0, none⟩ = some (.int .i64 0) := bx.cell 0
      have u1 : wr.cell? ⟨(w.heap.size + 1), 1, none⟩ = some (.slice none 0 0) := bx.cell 1
      have f0 := bx.frozen 0
      have f1 := bx.frozen 1
      have fk0 := hb.frozen 0
      have fk1 := hb.frozen 1
      by_cases hlt : i < N
      · by_cases hh : (s.it x i).word.length = 0
        · have HH : Hid (s.halt (s.it x i) = true) := Lib.hid (by rw [HS.out]; show decide (((cycSys (nums ts)).it x i).word.length = 0) = true; rw [HS.out] at hh; simpa using hh)
          have HW0 := Lib.hid hh
          have hd : ((((s.it x i).word.length : Nat) : Int) == 0) = true := by rw [HW0.out]; rfl
          clear hh
          go_wp2_with fail
          have d1 := turn_set bx (.int .i64 (s.it x i).at_) (.slice Q (s.it x i).word.length cq)
          exact bodyPost_ret (v := .tuple #[.agg #[.int .i64 (s.it x i).at_, .slice Q (s.it x i).word.length cq], .int .i64 (i : Int), .bool true, .bool true]) (by simp [results, Try.results74, go_sem, d1.cell 0, d1.cell 1]) rfl
            ⟨.inl ⟨i, Q, cq, ⟨hi, HAL.out, .inr HH.out⟩, by rw [HW0.out]; simp, (turn_far2 bx (ho.mono y0.size) _ _)⟩, turn_below (y0.trans (hb'.mono y0.size)) (by omega) _ _⟩
        · have HH : Hid (s.halt (s.it x i) = false) := Lib.hid (by rw [HS.out]; show decide (((cycSys (nums ts)).it x i).word.length = 0) = false; rw [HS.out] at hh; simpa using hh)
          have hd : ((((s.it x i).word.length : Nat) : Int) == 0) = false := by rw [beq_eq_false_iff_ne]; omega
          have hstep := l09Next_g (f := k) (C := Q) (r := cq) (x := s.it x i) ((ht.below y0).below hb') ⟨hb.cell 0, hb.cell 1⟩ ((hx.below y0).below hb') ho.rd HVI.out (by rw [← HS.out]; exact HH.out) hcap
          rw [← HS.out] at hstep
          have HSTEP := Lib.hid hstep
          clear hstep
          go_wp2_with fail
          refine HSTEP.out.mono ?_
          rintro e W3 ⟨Q3, c3, rfl, ho3, hb3⟩
          have hb4 : Below W.heap.size W W3 := hb'.trans (hb3.mono hb'.size)
          have hk3 := hb.below' hb3
          have hnx : s.it x (i + 1) = s.next (s.it x i) := rfl
          have HNX := Lib.hid hnx
          clear hnx z0 z1 u0 u1 f0 f1 fk0 fk1
          generalize s.next (s.it x i) = nx at *
          obtain ⟨w5, hW_⟩ : ∃ W_, W_ = W3.alloc (.cells #[.int .i64 nx.at_, .slice Q3 nx.word.length c3] 30) := ⟨_, rfl⟩
          have b5 : Blk w5 W3.heap.size 30 #[.int .i64 nx.at_, .slice Q3 nx.word.length c3] := by rw [hW_]; exact Blk.new W3 _ _
          have z5 : Below W3.heap.size W3 w5 := by rw [hW_]; exact (Below.refl _ _).alloc (Nat.le_refl _) _
          have Hw5 := Lib.hid hW_
          clear hW_
          have hs3 := hb3.size
          have hk5 := hk3.below' z5
          have bx5 := (bx.below' hb3).below' z5
          have hb5 := hb4.trans (z5.mono hb4.size)
          have z0 : w5.cell? ⟨W3.heap.size, 0, none⟩ = some (.int .i64 nx.at_) := b5.cell 0
          have z1 : w5.cell? ⟨W3.heap.size, 1, none⟩ = some (.slice Q3 nx.word.length c3) := b5.cell 1
          have yy0 : w5.cell? ⟨k, 0, none⟩ = some (.int .i64 (s.it x i).at_) := hk5.cell 0
          have yy1 : w5.cell? ⟨k, 1, none⟩ = some (.slice Q (s.it x i).word.length cq) := hk5.cell 1
          have u0 : w5.cell? ⟨(w.heap.size + 1), 0, none⟩ = some (.int .i64 0) := bx5.cell 0
          have u1 : w5.cell? ⟨(w.heap.size + 1), 1, none⟩ = some (.slice none 0 0) := bx5.cell 1
          have f0 := bx5.frozen 0
          have f1 := bx5.frozen 1
          have fk0 := hk5.frozen 0
          have fk1 := hk5.frozen 1
          cases hr : s.room (s.it x i) with
          | true =>
            have HR := Lib.hid hr
            clear hr
            go_upto_region 8 with fail
            rw [← Hw5.out]
            go_wp2_with fail
            go_roundw
            case rel =>
              refine ⟨i + 1, Q3, c3, by go_num, by omega, HAL.out.step HH.out HR.out, ?_, ?_, turn_below hb5 hk _ _⟩
              · rw [HNX.out]; exact turn_set hk5 _ _
              · rw [HNX.out]; exact turn_far2 hk5 ((ho3.below z5).mono hb'.size) _ _
            case measure => simp [intOf]; omega
          | false =>
            have HR := Lib.hid hr
            clear hr
            go_upto_region 8 with fail
            rw [← Hw5.out]
            go_wp2_with fail
            have d1 := turn_set bx5 (.int .i64 0) (.slice none 0 0)
            exact bodyPost_ret (v := .tuple #[.agg #[.int .i64 0, .slice none 0 0], .int .i64 0, .bool false, .bool false]) (by simp [results, Try.results74, go_sem, d1.cell 0, d1.cell 1]) rfl ⟨.inr ⟨⟨i, hlt, HAL.out, HH.out, HR.out⟩, rfl⟩, turn_below (y0.trans (hb5.mono y0.size)) (by omega) _ _⟩
      · have hiN : i = N := by omega
        have HIN := Lib.hid hiN
        clear hiN
        go_wp2_with fail
        cases v1 : ((((s.it x i).word.length : Nat) : Int) == 0)
        all_goals
          have V1 := Lib.hid v1
          have V2 : Hid (decide ((s.it x i).word.length = 0) = ((((s.it x i).word.length : Nat) : Int) == 0)) := Lib.hid (by rw [Bool.eq_iff_iff]; simp)
          go_region
          go_wp2_with fail
          have d1 := turn_set bx (.int .i64 (s.it x i).at_) (.slice Q (s.it x i).word.length cq)
          refine bodyPost_ret (v := .tuple #[.agg #[.int .i64 (s.it x i).at_, .slice Q (s.it x i).word.length cq], .int .i64 (N : Int), .bool (decide ((s.it x i).word.length = 0)), .bool true]) (by rw [V2.out, V1.out]; simp [results, Try.results74, go_sem, d1.cell 0, d1.cell 1]) rfl ?_
          exact ⟨.inl ⟨i, Q, cq, ⟨hi, HAL.out, .inl HIN.out⟩, by rw [HIN.out], (turn_far2 bx (ho.mono y0.size) _ _).drewN 1⟩, below_drewN (turn_below (y0.trans (hb'.mono y0.size)) (by omega) _ _) 1⟩

set_option maxRecDepth 100000 in
set_option maxHeartbeats 4000000 in
theorem runCycS_any (A : Option Addr) (n c : Nat) (ts : List Sl) (a : Int) (C : Option Addr) (l r : Nat) (xs : List Int) (b : Int) (w : World) (hx : SII w A n ts) (hz : SI w C l xs) (hn : n ≤ 1048576) (hns : ∀ t ∈ ts, t.xs.length ≤ 1048576) (hl : l ≤ 1048576) :
    Calls Try.prog 16 #[.agg #[.slice A n c], .agg #[.int .i64 a, .slice C l r], .int .i64 b] w (NewTu4 w (runCycF (nums ts) ⟨a, xs⟩ b)) := by
  obtain ⟨W, hW_⟩ : ∃ W, W = ((w.alloc (.cells #[.slice A n c] 33)).alloc (.cells #[.int .i64 a, .slice C l r] 30)).alloc (.cells #[.int .i64 0, .slice none 0 0] 30) := ⟨_, rfl⟩
  have s_1 : (w.alloc (.cells #[.slice A n c] 33)).heap.size = w.heap.size + 1 := by simp
  have s_2 : ((w.alloc (.cells #[.slice A n c] 33)).alloc (.cells #[.int .i64 a, .slice C l r] 30)).heap.size = w.heap.size + 1 + 1 := by simp
  have b0 : Blk W w.heap.size 33 #[.slice A n c] := by rw [hW_]; exact ((Blk.new w _ _).alloc _).alloc _
  have b1 : Blk W (w.heap.size + 1) 30 #[.int .i64 a, .slice C l r] := by rw [hW_, ← s_1]; exact (Blk.new _ _ _).alloc _
  have b2 : Blk W (w.heap.size + 1 + 1) 30 #[.int .i64 0, .slice none 0 0] := by rw [hW_, ← s_2]; exact Blk.new _ _ _
  have y0 : Below w.heap.size w W := by rw [hW_]; exact (((Below.refl _ _).alloc (Nat.le_refl _) _).alloc (by simp) _).alloc (by simp; omega) _
  have HW := Lib.hid hW_
  clear hW_ s_1 s_2
  have ht : CyclAt W w.heap.size A n c := b0.cell 0
  have hf : TurnAt W (w.heap.size + 1) a C l r := ⟨b1.cell 0, b1.cell 1⟩
  go_enter Try.func16, Try.ntmps16
  go_wp2_with fail
  rw [← HW.out]
  refine (l09AskCyclic_any _ _ _ _ _ ts _ _ _ _ xs _ ht hf (hx.below y0) (hz.below y0) hn hl hns).mono ?_
  rintro e w' ⟨rfl, q, rfl⟩
  have y2 := below_drewN y0 q
  have t2 : CyclAt (W.drewN q) w.heap.size A n c := ht
  have c1 := b1.drewN q
  have c2 := b2.drewN q
  generalize W.drewN q = w2 at *
  have hg2 : w.heap.size + 1 + 1 < w2.heap.size := c2.lt
  have p0 : w2.cell? ⟨(w.heap.size + 1), 0, none⟩ = some (.int .i64 a) := c1.cell 0
  have p1 : w2.cell? ⟨(w.heap.size + 1), 1, none⟩ = some (.slice C l r) := c1.cell 1
  have u0 : w2.cell? ⟨(w.heap.size + 1 + 1), 0, none⟩ = some (.int .i64 0) := c2.cell 0
  have u1 : w2.cell? ⟨(w.heap.size + 1 + 1), 1, none⟩ = some (.slice none 0 0) := c2.cell 1
  have f0 := c2.frozen 0
  have f1 := c2.frozen 1
  cases a1 : validTurnB (nums ts) ⟨a, xs⟩
  · have HF := Lib.hid (runCycF_bad (b := b) a1)
    clear a1
    rw [if_neg (by decide)]
    go_wp2_with fail
    have d1 := turn_set c2 (.int .i64 0) (.slice none 0 0)
    exact bodyPost_ret (v := .tuple #[.agg #[.int .i64 0, .slice none 0 0], .int .i64 0, .bool false, .int .i64 1]) (by simp [results, Try.results16, go_sem, d1.cell 0, d1.cell 1]) rfl (tu4_nil HF.out (turn_below y2 (by omega) _ _))
  rw [if_pos rfl]
  have A1 := Lib.hid a1
  clear a1
  cases a2 : inB b 1 20000
  · have HF := Lib.hid (runCycF_range A1.out a2)
    have A2 := Lib.hid a2
    clear a2
    go_wp2_with (go_at_call 73; refine (l05Budget_is A2.out _).mono ?_; rintro e w' ⟨rfl, rfl⟩)
    have d1 := turn_set c2 (.int .i64 0) (.slice none 0 0)
    exact bodyPost_ret (v := .tuple #[.agg #[.int .i64 0, .slice none 0 0], .int .i64 0, .bool false, .int .i64 2]) (by simp [results, Try.results16, go_sem, d1.cell 0, d1.cell 1]) rfl (tu4_nil HF.out (turn_below y2 (by omega) _ _))
  have A2 := Lib.hid a2
  have hb := (inB_iff _ _ _).1 a2
  obtain ⟨N, rfl⟩ : ∃ N : Nat, b = (N : Int) := ⟨b.toNat, by omega⟩
  clear a2
  go_wp2_with (go_at_call 73; refine (l05Budget_is A2.out _).mono ?_; rintro e w' ⟨rfl, rfl⟩)
  refine (l09RunCyc_any _ _ _ _ ts _ _ _ _ xs N _ t2 (hx.below y2) (hz.below y2) A1.out (by omega)).mono ?_
  rintro e w4 ⟨hcase, z4⟩
  have y4 := y2.trans (z4.mono y2.size)
  have hs4 := z4.size
  clear p0 p1 u0 u1 f0 f1
  rcases hcase with ⟨i, A4, c4, hen, rfl, ho⟩ | ⟨⟨i, hfu⟩, rfl⟩
  · have HF := Lib.hid (runCycF_ended A1.out A2.out hen)
    clear hen
    generalize (cycSys (nums ts)).it ⟨a, xs⟩ i = zs at *
    obtain ⟨w5, hW_⟩ : ∃ W_, W_ = w4.alloc (.cells #[.int .i64 zs.at_, .slice A4 zs.word.length c4] 30) := ⟨_, rfl⟩
    have b5 : Blk w5 w4.heap.size 30 #[.int .i64 zs.at_, .slice A4 zs.word.length c4] := by rw [hW_]; exact Blk.new w4 _ _
    have z5 : Below w4.heap.size w4 w5 := by rw [hW_]; exact (Below.refl _ _).alloc (Nat.le_refl _) _
    have Hw5 := Lib.hid hW_
    clear hW_
    have e5 := (c2.below' z4).below' z5
    have y5 := y4.trans (z5.mono y4.size)
    have u0 : w5.cell? ⟨(w.heap.size + 1 + 1), 0, none⟩ = some (.int .i64 0) := e5.cell 0
    have u1 : w5.cell? ⟨(w.heap.size + 1 + 1), 1, none⟩ = some (.slice none 0 0) := e5.cell 1
    have p0 : w5.cell? ⟨w4.heap.size, 0, none⟩ = some (.int .i64 zs.at_) := b5.cell 0
    have p1 : w5.cell? ⟨w4.heap.size, 1, none⟩ = some (.slice A4 zs.word.length c4) := b5.cell 1
    have f0 := e5.frozen 0
    have f1 := e5.frozen 1
    go_upto_region 7 with fail
    rw [← Hw5.out]
    go_wp2_with fail
    have d1 := turn_set e5 (.int .i64 zs.at_) (.slice A4 zs.word.length c4)
    exact bodyPost_ret (v := .tuple #[.agg #[.int .i64 zs.at_, .slice A4 zs.word.length c4], .int .i64 (i : Int), .bool (decide (zs.word.length = 0)), .int .i64 0]) (by simp [results, Try.results16, go_sem, d1.cell 0, d1.cell 1]) rfl (tu4_of HF.out rfl rfl ((turn_far (ho.below z5) (by omega) _ _).mono (by omega)) (turn_below y5 (by omega) _ _))
  · have HF := Lib.hid (runCycF_full A1.out A2.out hfu)
    clear hfu
    obtain ⟨w5, hW_⟩ : ∃ W_, W_ = w4.alloc (.cells #[.int .i64 0, .slice none 0 0] 30) := ⟨_, rfl⟩
    have b5 : Blk w5 w4.heap.size 30 #[.int .i64 0, .slice none 0 0] := by rw [hW_]; exact Blk.new w4 _ _
    have z5 : Below w4.heap.size w4 w5 := by rw [hW_]; exact (Below.refl _ _).alloc (Nat.le_refl _) _
    have Hw5 := Lib.hid hW_
    clear hW_
    have e5 := (c2.below' z4).below' z5
    have y5 := y4.trans (z5.mono y4.size)
    have u0 : w5.cell? ⟨(w.heap.size + 1 + 1), 0, none⟩ = some (.int .i64 0) := e5.cell 0
    have u1 : w5.cell? ⟨(w.heap.size + 1 + 1), 1, none⟩ = some (.slice none 0 0) := e5.cell 1
    have f0 := e5.frozen 0
    have f1 := e5.frozen 1
    go_upto_region 7 with fail
    rw [← Hw5.out]
    go_wp2_with fail
    have d1 := turn_set e5 (.int .i64 0) (.slice none 0 0)
    exact bodyPost_ret (v := .tuple #[.agg #[.int .i64 0, .slice none 0 0], .int .i64 0, .bool false, .int .i64 5]) (by simp [results, Try.results16, go_sem, d1.cell 0, d1.cell 1]) rfl (tu4_nil HF.out (turn_below y5 (by omega) _ _))
end Go.Proofs.Ythipbeggaeogcaa
