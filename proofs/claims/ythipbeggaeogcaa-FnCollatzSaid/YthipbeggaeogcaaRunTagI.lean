/-
  Contract of impl.RunTag.
-/
import Derived.Test.YthipbeggaeogcaaTagR
import Derived.Test.YthipbeggaeogcaaBudget
namespace Go.Proofs.Ythipbeggaeogcaa
open Go.RowKit

/-- A new slice, a number, a Bool and a code. -/
def NewI4 (w : World) (r : List Int × Int × Bool × Int) (e : Ending) (w' : World) : Prop :=
  ∃ A c, e = .returned (.tuple #[.slice A r.1.length c, .int .i64 r.2.1, .bool r.2.2.1, .int .i64 r.2.2.2]) ∧ Own w' w.heap.size 2 1 A r.1.length c (ints r.1) ∧ Below w.heap.size w w'
theorem i4_nil {w wf : World} {k : Int} {r : List Int × Int × Bool × Int} (hr : r = ([], 0, false, k)) (hz : Below w.heap.size w wf) : NewI4 w r (.returned (.tuple #[.slice none 0 0, .int .i64 0, .bool false, .int .i64 k])) wf := by
  subst hr; exact ⟨none, 0, rfl, Own.nil, hz⟩
theorem i4_of {w wf : World} {n' k : Int} {b : Bool} {r : List Int × Int × Bool × Int} {xs : List Int} {A : Option Addr} {n c : Nat} (hr : r = (xs, n', b, k)) (hn : n = xs.length) (ho : Own wf w.heap.size 2 1 A n c (ints xs)) (hz : Below w.heap.size w wf) : NewI4 w r (.returned (.tuple #[.slice A n c, .int .i64 n', .bool b, .int .i64 k])) wf := by
  subst hr; subst hn; exact ⟨A, c, rfl, ho, hz⟩
theorem runTagF_bad {d : Int} {words : List (List Int)} {hs xs : List Int} {b : Int} (h : tagCodeF d words hs xs = 1) : runTagF d words hs xs b = ([], 0, false, 1) := by unfold runTagF; rw [h]; simp
theorem runTagF_range {d : Int} {words : List (List Int)} {hs xs : List Int} {b : Int} (h : tagCodeF d words hs xs = 0) (h1 : inB b 1 20000 = false) : runTagF d words hs xs b = ([], 0, false, 2) := by unfold runTagF; rw [h, h1]; simp
theorem runTagF_ended {d : Int} {words : List (List Int)} {hs xs : List Int} {N i : Nat} (h : tagCodeF d words hs xs = 0) (h1 : inB (N : Int) 1 20000 = true) (h2 : (tagSys d words hs).Ended xs N i) :
    runTagF d words hs xs (N : Int) = ((tagSys d words hs).it xs i, (i : Int), haltsB d hs ((tagSys d words hs).it xs i), 0) := by
  unfold runTagF; rw [h, h1, Int.toNat_natCast, Sys.run_ended h2]; simp
theorem runTagF_full {d : Int} {words : List (List Int)} {hs xs : List Int} {N i : Nat} (h : tagCodeF d words hs xs = 0) (h1 : inB (N : Int) 1 20000 = true) (h2 : (tagSys d words hs).Full xs N i) :
    runTagF d words hs xs (N : Int) = ([], 0, false, 5) := by
  unfold runTagF; rw [h, h1, Int.toNat_natCast, Sys.run_full h2]; simp
theorem runTagF_len (d : Int) (words : List (List Int)) (hs xs : List Int) (b : Int) : (runTagF d words hs xs b).1.length ≤ 1048576 := by
  unfold runTagF
  split
  · rename_i h
    split
    · split
      · rename_i i hi
        have := (tagCode_parts (tagAlive_good h (Sys.run_alive hi))).2.2.2.1
        show ((tagSys d words hs).it xs i).length ≤ _
        omega
      · simp
    · simp
  · simp

theorem all_any (v : Value) (w : World) : Calls Try.prog 80 #[v] w fun e w' => e = .returned (.bool true) ∧ w = w' := by
  go_enter Try.func80, Try.ntmps80
  go_wp2_with fail
  go_ret
  exact ⟨rfl, rfl⟩

set_option maxRecDepth 100000 in
set_option maxHeartbeats 4000000 in
theorem runTagI_any (d : Int) (A : Option Addr) (n c : Nat) (ts : List Sl) (B : Option Addr) (m k : Nat) (hs : List Int) (C : Option Addr) (l r : Nat) (xs : List Int) (b : Int) (w : World) (hx : SII w A n ts) (hy : SI w B m hs) (hz : SI w C l xs) (hn : n ≤ 1048576) (hm : m ≤ 1048576) (hns : ∀ t ∈ ts, t.xs.length ≤ 1048576) (hl : l ≤ 1048576) :
    Calls Try.prog 45 #[.agg #[.int .i64 d, .slice A n c, .slice B m k], .slice C l r, .int .i64 b] w (NewI4 w (runTagF d (nums ts) hs xs b)) := by
  obtain ⟨W, hW_⟩ : ∃ W, W = w.alloc (.cells #[.int .i64 d, .slice A n c, .slice B m k] 51) := ⟨_, rfl⟩
  have b0 : Blk W w.heap.size 51 #[.int .i64 d, .slice A n c, .slice B m k] := by rw [hW_]; exact Blk.new w _ _
  have y0 : Below w.heap.size w W := by rw [hW_]; exact (Below.refl _ _).alloc (Nat.le_refl _) _
  have HW := Lib.hid hW_
  clear hW_
  have q0 : W.cell? ⟨w.heap.size, 0, none⟩ = some (.int .i64 d) := b0.cell 0
  have q1 : W.cell? ⟨w.heap.size, 1, none⟩ = some (.slice A n c) := b0.cell 1
  have q2 : W.cell? ⟨w.heap.size, 2, none⟩ = some (.slice B m k) := b0.cell 2
  have HNS := Lib.hid hns
  clear hns
  go_enter Try.func45, Try.ntmps45
  go_wp2_with fail
  rw [← HW.out]
  refine (tagCode_any _ _ _ _ ts _ _ _ hs _ _ _ xs _ (hx.below y0) (hy.below y0) (hz.below y0) hn hm hl (fun t ht => by have := HNS.out t ht; omega)).mono ?_
  rintro e w2 ⟨rfl, hb2⟩
  have y2 := y0.trans (hb2.mono y0.size)
  have b2 := b0.below' hb2
  clear q0 q1 q2
  have q0 : w2.cell? ⟨w.heap.size, 0, none⟩ = some (.int .i64 d) := b2.cell 0
  have q1 : w2.cell? ⟨w.heap.size, 1, none⟩ = some (.slice A n c) := b2.cell 1
  have q2 : w2.cell? ⟨w.heap.size, 2, none⟩ = some (.slice B m k) := b2.cell 2
  rcases tagCode_01 d (nums ts) hs xs with hcode | hcode
  rotate_left
  · have HF := Lib.hid (runTagF_bad (b := b) hcode)
    rw [hcode]
    clear hcode
    go_wp2_with fail
    exact bodyPost_ret (v := .tuple #[.slice none 0 0, .int .i64 0, .bool false, .int .i64 1]) (by simp [results, Try.results45, go_sem]) rfl (i4_nil HF.out y2)
  have HC := Lib.hid hcode
  rw [hcode]
  clear hcode
  cases a2 : inB b 1 20000
  · have HF := Lib.hid (runTagF_range HC.out a2)
    have A2 := Lib.hid a2
    clear a2
    go_wp2_with (go_at_call 77; refine (budgetOk_is A2.out _).mono ?_; rintro e w' ⟨rfl, rfl⟩)
    exact bodyPost_ret (v := .tuple #[.slice none 0 0, .int .i64 0, .bool false, .int .i64 2]) (by simp [results, Try.results45, go_sem]) rfl (i4_nil HF.out y2)
  have A2 := Lib.hid a2
  have hb := (inB_iff _ _ _).1 a2
  obtain ⟨N, rfl⟩ : ∃ N : Nat, b = (N : Int) := ⟨b.toNat, by omega⟩
  clear a2
  go_wp2_with (go_at_call 77; refine (budgetOk_is A2.out _).mono ?_; rintro e w' ⟨rfl, rfl⟩)
  refine (tagRunOf_any _ _ _ _ _ _ _ _ _ _ xs _ (hz.below y2) hl).mono ?_
  rintro e w3 ⟨g, Q, r3, rfl, hg3, hr3, ho3, hb3⟩
  have y3 := y2.trans (hb3.mono y2.size)
  clear q0 q1 q2
  obtain ⟨p, hp⟩ : ∃ p : Tg, p = ⟨w2, g, d, A, n, c, ts, B, m, k, hs, xs⟩ := ⟨_, rfl⟩
  have hok : p.Ok := by rw [hp]; exact ⟨HC.out, hx.below y2, hy.below y2, hg3, hn, hm⟩
  have h0 : TgS p 0 (fun _ _ => True) w3 := by
    rw [hp]
    exact ⟨_, Q, r3, fun _ => False, rfl, ⟨id, fun _ h => h.elim, hr3, ho3, fun _ _ h => h, hb3⟩, trivial⟩
  have hrun := runTagSys p hok N 80 #[] (fun _ => true) (fun _ _ _ => True) (fun _ _ _ _ _ _ => trivial) w3 (by omega) Try.call80 (fun i u W _ _ hv => (all_any u W).mono fun e W' ⟨he, hW⟩ => ⟨he, u, hW ▸ hv⟩) h0
  have hpg : p.g = g := by rw [hp]
  rw [hpg] at hrun
  have HRUN := Lib.hid hrun
  have HP := Lib.hid hp
  clear hrun hp h0 hpg hok
  go_wp2_with fail
  refine HRUN.out.mono ?_
  rintro e w4 (⟨i, hi, hal, _, hend, rfl, ⟨u, Q4, r4, X, _, ho, _⟩⟩ | ⟨i, hi, hal, _, hh, hro, rfl, hF⟩)
  · have hen : (tagSys d (nums ts) hs).Ended xs N i := by
      rw [HP.out] at hal hend
      exact ⟨hi, hal, by rcases hend with h | h | h; · cases h
                         · exact .inl h
                         · exact .inr h⟩
    have HF := Lib.hid (runTagF_ended HC.out A2.out hen)
    have hit : p.it i = (tagSys d (nums ts) hs).it xs i := by rw [HP.out]
    have hhal : p.sys.halt (p.it i) = haltsB d hs ((tagSys d (nums ts) hs).it xs i) := by rw [HP.out]; rfl
    have hlow : Below w2.heap.size w2 w4 := by have := ho.low; rwa [HP.out] at this
    have hrn : RunAt w4 g d A n c B m k Q4 (p.it i).length r4 := by have := ho.run; rwa [HP.out] at this ⊢
    have hown := ho.own.rd
    rw [hit] at hrn hown
    rw [show p.sys.halt (p.sys.it p.xs i) = _ from hhal]
    have hlen := (tagCode_parts (tagAlive_good HC.out hen.2.1)).2.2.2.1
    have y4 := y2.trans (hlow.mono y2.size)
    clear ho hal hend hen hit hhal
    generalize (tagSys d (nums ts) hs).it xs i = zs at *
    have k3 : w4.cell? ⟨g, 3, none⟩ = some (.slice Q4 zs.length r4) := (runAt_cell hrn).2.2.2
    go_wp2_with fail
    refine (cloneI_any _ _ _ zs _ hown (by omega)).mono ?_
    rintro e w5 ⟨A5, c5, rfl, ho5, hb5⟩
    go_wp2_with fail
    exact bodyPost_ret (v := .tuple #[.slice A5 zs.length c5, .int .i64 (i : Int), .bool (haltsB d hs zs), .int .i64 0]) (by simp [results, Try.results45, go_sem]) rfl (i4_of HF.out rfl (ho5.mono y4.size) (y4.trans (hb5.mono y4.size)))
  · have hfu : (tagSys d (nums ts) hs).Full xs N i := by
      rw [HP.out] at hal hh hro
      exact ⟨hi, hal, hh, hro⟩
    have HF := Lib.hid (runTagF_full HC.out A2.out hfu)
    have hlow : Below w2.heap.size w2 w4 := by have := hF; rwa [HP.out] at this
    clear hal hh hro hfu
    go_wp2_with fail
    exact bodyPost_ret (v := .tuple #[.slice none 0 0, .int .i64 0, .bool false, .int .i64 5]) (by simp [results, Try.results45, go_sem]) rfl (i4_nil HF.out (y2.trans (hlow.mono y2.size)))
end Go.Proofs.Ythipbeggaeogcaa
