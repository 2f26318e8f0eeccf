/-
  What TraceCyclic returns.
-/
import Derived.Test.YthipbeggaeogcaaRunCycI
import Derived.Test.YthipbeggaeogcaaTusM
namespace Go.Proofs.Ythipbeggaeogcaa
open Go.RowKit

/-- The first i turns of a run. -/
def tusTo (s : Sys Tu) (x : Tu) (i : Nat) : List Tu := (List.range i).map (s.it x)
theorem tusTo_next (s : Sys Tu) (x : Tu) (i : Nat) : tusTo s x (i + 1) = tusTo s x i ++ [s.it x i] := by unfold tusTo; rw [List.range_succ]; simp
theorem tusTo_len (s : Sys Tu) (x : Tu) (i : Nat) : (tusTo s x i).length = i := by simp [tusTo]
def traceCycF (words : List (List Int)) (x : Tu) (b : Int) : List Tu × Int :=
  if validTurnB words x then
    if inB b 0 60 then
      match (cycSys words).run b.toNat x with
      | some i => (tusTo (cycSys words) x (i + 1), 0)
      | none => ([], 5)
    else ([], 2)
  else ([], 1)
section
variable {words : List (List Int)} {x : Tu} {b : Int} {N i : Nat}
theorem traceCycF_bad (h : validTurnB words x = false) : traceCycF words x b = ([], 1) := by unfold traceCycF; rw [h]; simp
theorem traceCycF_range (h : validTurnB words x = true) (h1 : inB b 0 60 = false) : traceCycF words x b = ([], 2) := by unfold traceCycF; rw [h, h1]; simp
theorem traceCycF_ended (h : validTurnB words x = true) (h1 : inB (N : Int) 0 60 = true) (h2 : (cycSys words).Ended x N i) : traceCycF words x (N : Int) = (tusTo (cycSys words) x (i + 1), 0) := by
  unfold traceCycF; rw [h, h1, Int.toNat_natCast, Sys.run_ended h2]; simp
theorem traceCycF_full (h : validTurnB words x = true) (h1 : inB (N : Int) 0 60 = true) (h2 : (cycSys words).Full x N i) : traceCycF words x (N : Int) = ([], 5) := by
  unfold traceCycF; rw [h, h1, Int.toNat_natCast, Sys.run_full h2]; simp
end
theorem traceCycF_len (words : List (List Int)) (x : Tu) (b : Int) : (traceCycF words x b).1.length ≤ 1000 ∧ ∀ y ∈ (traceCycF words x b).1, y.word.length ≤ 1000 := by
  unfold traceCycF
  split
  · rename_i h
    split
    · rename_i h1
      have hb := (inB_iff _ _ _).1 h1
      split
      · rename_i i hi
        have h2 := Sys.run_le hi
        have h3 := Sys.run_alive hi
        have h4 : (tusTo (cycSys words) x (i + 1)).length = i + 1 := tusTo_len _ _ _
        refine ⟨by show (tusTo (cycSys words) x (i + 1)).length ≤ _; omega, fun y hy => ?_⟩
        simp only [tusTo, List.mem_map, List.mem_range] at hy
        obtain ⟨j, hj, rfl⟩ := hy
        exact (validTurn_parts (cycAlive_good h (fun k hk => h3 k (by omega)))).2.2.2.2.2.1
      · simp
    · simp
  · simp
/-- A new slice of turns, and a code. -/
def NewTs (w : World) (r : List Tu × Int) (e : Ending) (w' : World) : Prop :=
  ∃ A c us, e = .returned (.tuple #[.slice A r.1.length c, .int .i64 r.2]) ∧ OTs w' w.heap.size A r.1.length c us ∧ tus us = r.1 ∧ Below w.heap.size w w'
theorem newTs_nil {w wf : World} {k : Int} {r : List Tu × Int} (hr : r = ([], k)) (hz : Below w.heap.size w wf) : NewTs w r (.returned (.tuple #[.slice none 0 0, .int .i64 k])) wf := by
  subst hr; exact ⟨none, 0, [], rfl, OTs.nil Own.nil, rfl, hz⟩
theorem newTs_of {w wf : World} {k : Int} {r : List Tu × Int} {A : Option Addr} {n c : Nat} {us : List Tm} {M : List Tu} (hr : r = (M, k)) (hM : tus us = M) (ho : OTs wf w.heap.size A n c us) (hz : Below w.heap.size w wf) : NewTs w r (.returned (.tuple #[.slice A n c, .int .i64 k])) wf := by
  subst hr; subst hM
  have hn : (tus us).length = n := by have := ho.len; simpa [tus] using this
  subst hn
  exact ⟨A, c, us, rfl, ho, rfl, hz⟩
theorem tus_append (us : List Tm) (v : Tm) : tus (us ++ [v]) = tus us ++ [v.tu] := by simp [tus]

def TrTurn (w : World) (lo b9 i : Nat) (A : Option Addr) (us : List Tm) (x : Tu) (e : Ending) (w' : World) : Prop :=
  ∃ A2 a2 v, e = .returned (.bool true) ∧ Blk w' b9 41 #[.slice A2 (i + 1) a2] ∧ OTs w' lo A2 (i + 1) a2 (us ++ [v]) ∧ v.tu = x ∧ Keep (fun b => b = b9 ∨ blk A = some b) w w' ∧ (∀ b, blk A2 = some b → blk A = some b ∨ w.heap.size ≤ b) ∧ (∀ b, blk v.L = some b → w.heap.size ≤ b)

set_option maxRecDepth 100000 in
set_option maxHeartbeats 4000000 in
theorem traceTurn_any (u : Value) (b9 b8 g lo i a : Nat) (A : Option Addr) (us : List Tm) (x : Tu) (A0 : Option Addr) (n0 c0 : Nat) (Q : Option Addr) (r : Nat) (w : World) (hb : Blk w b9 41 #[.slice A i a]) (hb8 : Blk w b8 107 #[.pointer (some ⟨g, 0, none⟩)]) (hr : CRun w g A0 n0 c0 x.at_ Q x.word.length r) (hz : SI w Q x.word.length x.word) (ho : OTs w lo A i a us) (hl : x.word.length ≤ 1048576) (hi : i ≤ 1000) (hlo : lo ≤ w.heap.size) :
    Calls Try.prog 86 #[u, .pointer (some ⟨b9, 0, none⟩), .pointer (some ⟨b8, 0, none⟩)] w (TrTurn w lo b9 i A us x) := by
  have c9 : w.cell? ⟨b9, 0, none⟩ = some (.slice A i a) := hb.cell 0
  have c8 : w.cell? ⟨b8, 0, none⟩ = some (.pointer (some ⟨g, 0, none⟩)) := hb8.cell 0
  have f9 := hb.frozen 0
  obtain ⟨xa, xw⟩ := x
  dsimp only at hr hz hl
  go_enter Try.func86, Try.ntmps86
  go_wp2_with fail
  refine wp_region_any (by kernel_rfl) ?_
  try (change wpAny _ _ _ _ _ _ _ (World.drew _))
  refine wpAny_ready (rs := [0, 1]) (by kernel_rfl) (by simp) ?_
  refine AllReady.cons rfl (fun K hK => ?_) ?_
  · go_simp
    refine hK _ _ ?_
    clear hK K
    try simp only [Act.put, List.setIfInBounds_toArray, List.set_cons_zero, List.set_cons_succ]
    refine wpAny_ready (rs := [1]) (by kernel_rfl) (by simp) ?_
    refine AllReady.cons rfl (fun K hK => ?_) ?_
    · go_simp
      refine hK _ _ ?_
      clear hK K
      try simp only [Act.put, List.setIfInBounds_toArray, List.set_cons_zero, List.set_cons_succ]
      refine wpAny_ready (rs := [2]) (by kernel_rfl) (by simp) ?_
      refine AllReady.cons rfl (fun K hK => ?_) ?_
      · go_simp
        refine (cyclicTurn_any (w := w.drew) hr hz hl).mono ?_
        rintro e W7 ⟨A7, a7, rfl, o7, z7'⟩
        have z7 : Below w.heap.size w W7 := below_undrew (n := 1) z7'
        have hb7 := hb.below' z7
        have c97 : W7.cell? ⟨b9, 0, none⟩ = some (.slice A i a) := hb7.cell 0
        have l97 : b9 < W7.heap.size := hb7.lt
        have ho7 := ho.below z7
        clear z7'
        refine hK _ _ ?_
        clear hK K
        try simp only
        refine wpAny_ready (rs := [3]) (by kernel_rfl) (by simp) ?_
        refine AllReady.cons rfl (fun K hK => ?_) ?_
        · go_simp
          refine hK _ _ ?_
          clear hK K
          try simp only [Act.put, List.setIfInBounds_toArray, List.set_cons_zero, List.set_cons_succ]
          refine wpAny_ready (rs := [4]) (by kernel_rfl) (by simp) ?_
          refine AllReady.cons rfl (fun K hK => ?_) ?_
          · rw [if_pos (by rfl)]
            refine wp_append_Own (.tmp 5) (.tmp 8) rfl elTurn (lo := lo) rfl (ho7.spine.alloc _) rfl (Tm.new W7 ⟨xa, A7, a7, xw⟩) (fun u hu => Tm.one [⟨xa, A7, a7, xw⟩] u (by simpa using hu)) (by omega) (by simp only [maxLen]; omega) (by have := z7.size; simp; omega) ?_
            intro A8 c8' w8 ho8 hg8 hw8
            have b98 := (hb7.alloc _).growt (ho7.spine.alloc _) hg8 (by decide)
            have c98 : w8.cell? ⟨b9, 0, none⟩ = some (.slice A i a) := b98.cell 0
            have f98 : w8.frozen? ⟨b9, 0, none⟩ = false := b98.frozen 0
            refine hK _ _ ?_
            clear hK K
            try simp only [Act.put, List.setIfInBounds_toArray]
            refine wpAny_ready (rs := [5]) (by kernel_rfl) (by simp) ?_
            refine AllReady.cons rfl (fun K hK => ?_) ?_
            · go_simp
              refine hK _ _ ?_
              clear hK K
              try simp only [Act.put, List.setIfInBounds_toArray]
              refine wpAny_done (by kernel_rfl) ?_ _
              have hs := OTs.snoc (t := ⟨xa, A7, a7, xw⟩) ho (Nat.le_refl _) (ho7.alloc _) ho8 hg8 (o7.alloc _) hlo
              have hK : Keep (fun b => b = b9 ∨ blk A = some b) w (w8.setCell ⟨b9, 0, none⟩ (.slice A8 (i + 1) c8')) := ((((Keep.refl _ w).below z7).alloc _).grown hg8 (fun b hb => .inr hb)).set (.inl rfl) _
              have hres : TrTurn w lo b9 i A us ⟨xa, xw⟩ (.returned (.bool true)) (w8.setCell ⟨b9, 0, none⟩ (.slice A8 (i + 1) c8')) := ⟨A8, c8', ⟨xa, A7, a7, xw⟩, rfl, b98.set_ 0 _, hs.set_blk b98 (by decide) (by decide) _, rfl, hK, fun b hb => by
                have h9 := z7.size
                rcases hw8.1 with h | h
                · exact .inl (h ▸ hb)
                · rw [hb] at h; simp at h; exact .inr (by omega), fun b hb => o7.blk_ge b hb⟩
              generalize w8.setCell ⟨b9, 0, none⟩ (.slice A8 (i + 1) c8') = wf at *
              go_wp2_with fail
              go_ret
              exact hres
            exact AllReady.nil
          exact AllReady.nil
        exact AllReady.nil
      exact AllReady.nil
    exact AllReady.nil
  refine AllReady.cons rfl (fun K hK => ?_) ?_
  · go_simp
    refine hK _ _ ?_
    clear hK K
    try simp only [Act.put, List.setIfInBounds_toArray, List.set_cons_zero, List.set_cons_succ]
    refine wpAny_ready (rs := [0, 2]) (by kernel_rfl) (by simp) ?_
    refine AllReady.cons rfl (fun K hK => ?_) ?_
    · go_simp
      refine hK _ _ ?_
      clear hK K
      try simp only [Act.put, List.setIfInBounds_toArray, List.set_cons_zero, List.set_cons_succ]
      refine wpAny_ready (rs := [2]) (by kernel_rfl) (by simp) ?_
      refine AllReady.cons rfl (fun K hK => ?_) ?_
      · go_simp
        refine (cyclicTurn_any (w := w.drew) hr hz hl).mono ?_
        rintro e W7 ⟨A7, a7, rfl, o7, z7'⟩
        have z7 : Below w.heap.size w W7 := below_undrew (n := 1) z7'
        have hb7 := hb.below' z7
        have c97 : W7.cell? ⟨b9, 0, none⟩ = some (.slice A i a) := hb7.cell 0
        have l97 : b9 < W7.heap.size := hb7.lt
        have ho7 := ho.below z7
        clear z7'
        refine hK _ _ ?_
        clear hK K
        try simp only
        refine wpAny_ready (rs := [3]) (by kernel_rfl) (by simp) ?_
        refine AllReady.cons rfl (fun K hK => ?_) ?_
        · go_simp
          refine hK _ _ ?_
          clear hK K
          try simp only [Act.put, List.setIfInBounds_toArray, List.set_cons_zero, List.set_cons_succ]
          refine wpAny_ready (rs := [4]) (by kernel_rfl) (by simp) ?_
          refine AllReady.cons rfl (fun K hK => ?_) ?_
          · rw [if_pos (by rfl)]
            refine wp_append_Own (.tmp 5) (.tmp 8) rfl elTurn (lo := lo) rfl (ho7.spine.alloc _) rfl (Tm.new W7 ⟨xa, A7, a7, xw⟩) (fun u hu => Tm.one [⟨xa, A7, a7, xw⟩] u (by simpa using hu)) (by omega) (by simp only [maxLen]; omega) (by have := z7.size; simp; omega) ?_
            intro A8 c8' w8 ho8 hg8 hw8
            have b98 := (hb7.alloc _).growt (ho7.spine.alloc _) hg8 (by decide)
            have c98 : w8.cell? ⟨b9, 0, none⟩ = some (.slice A i a) := b98.cell 0
            have f98 : w8.frozen? ⟨b9, 0, none⟩ = false := b98.frozen 0
            refine hK _ _ ?_
            clear hK K
            try simp only [Act.put, List.setIfInBounds_toArray]
            refine wpAny_ready (rs := [5]) (by kernel_rfl) (by simp) ?_
            refine AllReady.cons rfl (fun K hK => ?_) ?_
            · go_simp
              refine hK _ _ ?_
              clear hK K
              try simp only [Act.put, List.setIfInBounds_toArray]
              refine wpAny_done (by kernel_rfl) ?_ _
              have hs := OTs.snoc (t := ⟨xa, A7, a7, xw⟩) ho (Nat.le_refl _) (ho7.alloc _) ho8 hg8 (o7.alloc _) hlo
              have hK : Keep (fun b => b = b9 ∨ blk A = some b) w (w8.setCell ⟨b9, 0, none⟩ (.slice A8 (i + 1) c8')) := ((((Keep.refl _ w).below z7).alloc _).grown hg8 (fun b hb => .inr hb)).set (.inl rfl) _
              have hres : TrTurn w lo b9 i A us ⟨xa, xw⟩ (.returned (.bool true)) (w8.setCell ⟨b9, 0, none⟩ (.slice A8 (i + 1) c8')) := ⟨A8, c8', ⟨xa, A7, a7, xw⟩, rfl, b98.set_ 0 _, hs.set_blk b98 (by decide) (by decide) _, rfl, hK, fun b hb => by
                have h9 := z7.size
                rcases hw8.1 with h | h
                · exact .inl (h ▸ hb)
                · rw [hb] at h; simp at h; exact .inr (by omega), fun b hb => o7.blk_ge b hb⟩
              generalize w8.setCell ⟨b9, 0, none⟩ (.slice A8 (i + 1) c8') = wf at *
              go_wp2_with fail
              go_ret
              exact hres
            exact AllReady.nil
          exact AllReady.nil
        exact AllReady.nil
      exact AllReady.nil
    refine AllReady.cons rfl (fun K hK => ?_) ?_
    · go_simp
      refine (cyclicTurn_any (w := w.drew) hr hz hl).mono ?_
      rintro e W7 ⟨A7, a7, rfl, o7, z7'⟩
      have z7 : Below w.heap.size w W7 := below_undrew (n := 1) z7'
      have hb7 := hb.below' z7
      have c97 : W7.cell? ⟨b9, 0, none⟩ = some (.slice A i a) := hb7.cell 0
      have l97 : b9 < W7.heap.size := hb7.lt
      have ho7 := ho.below z7
      clear z7'
      refine hK _ _ ?_
      clear hK K
      try simp only
      refine wpAny_ready (rs := [0, 3]) (by kernel_rfl) (by simp) ?_
      refine AllReady.cons rfl (fun K hK => ?_) ?_
      · go_simp
        refine hK _ _ ?_
        clear hK K
        try simp only [Act.put, List.setIfInBounds_toArray, List.set_cons_zero, List.set_cons_succ]
        refine wpAny_ready (rs := [3]) (by kernel_rfl) (by simp) ?_
        refine AllReady.cons rfl (fun K hK => ?_) ?_
        · go_simp
          refine hK _ _ ?_
          clear hK K
          try simp only [Act.put, List.setIfInBounds_toArray, List.set_cons_zero, List.set_cons_succ]
          refine wpAny_ready (rs := [4]) (by kernel_rfl) (by simp) ?_
          refine AllReady.cons rfl (fun K hK => ?_) ?_
          · rw [if_pos (by rfl)]
            refine wp_append_Own (.tmp 5) (.tmp 8) rfl elTurn (lo := lo) rfl (ho7.spine.alloc _) rfl (Tm.new W7 ⟨xa, A7, a7, xw⟩) (fun u hu => Tm.one [⟨xa, A7, a7, xw⟩] u (by simpa using hu)) (by omega) (by simp only [maxLen]; omega) (by have := z7.size; simp; omega) ?_
            intro A8 c8' w8 ho8 hg8 hw8
            have b98 := (hb7.alloc _).growt (ho7.spine.alloc _) hg8 (by decide)
            have c98 : w8.cell? ⟨b9, 0, none⟩ = some (.slice A i a) := b98.cell 0
            have f98 : w8.frozen? ⟨b9, 0, none⟩ = false := b98.frozen 0
            refine hK _ _ ?_
            clear hK K
            try simp only [Act.put, List.setIfInBounds_toArray]
            refine wpAny_ready (rs := [5]) (by kernel_rfl) (by simp) ?_
            refine AllReady.cons rfl (fun K hK => ?_) ?_
            · go_simp
              refine hK _ _ ?_
              clear hK K
              try simp only [Act.put, List.setIfInBounds_toArray]
              refine wpAny_done (by kernel_rfl) ?_ _
              have hs := OTs.snoc (t := ⟨xa, A7, a7, xw⟩) ho (Nat.le_refl _) (ho7.alloc _) ho8 hg8 (o7.alloc _) hlo
              have hK : Keep (fun b => b = b9 ∨ blk A = some b) w (w8.setCell ⟨b9, 0, none⟩ (.slice A8 (i + 1) c8')) := ((((Keep.refl _ w).below z7).alloc _).grown hg8 (fun b hb => .inr hb)).set (.inl rfl) _
              have hres : TrTurn w lo b9 i A us ⟨xa, xw⟩ (.returned (.bool true)) (w8.setCell ⟨b9, 0, none⟩ (.slice A8 (i + 1) c8')) := ⟨A8, c8', ⟨xa, A7, a7, xw⟩, rfl, b98.set_ 0 _, hs.set_blk b98 (by decide) (by decide) _, rfl, hK, fun b hb => by
                have h9 := z7.size
                rcases hw8.1 with h | h
                · exact .inl (h ▸ hb)
                · rw [hb] at h; simp at h; exact .inr (by omega), fun b hb => o7.blk_ge b hb⟩
              generalize w8.setCell ⟨b9, 0, none⟩ (.slice A8 (i + 1) c8') = wf at *
              go_wp2_with fail
              go_ret
              exact hres
            exact AllReady.nil
          exact AllReady.nil
        exact AllReady.nil
      refine AllReady.cons rfl (fun K hK => ?_) ?_
      · go_simp
        refine hK _ _ ?_
        clear hK K
        try simp only [Act.put, List.setIfInBounds_toArray, List.set_cons_zero, List.set_cons_succ]
        refine wpAny_ready (rs := [0]) (by kernel_rfl) (by simp) ?_
        refine AllReady.cons rfl (fun K hK => ?_) ?_
        · go_simp
          refine hK _ _ ?_
          clear hK K
          try simp only [Act.put, List.setIfInBounds_toArray, List.set_cons_zero, List.set_cons_succ]
          refine wpAny_ready (rs := [4]) (by kernel_rfl) (by simp) ?_
          refine AllReady.cons rfl (fun K hK => ?_) ?_
          · rw [if_pos (by rfl)]
            refine wp_append_Own (.tmp 5) (.tmp 8) rfl elTurn (lo := lo) rfl (ho7.spine.alloc _) rfl (Tm.new W7 ⟨xa, A7, a7, xw⟩) (fun u hu => Tm.one [⟨xa, A7, a7, xw⟩] u (by simpa using hu)) (by omega) (by simp only [maxLen]; omega) (by have := z7.size; simp; omega) ?_
            intro A8 c8' w8 ho8 hg8 hw8
            have b98 := (hb7.alloc _).growt (ho7.spine.alloc _) hg8 (by decide)
            have c98 : w8.cell? ⟨b9, 0, none⟩ = some (.slice A i a) := b98.cell 0
            have f98 : w8.frozen? ⟨b9, 0, none⟩ = false := b98.frozen 0
            refine hK _ _ ?_
            clear hK K
            try simp only [Act.put, List.setIfInBounds_toArray]
            refine wpAny_ready (rs := [5]) (by kernel_rfl) (by simp) ?_
            refine AllReady.cons rfl (fun K hK => ?_) ?_
            · go_simp
              refine hK _ _ ?_
              clear hK K
              try simp only [Act.put, List.setIfInBounds_toArray]
              refine wpAny_done (by kernel_rfl) ?_ _
              have hs := OTs.snoc (t := ⟨xa, A7, a7, xw⟩) ho (Nat.le_refl _) (ho7.alloc _) ho8 hg8 (o7.alloc _) hlo
              have hK : Keep (fun b => b = b9 ∨ blk A = some b) w (w8.setCell ⟨b9, 0, none⟩ (.slice A8 (i + 1) c8')) := ((((Keep.refl _ w).below z7).alloc _).grown hg8 (fun b hb => .inr hb)).set (.inl rfl) _
              have hres : TrTurn w lo b9 i A us ⟨xa, xw⟩ (.returned (.bool true)) (w8.setCell ⟨b9, 0, none⟩ (.slice A8 (i + 1) c8')) := ⟨A8, c8', ⟨xa, A7, a7, xw⟩, rfl, b98.set_ 0 _, hs.set_blk b98 (by decide) (by decide) _, rfl, hK, fun b hb => by
                have h9 := z7.size
                rcases hw8.1 with h | h
                · exact .inl (h ▸ hb)
                · rw [hb] at h; simp at h; exact .inr (by omega), fun b hb => o7.blk_ge b hb⟩
              generalize w8.setCell ⟨b9, 0, none⟩ (.slice A8 (i + 1) c8') = wf at *
              go_wp2_with fail
              go_ret
              exact hres
            exact AllReady.nil
          exact AllReady.nil
        exact AllReady.nil
      exact AllReady.nil
    exact AllReady.nil
  exact AllReady.nil
end Go.Proofs.Ythipbeggaeogcaa
