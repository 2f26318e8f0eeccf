/-
  Contract of the function that CollatzNumbers hands to runSystem.
-/
import Derived.Test.YthipbeggaeogcaaCollP
import Derived.Deep.RegionWith
namespace Go.Proofs.Ythipbeggaeogcaa
open Go.RowKit

def CoVis (w : World) (lo b9 : Nat) (A : Option Addr) (vs xs : List Int) (e : Ending) (w' : World) : Prop :=
  ∃ A2 a2 us, e = .returned (.bool true) ∧ us = (if zeroB xs = true then vs ++ [(xs.length : Int)] else vs) ∧ Blk w' b9 25 #[.slice A2 us.length a2] ∧ Own w' lo 2 1 A2 us.length a2 (ints us) ∧ Keep (fun b => b = b9 ∨ blk A = some b) w w' ∧ (∀ b, blk A2 = some b → blk A = some b ∨ w.heap.size ≤ b)

set_option maxRecDepth 100000 in
set_option maxHeartbeats 4000000 in
theorem collVisit_any (Q : Option Addr) (r b9 lo a : Nat) (A : Option Addr) (vs xs : List Int) (w : World) (hb : Blk w b9 25 #[.slice A vs.length a]) (ho : Own w lo 2 1 A vs.length a (ints vs)) (hx : SI w Q xs.length xs) (hl : xs.length ≤ 1048576) (hi : vs.length ≤ 100000) (hlo : lo ≤ w.heap.size) :
    Calls Try.prog 102 #[.slice Q xs.length r, .pointer (some ⟨b9, 0, none⟩)] w (CoVis w lo b9 A vs xs) := by
  have c9 : w.cell? ⟨b9, 0, none⟩ = some (.slice A vs.length a) := hb.cell 0
  have f9 := hb.frozen 0
  have l9 : b9 < w.heap.size := hb.lt
  cases hz : allIn xs 0 0 with
  | false =>
    have HZ := Lib.hid hz
    go_enter Try.func102, Try.ntmps102
    go_wp2_with (go_at_call 103; refine (allWithin_any _ _ _ xs _ _ _ hx (by omega)).mono ?_; rw [HZ.out]; rintro e w' ⟨rfl, rfl⟩)
    go_ret
    exact ⟨A, a, vs, rfl, by rw [if_neg (by unfold zeroB; rw [HZ.out]; simp)], hb, ho, Keep.refl _ _, fun b hb => .inl hb⟩
  | true =>
    have HZ := Lib.hid hz
    clear hz
    go_enter Try.func102, Try.ntmps102
    go_wp2_with (go_at_call 103; refine (allWithin_any _ _ _ xs _ _ _ hx (by omega)).mono ?_; rw [HZ.out]; rintro e w' ⟨rfl, rfl⟩)
    refine wp_region_any (by kernel_rfl) ?_
    try (change wpAny _ _ _ _ _ _ _ (World.drew _))
    refine wpAny_take (i := 1) (v := ?_) rfl (by kernel_rfl) (by kernel_rfl) (by kernel_rfl) (fun _ _ _ h => h) (Or.inl ⟨by rfl, ?_⟩) ?_
    rotate_left
    · intro w
      go_simp
      try with_reducible rfl
    try simp only [Act.put, List.setIfInBounds_toArray, List.set_cons_zero, List.set_cons_succ]
    refine wpAny_ready (rs := [0, 2]) (by kernel_rfl) (by simp) ?_
    refine AllReady.cons rfl (fun K hK => ?_) ?_
    · go_simp
      refine hK _ _ ?_
      clear hK K
      try simp only [Act.put, List.setIfInBounds_toArray, List.set_cons_zero, List.set_cons_succ]
      refine wpAny_ready (rs := [2]) (by kernel_rfl) (by simp) ?_
      refine AllReady.cons rfl (fun K hK => ?_) ?_
      · go_simp
        refine (sizeI_any _ _ _ _ (by omega)).mono ?_
        rintro e w' ⟨rfl, rfl⟩
        refine hK _ _ ?_
        clear hK K
        try simp only [Act.put, List.setIfInBounds_toArray, List.set_cons_zero, List.set_cons_succ]
        refine wpAny_ready (rs := [3]) (by kernel_rfl) (by simp) ?_
        refine AllReady.cons rfl (fun K hK => ?_) ?_
        · go_simp
          refine hK _ _ ?_
          clear hK K
          try simp only [Act.put, List.setIfInBounds_toArray, List.set_cons_zero, List.set_cons_succ]
          refine wpAny_ready (rs := [4]) (by kernel_rfl) (by simp) ?_
          refine AllReady.cons rfl (fun K hK => ?_) ?_
          · try rw [if_pos (by rfl)]
            refine wp_append_Own (.tmp 6) (.tmp 9) rfl elI (lo := lo) rfl ((ho.drewN 1).alloc _) rfl (Rd.new1 _ _ _) (by simp [Value.oneCell']) (by omega) (by simp only [maxLen]; omega) (by simp; omega) ?_
            intro A8 c8 w8 ho8 hg8 hw8
            have b98 : Blk w8 b9 25 #[.slice A vs.length a] := Blk.growt (Blk.alloc (w := w.drewN 1) hb _) ((ho.drewN 1).alloc _) hg8 (by decide)
            have c98 : w8.cell? ⟨b9, 0, none⟩ = some (.slice A vs.length a) := b98.cell 0
            have f98 : w8.frozen? ⟨b9, 0, none⟩ = false := b98.frozen 0
            refine hK _ _ ?_
            clear hK K
            try simp only [Act.put, List.setIfInBounds_toArray, List.set_cons_zero, List.set_cons_succ]
            refine wpAny_ready (rs := [5]) (by kernel_rfl) (by simp) ?_
            refine AllReady.cons rfl (fun K hK => ?_) ?_
            · go_simp
              refine hK _ _ ?_
              clear hK K
              try simp only [Act.put, List.setIfInBounds_toArray]
              refine wpAny_done (by kernel_rfl) ?_ _
              have hK : Keep (fun b => b = b9 ∨ blk A = some b) w (w8.setCell ⟨b9, 0, none⟩ (.slice A8 (vs.length + 1) c8)) := (((((Keep.refl _ w).drewN 1).alloc _).grown hg8 (fun b hb => .inr hb)).set (.inl rfl) _)
              have hown : Own w8 lo 2 1 A8 (vs.length + 1) c8 (ints (vs ++ [(xs.length : Int)])) := by rw [← ints_append]; exact ho8
              have hres : CoVis w lo b9 A vs xs (.returned (.bool true)) (w8.setCell ⟨b9, 0, none⟩ (.slice A8 (vs.length + 1) c8)) := ⟨A8, c8, vs ++ [(xs.length : Int)], rfl, by rw [if_pos (show zeroB xs = true from HZ.out)], by rw [List.length_append]; exact b98.set_ 0 _, by rw [List.length_append]; exact hown.far (p := ⟨b9, 0, none⟩) (b98.aptt hown (by decide)) _, hK, fun b hb => by
                rcases hw8.1 with h | h
                · exact .inl (h ▸ hb)
                · rw [hb] at h; simp at h; exact .inr (by omega)⟩
              generalize w8.setCell ⟨b9, 0, none⟩ (.slice A8 (vs.length + 1) c8) = wf at *
              go_wp2_with fail
              go_ret
              exact hres
            exact AllReady.nil
          exact AllReady.nil
        exact AllReady.nil
      exact AllReady.nil
    refine AllReady.cons rfl (fun K hK => ?_) ?_
    · go_simp
      refine (sizeI_any _ _ _ _ (by omega)).mono ?_
      rintro e w' ⟨rfl, rfl⟩
      refine hK _ _ ?_
      clear hK K
      try simp only [Act.put, List.setIfInBounds_toArray, List.set_cons_zero, List.set_cons_succ]
      refine wpAny_ready (rs := [0, 3]) (by kernel_rfl) (by simp) ?_
      refine AllReady.cons rfl (fun K hK => ?_) ?_
      · go_simp
        refine hK _ _ ?_
        clear hK K
        try simp only [Act.put, List.setIfInBounds_toArray, List.set_cons_zero, List.set_cons_succ]
        refine wpAny_ready (rs := [3]) (by kernel_rfl) (by simp) ?_
        refine AllReady.cons rfl (fun K hK => ?_) ?_
        · go_simp
          refine hK _ _ ?_
          clear hK K
          try simp only [Act.put, List.setIfInBounds_toArray, List.set_cons_zero, List.set_cons_succ]
          refine wpAny_ready (rs := [4]) (by kernel_rfl) (by simp) ?_
          refine AllReady.cons rfl (fun K hK => ?_) ?_
          · try rw [if_pos (by rfl)]
            refine wp_append_Own (.tmp 6) (.tmp 9) rfl elI (lo := lo) rfl ((ho.drewN 1).alloc _) rfl (Rd.new1 _ _ _) (by simp [Value.oneCell']) (by omega) (by simp only [maxLen]; omega) (by simp; omega) ?_
            intro A8 c8 w8 ho8 hg8 hw8
            have b98 : Blk w8 b9 25 #[.slice A vs.length a] := Blk.growt (Blk.alloc (w := w.drewN 1) hb _) ((ho.drewN 1).alloc _) hg8 (by decide)
            have c98 : w8.cell? ⟨b9, 0, none⟩ = some (.slice A vs.length a) := b98.cell 0
            have f98 : w8.frozen? ⟨b9, 0, none⟩ = false := b98.frozen 0
            refine hK _ _ ?_
            clear hK K
            try simp only [Act.put, List.setIfInBounds_toArray, List.set_cons_zero, List.set_cons_succ]
            refine wpAny_ready (rs := [5]) (by kernel_rfl) (by simp) ?_
            refine AllReady.cons rfl (fun K hK => ?_) ?_
            · go_simp
              refine hK _ _ ?_
              clear hK K
              try simp only [Act.put, List.setIfInBounds_toArray]
              refine wpAny_done (by kernel_rfl) ?_ _
              have hK : Keep (fun b => b = b9 ∨ blk A = some b) w (w8.setCell ⟨b9, 0, none⟩ (.slice A8 (vs.length + 1) c8)) := (((((Keep.refl _ w).drewN 1).alloc _).grown hg8 (fun b hb => .inr hb)).set (.inl rfl) _)
              have hown : Own w8 lo 2 1 A8 (vs.length + 1) c8 (ints (vs ++ [(xs.length : Int)])) := by rw [← ints_append]; exact ho8
              have hres : CoVis w lo b9 A vs xs (.returned (.bool true)) (w8.setCell ⟨b9, 0, none⟩ (.slice A8 (vs.length + 1) c8)) := ⟨A8, c8, vs ++ [(xs.length : Int)], rfl, by rw [if_pos (show zeroB xs = true from HZ.out)], by rw [List.length_append]; exact b98.set_ 0 _, by rw [List.length_append]; exact hown.far (p := ⟨b9, 0, none⟩) (b98.aptt hown (by decide)) _, hK, fun b hb => by
                rcases hw8.1 with h | h
                · exact .inl (h ▸ hb)
                · rw [hb] at h; simp at h; exact .inr (by omega)⟩
              generalize w8.setCell ⟨b9, 0, none⟩ (.slice A8 (vs.length + 1) c8) = wf at *
              go_wp2_with fail
              go_ret
              exact hres
            exact AllReady.nil
          exact AllReady.nil
        exact AllReady.nil
      refine AllReady.cons rfl (fun K hK => ?_) ?_
      · go_simp
        refine hK _ _ ?_
        clear hK K
        try simp only [Act.put, List.setIfInBounds_toArray, List.set_cons_zero, List.set_cons_succ]
        refine wpAny_ready (rs := [0]) (by kernel_rfl) (by simp) ?_
        refine AllReady.cons rfl (fun K hK => ?_) ?_
        · go_simp
          refine hK _ _ ?_
          clear hK K
          try simp only [Act.put, List.setIfInBounds_toArray, List.set_cons_zero, List.set_cons_succ]
          refine wpAny_ready (rs := [4]) (by kernel_rfl) (by simp) ?_
          refine AllReady.cons rfl (fun K hK => ?_) ?_
          · try rw [if_pos (by rfl)]
            refine wp_append_Own (.tmp 6) (.tmp 9) rfl elI (lo := lo) rfl ((ho.drewN 1).alloc _) rfl (Rd.new1 _ _ _) (by simp [Value.oneCell']) (by omega) (by simp only [maxLen]; omega) (by simp; omega) ?_
            intro A8 c8 w8 ho8 hg8 hw8
            have b98 : Blk w8 b9 25 #[.slice A vs.length a] := Blk.growt (Blk.alloc (w := w.drewN 1) hb _) ((ho.drewN 1).alloc _) hg8 (by decide)
            have c98 : w8.cell? ⟨b9, 0, none⟩ = some (.slice A vs.length a) := b98.cell 0
            have f98 : w8.frozen? ⟨b9, 0, none⟩ = false := b98.frozen 0
            refine hK _ _ ?_
            clear hK K
            try simp only [Act.put, List.setIfInBounds_toArray, List.set_cons_zero, List.set_cons_succ]
            refine wpAny_ready (rs := [5]) (by kernel_rfl) (by simp) ?_
            refine AllReady.cons rfl (fun K hK => ?_) ?_
            · go_simp
              refine hK _ _ ?_
              clear hK K
              try simp only [Act.put, List.setIfInBounds_toArray]
              refine wpAny_done (by kernel_rfl) ?_ _
              have hK : Keep (fun b => b = b9 ∨ blk A = some b) w (w8.setCell ⟨b9, 0, none⟩ (.slice A8 (vs.length + 1) c8)) := (((((Keep.refl _ w).drewN 1).alloc _).grown hg8 (fun b hb => .inr hb)).set (.inl rfl) _)
              have hown : Own w8 lo 2 1 A8 (vs.length + 1) c8 (ints (vs ++ [(xs.length : Int)])) := by rw [← ints_append]; exact ho8
              have hres : CoVis w lo b9 A vs xs (.returned (.bool true)) (w8.setCell ⟨b9, 0, none⟩ (.slice A8 (vs.length + 1) c8)) := ⟨A8, c8, vs ++ [(xs.length : Int)], rfl, by rw [if_pos (show zeroB xs = true from HZ.out)], by rw [List.length_append]; exact b98.set_ 0 _, by rw [List.length_append]; exact hown.far (p := ⟨b9, 0, none⟩) (b98.aptt hown (by decide)) _, hK, fun b hb => by
                rcases hw8.1 with h | h
                · exact .inl (h ▸ hb)
                · rw [hb] at h; simp at h; exact .inr (by omega)⟩
              generalize w8.setCell ⟨b9, 0, none⟩ (.slice A8 (vs.length + 1) c8) = wf at *
              go_wp2_with fail
              go_ret
              exact hres
            exact AllReady.nil
          exact AllReady.nil
        exact AllReady.nil
      exact AllReady.nil
    exact AllReady.nil
end Go.Proofs.Ythipbeggaeogcaa
